/- Parts of the proof: walks of functions and plain laws. -/
import Derived.Test.YtlfehdikgbgloaaP10
import Derived.Test.YtlfehdikgbgloaaP8
import Derived.Laws.CopyOwn
import Derived.Shelf.Bits.Mul64
import Derived.Test.YtlfehdikgbgloaaP12
import Derived.Test.YtlfehdikgbgloaaP0
import Derived.LoopN
import Derived.RangeFuncNested
import Derived.RangeFuncBound
import Derived.RangeFuncCalls
import Derived.RangeFuncLeaves
import Derived.RangeFuncBox
import Derived.Shelf.Abstract
import Derived.Shelf.RegionOpen
import Derived.OwnWalkIn
import Derived.TacticsInMore
import Derived.LoopNIn
import Derived.LoopIn
import Derived.Test.YtlfehdikgbgloaaP1
import Derived.Test.YtlfehdikgbgloaaP11
import Derived.Test.YtlfehdikgbgloaaP9
import Derived.Test.YtlfehdikgbgloaaP4
namespace Go.Proofs.Ytlfehdikgbgloaa
open Go.RowKit
def repRow (x : Int) (N j : Nat) : List Value := List.replicate j (.int .i64 x) ++ List.replicate (N - j) (.int .i64 0)
theorem repRow_len {x : Int} {N j : Nat} (h : j ≤ N) : (repRow x N j).length = N := by simp [repRow]; omega
theorem repRow_splice {x : Int} {N j m : Nat} (h : j + m ≤ N) : splice (repRow x N j) j (List.replicate m (.int .i64 x)) = repRow x N (j + m) := by
  unfold splice repRow
  rw [List.take_append_of_le_length (by simp), List.take_replicate, Nat.min_self, List.length_replicate, List.drop_append, List.drop_replicate, List.length_replicate, List.drop_replicate, show j - (j + m) = 0 by omega, show N - j - (j + m - j) = N - (j + m) by omega, List.replicate_zero, List.nil_append, ← List.append_assoc, List.replicate_append_replicate]
theorem own_rep {w : World} {base g N : Nat} {x : Int} (h : w.heap[g]? = some (.cells (repRow x N N).toArray 3 (0, 0))) (hb : base ≤ g) (hN : N ≤ 1000000) : Own w base (.slice (some ⟨g, 0, none⟩) N N) (List.replicate N x) := by
  unfold Own
  refine ⟨by simp, .inr ⟨g, N, _, by simp, hb, h, by simp, by unfold maxLen; omega, by simp [repRow], ?_⟩⟩
  simp [repRow]
theorem repRow_cell {w : World} {g N j : Nat} {x : Int} (h : w.heap[g]? = some (.cells (repRow x N j).toArray 3 (0, 0))) {i : Nat} (hi : i < j) : w.cell? ⟨g, i, none⟩ = some (.int .i64 x) := by
  have : (repRow x N j)[i]? = some (.int .i64 x) := by
    unfold repRow
    rw [List.getElem?_append_left (by simpa using hi)]
    simp [hi]
  simp [World.cell?, h, this]
theorem rep_src {w : World} {b : Nat} {x : Int} (h : w.cell? ⟨b, 0, none⟩ = some (.int .i64 x)) {j : Nat} {v : Value} (hj : (List.replicate 1 (Value.int .i64 x))[j]? = some v) : w.cell? ((⟨b, 0, none⟩ : Addr).add j) = some v := by
  have h1 := lt_of_get hj
  simp at h1
  subst h1
  simp at hj
  subst hj
  rw [Go.Addr.add_lit]
  exact h
theorem rep_src2 {w : World} {g N j m : Nat} {x : Int} (h : w.heap[g]? = some (.cells (repRow x N j).toArray 3 (0, 0))) (hm : m ≤ j) {i : Nat} {v : Value} (hi : (List.replicate m (Value.int .i64 x))[i]? = some v) : w.cell? ((⟨g, 0, none⟩ : Addr).add i) = some v := by
  have h1 := lt_of_get hi
  rw [List.length_replicate] at h1
  rw [List.getElem?_replicate, if_pos h1] at hi
  rw [← Option.some.inj hi, Go.Addr.add_lit, Nat.zero_add]
  exact repRow_cell h (by omega)
set_option maxRecDepth 100000 in
set_option maxHeartbeats 4000000 in
theorem repeat1_any (b c : Nat) (x : Int) (N : Nat) (w : World) (hN : 1 ≤ N) (hN2 : N ≤ 1000000) (hc : w.cell? ⟨b, 0, none⟩ = some (.int .i64 x)) :
    Calls Try.prog 99 #[.slice (some ⟨b, 0, none⟩) 1 c, .int .i64 N] w fun e w' => ∃ u, e = .returned u ∧ Own w' w.heap.size u (List.replicate N x) ∧ Below w.heap.size w w' := by
  have e1 : IntKind.u64.wrap (N : Int) = N := IntWalk.u64_in _ (by omega)
  have hm := Try.bits_Mul 1 N (by omega) (by omega) w
  rw [show (1 * N / 18446744073709551616 : Nat) = 0 by omega, show (1 * N % 18446744073709551616 : Nat) = N by omega] at hm
  have Hm := Lib.hid hm
  have e2 : IntKind.i64.wrap (N : Int) = N := wr64 _ (by omega) (by omega)
  have m2 := run_mk_ints N hN2
  have Hc := Lib.hid hc
  have hn0 : ¬ ((N : Int) < 0) := by omega
  have hbig : ¬ (9223372036854775807 < (N : Int)) := by omega
  clear hm hc
  go_enter Try.func99, Try.ntmps99
  go_wp2_with fail
  refine Hm.out.mono ?_
  rintro e w1 ⟨rfl, rfl⟩
  have HG2 : Hid ((w1.alloc (.cells (Array.replicate N (Value.int .i64 0)) 3)).heap[w1.heap.size]? = some (.cells (repRow x N 0).toArray 3 (0, 0))) := by
    show (w1.heap.push _)[w1.heap.size]? = _
    rw [Array.getElem?_push_size]
    simp [repRow]
  go_wp2_with (refine wpList_copy_splice rfl _ _ 23 23 rfl 3 Try.underlying23 (by kernel_rfl) (some ⟨w1.heap.size, 0, none⟩) (some ⟨b, 0, none⟩) N N 1 c rfl rfl w1.heap.size 0 (repRow x N 0) 3 HG2.out (List.replicate 1 (.int .i64 x)) (by rw [List.length_replicate]; exact (Nat.min_eq_left hN).symm) (fun _ => ⟨rfl, _, rfl, fun j v hj => rep_src (bc (below_alloc _ _) Hc.out) hj⟩) (by rw [repRow_len (Nat.zero_le _), List.length_replicate]; omega) (by simp [Value.oneCell']) w1.heap.size w1 (below_alloc _ _) (Nat.le_refl _) ?_; intro w3 hg3 hb3)
  obtain ⟨g, hg⟩ : ∃ g, g = w1.heap.size := ⟨_, rfl⟩
  have Hg := Lib.hid hg
  rw [← hg] at hg3 ⊢
  clear hg
  have HG3 : Hid (w3.heap[g]? = some (.cells (repRow x N 1).toArray 3 (0, 0))) := by
    have := hg3.out
    rw [show List.replicate 1 (Value.int .i64 x) = List.replicate 1 (.int .i64 x) from rfl, repRow_splice (by omega)] at this
    exact this
  have HB3 := Lib.hid hb3
  clear hg3 hb3
  go_wp2
  go_loopw [8] (fun nv wr => ∃ j : Nat, 1 ≤ j ∧ j ≤ N ∧ nv = .int .i64 j ∧ wr.heap[g]? = some (.cells (repRow x N j).toArray 3 (0, 0)) ∧ Below w1.heap.size w1 wr) (fun nv _ => N - (intOf nv).toNat)
  case atStart => exact ⟨1, Nat.le_refl _, hN, rfl, HG3.out, HB3.out⟩
  case round =>
    obtain ⟨j, hj1, hj, rfl, hgr, hb⟩ := hrel
    have HG := Lib.hid hgr
    have HB := Lib.hid hb
    clear hgr hb
    by_cases hlt : j < N
    · obtain ⟨m, hm⟩ : ∃ m, m = min j (N - j) := ⟨_, rfl⟩
      have hm1 : 1 ≤ m := by omega
      have hm2 : j + m ≤ N := by omega
      have hmj : m ≤ j := by omega
      have hNj : ¬ N = j := by omega
      have Hmm := Lib.hid hm
      clear hm
      have m3 : IntKind.i64.wrap ((j : Int) + m) = (j : Int) + m := wr64 _ (by omega) (by omega)
      have hs0 : Since w1 wr := HB.out
      go_upto_region 9 with (fail)
      refine wp_region_chain0 (w0 := w1) 9 [false, false, false, false, false, false, false, true, true] (by kernel_rfl) (by kernel_rfl) (hs0) ?_
      simp only [selF, selT, List.take_succ_cons, List.take_zero, List.drop_succ_cons, List.drop_zero]
      refine pflow_val (v := ?_) rfl ?_ ?_; rotate_left; (intro W hW; go_simp; with_reducible rfl)
      simp only [Act.put, List.setIfInBounds_toArray, List.set_cons_succ, List.set_cons_zero]
      refine pflow_val (v := ?_) rfl ?_ ?_; rotate_left; (intro W hW; go_simp; with_reducible rfl)
      simp only [Act.put, List.setIfInBounds_toArray, List.set_cons_succ, List.set_cons_zero]
      refine pflow_val (v := ?_) rfl ?_ ?_; rotate_left; (intro W hW; go_simp; with_reducible rfl)
      simp only [Act.put, List.setIfInBounds_toArray, List.set_cons_succ, List.set_cons_zero]
      refine pflow_val (v := ?_) rfl ?_ ?_; rotate_left; (intro W hW; go_simp; with_reducible rfl)
      simp only [Act.put, List.setIfInBounds_toArray, List.set_cons_succ, List.set_cons_zero]
      refine pflow_val (v := ?_) rfl ?_ ?_; rotate_left; (intro W hW; go_simp; with_reducible rfl)
      simp only [Act.put, List.setIfInBounds_toArray, List.set_cons_succ, List.set_cons_zero]
      refine pflow_val (v := ?_) rfl ?_ ?_; rotate_left; (intro W hW; go_simp; with_reducible rfl)
      simp only [Act.put, List.setIfInBounds_toArray, List.set_cons_succ, List.set_cons_zero]
      refine pflow_val (v := ?_) rfl ?_ ?_; rotate_left; (intro W hW; go_simp; with_reducible rfl)
      simp only [Act.put, List.setIfInBounds_toArray, List.set_cons_succ, List.set_cons_zero]
      obtain ⟨W, hWd⟩ : ∃ W, W = World.drew wr := ⟨_, rfl⟩
      rw [← hWd]
      have hW : Since w1 W := by rw [hWd]; exact since_drew (hs0)
      refine tflow_of_wp (fun Q' HQ => ?_)
      (refine wpList_copy_splice rfl _ _ 23 23 rfl 3 Try.underlying23 (by kernel_rfl) (some ⟨g, j, none⟩) (some ⟨g, 0, none⟩) (N - j) (N - j) j N (by go_simp) (by go_simp) g j (repRow x N j) 3 (by rw [hWd]; exact HG.out) (List.replicate m (.int .i64 x)) (by rw [List.length_replicate]; exact Hmm.out) (fun _ => ⟨rfl, _, rfl, fun i v hi => rep_src2 (by rw [hWd]; exact HG.out) hmj hi⟩) (by rw [repRow_len hj]; simpa using hm2) (by simp [Value.oneCell']) w1.heap.size w1 hW (by rw [Hg.out]; exact Nat.le_refl _) ?_); intro w4 hg4 hb4; refine HQ _ _ hb4 ?_; replace hW : Since w1 w4 := hb4; simp only [List.length_replicate, goInt]
      (try simp only [Act.put, List.setIfInBounds_toArray, List.set_cons_succ, List.set_cons_zero])
      refine tflow_val (v := ?_) rfl ?_ hW ?_; rotate_left; (go_simp; with_reducible rfl)
      simp only [Act.put, List.setIfInBounds_toArray, List.set_cons_succ, List.set_cons_zero]
      simp only [TFlow]
      have HG4 : Hid (w4.heap[g]? = some (.cells (repRow x N (j + m)).toArray 3 (0, 0))) := by
        have := hg4.out
        rw [repRow_splice hm2] at this
        exact this
      have HB4 := Lib.hid hW
      clear hg4 hb4 hW hWd hs0
      go_wp2
      go_roundw
      case rel => exact ⟨j + m, by omega, hm2, by go_num, HG4.out, HB4.out⟩
      case measure => simp [intOf]; omega
    · obtain rfl : j = N := by omega
      go_wp2
      go_ret
      exact ⟨_, rfl, own_rep HG.out (by rw [Hg.out]; exact Nat.le_refl _) hN2, HB.out⟩
end Go.Proofs.Ytlfehdikgbgloaa
namespace Go.Proofs.Ytlfehdikgbgloaa
open Go.RowKit
theorem Own.onlyq {W W' : World} {base g : Nat} {u : Value} {xs : List Int} (h : Own W base u xs) (ho : Only [g] W W') (hd : u.ownBlock ≠ some g) : Own W' base u xs :=
  ownsRow_stable h fun j hj => ho.block j (World.ownsRow.lt h j (by simpa using hj)).2 (fun hs => hd (by simp at hs; subst hs; simpa using hj))
set_option maxRecDepth 100000 in
set_option maxHeartbeats 16000000 in
theorem distancesFrom_any (ve vi vn : Value) (n : Net) (v : Nat) (w : World) (h : NetIn w ve vi vn n) (hn : netOk n = true) (hv : v < n.ends.length) :
    Calls Try.prog 65 #[.agg #[ve, vi, vn], .int .i64 v] w fun e w' => ∃ u, e = .returned u ∧ Own w' w.heap.size u (distB n v) ∧ Below w.heap.size w w' := by
  have hnl := netOk_len hn
  have Hn := Lib.hid hn
  obtain ⟨w0, hw0⟩ : ∃ w0, w0 = (w).alloc (.cells #[ve, vi, vn] 31) := ⟨_, rfl⟩
  have hb0 : Below w.heap.size w w0 := by rw [hw0]; exact ((Below.refl _ _).alloc (by simp) _)
  have H := Lib.hid (h.keep hb0)
  obtain ⟨h1, h2, h3⟩ := h.keep hb0
  obtain ⟨A, c, rfl, hlc, hm, hA⟩ := h1
  obtain ⟨A2, c2, rfl, _, hm2, _⟩ := h2
  obtain ⟨A3, c3, rfl, _, hm3, _⟩ := h3
  unfold maxLen at hm hm2 hm3
  have p00 : ∀ W, Since w0 W → W.cell? ⟨w.heap.size, 0, none⟩ = some (.slice A n.ends.length c) := have_cell (by rw [hw0]; simp)
  have p01 : ∀ W, Since w0 W → W.cell? ⟨w.heap.size, 1, none⟩ = some (.slice A2 n.ids.length c2) := have_cell (by rw [hw0]; simp)
  have p02 : ∀ W, Since w0 W → W.cell? ⟨w.heap.size, 2, none⟩ = some (.slice A3 n.inputs.length c3) := have_cell (by rw [hw0]; simp)
  have Hb0 := Lib.hid hb0
  have Hw0 := Lib.hid hw0
  have HA := Lib.hid hA
  clear hA h
  clear hb0 hw0
  obtain ⟨R, hR⟩ : ∃ R, R = distB n v := ⟨_, rfl⟩
  have HR := Lib.hid hR
  rw [← hR]
  clear hn hR
  go_enter Try.func65, Try.ntmps65
  go_upto_region 1 with (fail)
  rw [← Hw0.out]
  go_wp2_with fail
  refine (repeat1_any w0.heap.size 1 (-1) n.ends.length _ hnl.1 (by omega) (by simp)).mono ?_
  rintro e w1 ⟨u1, rfl, ho1, hb1⟩
  rcases ho1.cases with ⟨-, e1⟩ | ⟨g, c1, rfl, hg1, hg2⟩
  · have := congrArg List.length e1; rw [List.length_replicate, List.length_nil] at this; omega
  rw [List.length_replicate] at ho1 ⊢
  have Hs1 : Hid (Since w0 w1) := Since.after (since_alloc _ (since_refl _)) hb1
  have Hgw : Hid (w0.heap.size ≤ g) := by show _ ≤ _; have := hg1; simp at this; omega
  have Ho1 : Hid (Own w1 w0.heap.size (.slice (some ⟨g, 0, none⟩) n.ends.length c1) (List.replicate n.ends.length (-1))) := ho1.mono (by simp)
  have cz := Ho1.out.cell (getD_at (show v < (List.replicate n.ends.length (-1 : Int)).length by simpa using hv))
  have fz := Ho1.out.free v
  obtain ⟨w3, hw3⟩ : ∃ w3, w3 = w1.setCell ⟨g, v, none⟩ (.int .i64 0) := ⟨_, rfl⟩
  have e3 : w3.heap.size = w1.heap.size := by rw [hw3]; simp
  have Ho3 : Hid (Own w3 w0.heap.size (.slice (some ⟨g, 0, none⟩) n.ends.length c1) (bfsStart n v).1) := by rw [hw3]; exact Ho1.out.set (k := v) 0
  have Hs3 : Hid (Since w0 w3) := by rw [hw3]; exact Below.setCell Hs1.out Hgw.out _
  obtain ⟨g2, hg2'⟩ : ∃ g2, g2 = w1.heap.size := ⟨_, rfl⟩
  obtain ⟨w4, hw4⟩ : ∃ w4, w4 = w3.alloc (.cells #[.int .i64 v] 3) := ⟨_, rfl⟩
  have Ho4 : Hid (Own w4 w0.heap.size (.slice (some ⟨g, 0, none⟩) n.ends.length c1) (bfsStart n v).1) := by rw [hw4]; exact Ho3.out.since (since_alloc _ (since_refl _))
  have Hq4 : Hid (QA w4 w0.heap.size g2 0 1 ((bfsStart n v).2.drop 0)) := by
    rw [hw4, hg2', ← e3]
    exact QA.one w3 _ v Hs3.out.below.size
  have Hs4 : Hid (Since w0 w4) := by rw [hw4]; exact since_alloc _ Hs3.out
  have hgg : g2 ≠ g := by have := (World.ownsRow.lt Ho3.out g rfl).2; omega
  have Hw3 := Lib.hid hw3
  have Hw4 := Lib.hid hw4
  have Hg2 := Lib.hid hg2'
  clear hw3 hw4 hg2' e3 ho1 hb1 hg1 hg2
  go_upto_region 4 with (fail)
  rw [← Hw3.out, ← Hg2.out, ← Hw4.out]
  clear cz fz
  go_wp2
  go_loopg [6] (n.ends.length + 1) (fun f u wr => ∃ (k : Nat) (st : List Int × List Int) (gu off cu : Nat), u = .slice (some ⟨gu, off, none⟩) (st.2.drop k).length cu ∧ gu ≠ g ∧ BI n.ends.length st ∧ bfs n f st k = R ∧ n.ends.length + 1 ≤ f + k ∧ k ≤ st.2.length ∧ Own wr w0.heap.size (.slice (some ⟨g, 0, none⟩) n.ends.length c1) st.1 ∧ QA wr w0.heap.size gu off cu (st.2.drop k) ∧ Since w0 wr)
  case atStart => exact ⟨0, bfsStart n v, g2, 0, 1, rfl, hgg, BI.start hv, HR.out.symm, by omega, Nat.zero_le _, Ho4.out, Hq4.out, Hs4.out⟩
  case round =>
    obtain ⟨k, st, gu, off, cu, rfl, hgu, hbi, hbr, hf, hk, ho, hq, hs⟩ := hrel
    have HBI := Lib.hid hbi
    have Hbr := Lib.hid hbr
    have Ho := Lib.hid ho
    have Hq := Lib.hid hq
    have Hs := Lib.hid hs
    have hbd := hbi.bd
    clear hbi hbr ho hq hs hgg
    by_cases hlt : k < st.2.length
    · obtain ⟨f, rfl⟩ : ∃ f', gk = f' + 1 := ⟨gk - 1, by omega⟩
      obtain ⟨x, hx⟩ := getx st.2 k hlt
      have hxin := HBI.out.walk x (List.mem_of_getElem? hx)
      obtain ⟨c', rfl⟩ := Int.eq_ofNat_of_zero_le hxin.1
      have hc : c' < n.ends.length := by omega
      have hdr : st.2.drop k = (c' : Int) :: st.2.drop (k + 1) := by
        rw [List.drop_eq_getElem_cons hlt]
        congr 1
        exact (List.getElem?_eq_some_iff.1 hx).2
      have Hq2 : Hid (QA wr w0.heap.size gu off cu ((c' : Int) :: st.2.drop (k + 1))) := by rw [← hdr]; exact Hq.out
      obtain ⟨ql, hql⟩ : ∃ ql, ql = (st.2.drop (k + 1)).length := ⟨_, rfl⟩
      have e0 : (st.2.drop k).length = ql + 1 := by rw [hdr, hql]; rfl
      rw [e0]
      have cx := Hq2.out.cell (j := 0) rfl
      rw [Nat.add_zero] at cx
      have hcu : ql + 1 ≤ cu := by have := Hq2.out.2.1; rw [List.length_cons, ← hql] at this; exact this
      have Hxd : Hid (st.2.getD k 0 = (c' : Int)) := by show _ = _; rw [List.getD_eq_getElem?_getD, hx]; rfl
      have Hx := Lib.hid hx
      have Hql := Lib.hid hql
      obtain ⟨of2, eo, hq2⟩ : ∃ of2 : Nat, (if cu = 1 then some (⟨gu, off, none⟩ : Addr) else some ⟨gu, off + 1, none⟩) = some ⟨gu, of2, none⟩ ∧ QA wr w0.heap.size gu of2 (cu - 1) (st.2.drop (k + 1)) := by
        by_cases h1 : cu = 1
        · refine ⟨off, by rw [if_pos h1], ?_⟩
          have hz : st.2.drop (k + 1) = [] := List.eq_nil_of_length_eq_zero (by omega)
          rw [hz, h1]
          exact Hq2.out.nil
        · exact ⟨off + 1, by rw [if_neg h1], Hq2.out.tail⟩
      have Hq3 := Lib.hid hq2
      obtain ⟨es, hes⟩ := getx n.ends c' hc
      obtain ⟨hes6, hesin⟩ := netOk_row Hn.out hes
      have Hes := Lib.hid hes
      have Hesin := Lib.hid hesin
      obtain ⟨see, hsee⟩ : ∃ s, s = bsee n c' := ⟨_, rfl⟩
      have Hse2 : Hid (es.map (fun e => e.1) = see) := by show _ = _; rw [hsee, bsee, Int.toNat_natCast, List.getD_eq_getElem?_getD, hes]; rfl
      have Hsee := Lib.hid hsee
      have Hfw : Hid (∀ j, ∃ ys, ((see.take j).foldl (bstep c') st).2 = st.2 ++ ys) := fun j => fold_walk _ _ _
      obtain ⟨b, offr, cr, ur, hA1, hkr, hc1, hrow⟩ := row_at H.out.es hes
      cases hA1
      obtain ⟨A1, z1, rfl, hz1, hz2, hA1⟩ := hrow
      unfold maxLen at hz2
      have HA1 := Lib.hid hA1
      have r1 := lift_cell (have_cell hc1) Hs.out
      have q0 := p00 wr Hs.out
      have q5 := r1 wr (since_refl _)
      clear hx hdr hql e0 Hq hq2 hes hesin hsee hc1 hA1
      go_upto_region 7 with (fail)
      (try rw [eo])
      clear cx eo
      clear hcu
      go_wp2
      go_loopw [6, 34] (fun u i wr => ∃ (j gv ov cv : Nat) (st' : List Int × List Int), j ≤ es.length ∧ i = .int .i64 j ∧ st' = (see.take j).foldl (bstep c') st ∧ u = .slice (some ⟨gv, ov, none⟩) (st'.2.drop (k + 1)).length cv ∧ gv ≠ g ∧ BI n.ends.length st' ∧ Own wr w0.heap.size (.slice (some ⟨g, 0, none⟩) n.ends.length c1) st'.1 ∧ QA wr w0.heap.size gv ov cv (st'.2.drop (k + 1)) ∧ Since w0 wr) (fun _ i _ => es.length - (intOf i).toNat)
      case atStart => exact ⟨0, gu, of2, cu - 1, st, Nat.zero_le _, rfl, rfl, by rw [Hql.out], hgu, HBI.out, Ho.out, Hq3.out, Hs.out⟩
      case round =>
        obtain ⟨j, gv, ov, cv, st', hj, rfl, hst', rfl, hgv, hbi', ho', hq', hs'⟩ := hrel
        have HBI' := Lib.hid hbi'
        have Ho' := Lib.hid ho'
        have Hq' := Lib.hid hq'
        have Hs' := Lib.hid hs'
        have Hst' := Lib.hid hst'
        have hbd' := hbi'.bd
        clear hst' hbi' ho' hq' hs' hgu
        by_cases hlj : j < es.length
        · obtain ⟨⟨x1, x2⟩, hx⟩ := getx es j hlj
          obtain ⟨b1, off1, rfl, hd1, hd2⟩ := HA1.out j _ hx
          obtain ⟨i1, i2⟩ := Hesin.out _ (List.mem_of_getElem? hx)
          simp only at i1 i2
          obtain ⟨d, rfl⟩ := Int.eq_ofNat_of_zero_le i1
          have hd : d < n.ends.length := by omega
          have hy : see[j]? = some (d : Int) := by rw [← Hse2.out, List.getElem?_map, hx]; rfl
          have hl1 : st'.1.length = n.ends.length := HBI'.out.len
          have t1 := have_cell hd1 wr Hs'.out
          have t2 := have_cell hd2 wr Hs'.out
          obtain ⟨w8, hw8⟩ : ∃ w8, w8 = wr.alloc (.cells #[.int .i64 d, .int .i64 x2] 91) := ⟨_, rfl⟩
          obtain ⟨be, hbe⟩ : ∃ be, be = wr.heap.size := ⟨_, rfl⟩
          have Ho8 : Hid (Own w8 w0.heap.size (.slice (some ⟨g, 0, none⟩) n.ends.length c1) st'.1) := by rw [hw8]; exact Ho'.out.since (since_alloc _ (since_refl _))
          have Hq8 : Hid (QA w8 w0.heap.size gv ov cv (st'.2.drop (k + 1))) := by rw [hw8]; exact Hq'.out.since (since_alloc _ (since_refl _))
          have Hs8 : Hid (Since w0 w8) := by rw [hw8]; exact since_alloc _ Hs'.out
          have d0 : ∀ W, Since w8 W → W.cell? ⟨be, 0, none⟩ = some (.int .i64 d) := have_cell (by rw [hw8, hbe]; simp)
          have dd := have_cell (Ho8.out.cell (getD_at (show d < st'.1.length by omega)))
          have dc := have_cell (Ho8.out.cell (getD_at (show c' < st'.1.length by omega)))
          obtain ⟨z, hz⟩ : ∃ z, z = st'.1.getD d 0 := ⟨_, rfl⟩
          obtain ⟨q, hq⟩ : ∃ q, q = st'.1.getD c' 0 := ⟨_, rfl⟩
          rw [← hz] at dd
          rw [← hq] at dc
          have hqb : -1 ≤ q ∧ q < st'.2.length := by rw [hq]; exact HBI'.out.val _ (List.mem_of_getElem? (getD_at (show c' < st'.1.length by omega)))
          have cd := dd w8 (since_refl _)
          have ce := d0 w8 (since_refl _)
          have Hz := Lib.hid hz
          have Hqd := Lib.hid hq
          have Hnx : Hid ((see.take (j + 1)).foldl (bstep c') st = bstep c' st' d) := by show _ = _; rw [fold_snoc hy, ← Hst'.out]
          have Hl1 := Lib.hid hl1
          have Hw8 := Lib.hid hw8
          have Hbe := Lib.hid hbe
          have m3 : IntKind.i64.wrap ((j : Int) + 1) = (j : Int) + 1 := wr64 _ (by omega) (by omega)
          clear hz hq hy hx hl1 hw8 hbe hd1 hd2 i1
          go_upto_region 10 with (fail)
          rw [← Hw8.out, ← Hbe.out]
          clear t1 t2
          by_cases hneg : z < 0
          · have m4 : IntKind.i64.wrap (q + 1) = q + 1 := wr64 _ (by omega) (by omega)
            have Hnew : Hid (bstep c' st' d = (st'.1.set d (q + 1), st'.2 ++ [(d : Int)])) := by show _ = _; unfold bstep; rw [Int.toNat_natCast, Int.toNat_natCast, ← Hz.out, if_pos hneg, ← Hqd.out]
            have HBn : Hid (BI n.ends.length (bstep c' st' d)) := HBI'.out.step (by omega) (by omega)
            obtain ⟨ys, hys⟩ := Hfw.out j
            have hkl : k + 1 ≤ st'.2.length := by rw [Hst'.out, hys, List.length_append]; omega
            have Hdrop : Hid ((st'.2 ++ [(d : Int)]).drop (k + 1) = st'.2.drop (k + 1) ++ [(d : Int)]) := List.drop_append_of_le_length hkl
            have Hlen : Hid ((st'.2.drop (k + 1)).length + 1 ≤ 1000000) := by show _ ≤ _; rw [List.length_drop]; omega
            have Hgv := Lib.hid hgv
            clear hys hkl
            go_upto_region 11 with (fail)
            refine wp_region_flow 9 (Since w8) (by kernel_rfl) (by kernel_rfl) (by simp) (since_drew (since_refl _)) ?_
            simp only [List.take_succ_cons, List.take_zero, List.drop_succ_cons, List.drop_zero]
            refine flow_val (v := ?_) rfl ?_ ?_; rotate_left; (intro W hW; go_simp; with_reducible rfl)
            simp only [Act.put, List.setIfInBounds_toArray, List.set_cons_succ, List.set_cons_zero]
            refine flow_val (v := ?_) rfl ?_ ?_; rotate_left; (intro W hW; go_simp; with_reducible rfl)
            simp only [Act.put, List.setIfInBounds_toArray, List.set_cons_succ, List.set_cons_zero]
            refine flow_val (v := ?_) rfl ?_ ?_; rotate_left; (intro W hW; go_simp; with_reducible rfl)
            simp only [Act.put, List.setIfInBounds_toArray, List.set_cons_succ, List.set_cons_zero]
            refine flow_val (v := ?_) rfl ?_ ?_; rotate_left; (intro W hW; go_simp; with_reducible rfl)
            simp only [Act.put, List.setIfInBounds_toArray, List.set_cons_succ, List.set_cons_zero]
            refine flow_val (v := ?_) rfl ?_ ?_; rotate_left; (intro W hW; go_simp; with_reducible rfl)
            simp only [Act.put, List.setIfInBounds_toArray, List.set_cons_succ, List.set_cons_zero]
            refine flow_val (v := ?_) rfl ?_ ?_; rotate_left; (intro W hW; go_simp; with_reducible rfl)
            simp only [Act.put, List.setIfInBounds_toArray, List.set_cons_succ, List.set_cons_zero]
            refine flow_val (v := ?_) rfl ?_ ?_; rotate_left; (intro W hW; go_simp; with_reducible rfl)
            simp only [Act.put, List.setIfInBounds_toArray, List.set_cons_succ, List.set_cons_zero]
            refine flow_val (v := ?_) rfl ?_ ?_; rotate_left; (intro W hW; go_simp; with_reducible rfl)
            simp only [Act.put, List.setIfInBounds_toArray, List.set_cons_succ, List.set_cons_zero]
            refine flow_val (v := ?_) rfl ?_ ?_; rotate_left; (intro W hW; go_simp; with_reducible rfl)
            simp only [Act.put, List.setIfInBounds_toArray, List.set_cons_succ, List.set_cons_zero]
            intro W hW
            have HoW := Lib.hid (Ho8.out.since hW)
            have HqW := Lib.hid (Hq8.out.since hW)
            have HsW := Lib.hid (Hs8.out.after hW)
            have eW := d0 W hW
            have fd := HoW.out.free d
            have cdW := dd W hW
            obtain ⟨w9, hw9⟩ : ∃ w9, w9 = W.setCell ⟨g, d, none⟩ (.int .i64 (q + 1)) := ⟨_, rfl⟩
            have Ho9 : Hid (Own w9 w0.heap.size (.slice (some ⟨g, 0, none⟩) n.ends.length c1) (st'.1.set d (q + 1))) := by rw [hw9]; exact HoW.out.set (k := d) (q + 1)
            have Hq9 : Hid (QA w9 w0.heap.size gv ov cv (st'.2.drop (k + 1))) := by rw [hw9]; exact HqW.out.other hgv _ _
            have Hs9 : Hid (Since w0 w9) := by rw [hw9]; exact Below.setCell HsW.out Hgw.out _
            have hbg : be ≠ g := by have := (World.ownsRow.lt Ho'.out g rfl).2; rw [Hbe.out]; omega
            have e9 : w9.cell? ⟨be, 0, none⟩ = some (.int .i64 d) := by
              rw [hw9]
              have := Below.heap_setCell W ⟨g, d, none⟩ (.int .i64 (q + 1)) be (by simpa using hbg)
              unfold World.cell? at eW ⊢
              rw [this]
              exact eW
            have Hw9 := Lib.hid hw9
            clear hW hw9 d0 dd dc cd ce hbg
            go_upto_region 12 with (fail)
            rw [← Hw9.out]
            clear eW fd cdW m4
            go_wp2_with (at_builtin; refine app_q rfl _ _ rfl rfl (Hq9.out.since (since_alloc _ (since_refl _))) w9.heap.size d rfl (by simp [go_sem]) Hlen.out (since_alloc _ Hs9.out) ?_; intro g7 o7 c7 w7 hq7 hon7 hor7 hs7)
            have Ho7 : Hid (Own w7 w0.heap.size (.slice (some ⟨g, 0, none⟩) n.ends.length c1) (st'.1.set d (q + 1))) := Own.onlyq (Ho9.out.keep (below_alloc w9 _)) hon7 (by simpa [Value.ownBlock] using Ne.symm Hgv.out)
            have Hq7 := Lib.hid hq7
            have Hs7 := Lib.hid hs7
            have Hgz := Lib.hid (World.ownsRow.lt Ho9.out g rfl).2
            have Hg7 : Hid (g7 ≠ g) := by
              rcases hor7 with e | e
              · rw [e]; exact Hgv.out
              · simp at e; exact fun e2 => by have := Hgz.out; omega
            clear hq7 hon7 hor7 hs7 e9
            go_wp2
            go_roundw
            case rel => exact ⟨j + 1, g7, o7, c7, bstep c' st' d, by omega, by go_num, Hnx.out.symm, by rw [Hnew.out, Hdrop.out]; simp, Hg7.out, HBn.out, by rw [Hnew.out]; exact Ho7.out, by rw [Hnew.out, Hdrop.out]; exact Hq7.out, Hs7.out⟩
            case measure => simp [intOf]; omega
          · have Hsame : Hid (bstep c' st' d = st') := by show _ = _; unfold bstep; rw [Int.toNat_natCast, ← Hz.out, if_neg hneg]
            clear d0 dd dc
            go_wp2
            go_roundw
            case rel => exact ⟨j + 1, gv, ov, cv, st', by omega, by go_num, by rw [Hnx.out, Hsame.out], rfl, hgv, HBI'.out, Ho8.out, Hq8.out, Hs8.out⟩
            case measure => simp [intOf]; omega
        · obtain rfl : j = es.length := by omega
          have hsl : see.length = es.length := by rw [← Hse2.out, List.length_map]
          have Hfin : Hid (st' = see.foldl (bstep c') st) := by show _ = _; rw [Hst'.out, ← hsl, List.take_length]
          have Hbn : Hid (bfs n f st' (k + 1) = R) := by
            show _ = _
            rw [← Hbr.out, bfs, if_pos hlt, Hxd.out, ← Hsee.out, ← Hfin.out]
          have Hlw : Hid (k + 1 ≤ st'.2.length) := by
            obtain ⟨ys, hys⟩ := Hfw.out es.length
            show _ ≤ _
            rw [Hst'.out, hys, List.length_append]
            omega
          clear hsl
          go_wp2
          go_roundg f
          case rel => exact ⟨k + 1, st', gv, ov, cv, rfl, hgv, HBI'.out, Hbn.out, by omega, Hlw.out, Ho'.out, Hq'.out, Hs'.out⟩
          case measure => omega
    · have hd0 : st.2.drop k = [] := List.drop_eq_nil_of_le (by omega)
      have hRe : Hid (R = st.1) := by
        rw [← Hbr.out]
        obtain ⟨f, rfl⟩ | h0 : (∃ f', gk = f' + 1) ∨ gk = 0 := by
          rcases Nat.eq_zero_or_pos gk with h | h
          · exact .inr h
          · exact .inl ⟨gk - 1, by omega⟩
        · show bfs _ _ _ _ = _
          rw [bfs, if_neg hlt]
        · subst h0; exact rfl
      rw [hd0]
      go_wp2
      go_ret
      exact ⟨_, rfl, by rw [hRe.out]; exact Ho.out.mono Hb0.out.size, Since.after Hb0.out Hs.out⟩
end Go.Proofs.Ytlfehdikgbgloaa
namespace Go.Proofs.Ytlfehdikgbgloaa
open Go.RowKit
/-- the ranges of a scheme -/
def rangesL (s : Int) : List Int := if s = 4 then [100] else if s = 5 then [100, 10, 2] else []
end Go.Proofs.Ytlfehdikgbgloaa
namespace Go.Proofs.Ytlfehdikgbgloaa
open Go.RowKit
theorem Own.lit {w : World} {base : Nat} {v : Value} {x : Int} {xs : List Int} (h : Own w base v (x :: xs)) : ∃ g c, v = .slice (some ⟨g, 0, none⟩) (xs.length + 1) c ∧ base ≤ g ∧ g < w.heap.size ∧ xs.length + 1 ≤ c ∧ ∀ k y, (x :: xs)[k]? = some y → w.cell? ⟨g, k, none⟩ = some (.int .i64 y) := by
  rcases h.2 with ⟨rfl, h0⟩ | ⟨g, cap, cur, rfl, hb, hg, hnc, hm, hcs, htake⟩
  · simp at h0
  · exact ⟨g, cap, rfl, hb, (Array.getElem?_eq_some_iff.1 hg).1, hnc, fun k y hy => Own.cell h hy⟩
theorem Own.lit0 {w : World} {base : Nat} {v : Value} (h : Own w base v []) : ∃ A c, v = .slice A 0 c := by
  rcases h.2 with ⟨rfl, h0⟩ | ⟨g, cap, cur, rfl, _⟩
  · exact ⟨_, _, rfl⟩
  · exact ⟨_, _, rfl⟩
theorem IntS.lit {w : World} {v : Value} {x : Int} {xs : List Int} (h : IntS w v (x :: xs)) : ∃ b off c, v = .slice (some ⟨b, off, none⟩) (xs.length + 1) c ∧ b < w.heap.size ∧ ∀ k y, (x :: xs)[k]? = some y → w.cell? ⟨b, off + k, none⟩ = some (.int .i64 y) := by
  obtain ⟨A, c, rfl, hlc, hm, hA⟩ := h
  obtain ⟨b, off, rfl, h0⟩ := hA 0 x rfl
  refine ⟨b, off, c, rfl, World.block_lt_of_cell? w _ h0, fun k y hy => ?_⟩
  obtain ⟨b', off', he, hc⟩ := hA k y hy
  injection he with he
  injection he with h1 h2
  subst h1 h2
  exact hc
end Go.Proofs.Ytlfehdikgbgloaa
namespace Go.Proofs.Ytlfehdikgbgloaa
open Go.RowKit Go.Shelf
attribute [local go_sem] Oper.semAt_some
def uptoL {α : Type} (f : Nat → α) (k : Nat) : List α := (List.range k).map f
theorem uptoL_succ {α : Type} (f : Nat → α) (k : Nat) : uptoL f (k + 1) = uptoL f k ++ [f k] := by simp [uptoL, List.range_succ]
theorem uptoL_length {α : Type} (f : Nat → α) (k : Nat) : (uptoL f k).length = k := by simp [uptoL]
/-- what a round keeps: the blocks from lo to hi -/
def KeepMid (lo hi : Nat) (W W' : World) : Prop := W.heap.size ≤ W'.heap.size ∧ ∀ k, lo ≤ k → k < hi → W'.heap[k]? = W.heap[k]?
theorem KeepMid.t {lo hi : Nat} {A B C : World} (h : KeepMid lo hi A B) (k : KeepMid lo hi B C) : KeepMid lo hi A C := ⟨Nat.le_trans h.1 k.1, fun i h1 h2 => (k.2 i h1 h2).trans (h.2 i h1 h2)⟩
theorem KeepMid.refl (lo hi : Nat) (W : World) : KeepMid lo hi W W := ⟨Nat.le_refl _, fun _ _ _ => rfl⟩
theorem KeepMid.b {lo hi : Nat} {w : World} (hh : hi ≤ w.heap.size) (W : World) (l : Nat) (o o' : Obj) (hl : w.heap.size ≤ l) (_ : W.heap[l]? = some o) (_ : o.isCells = false) (_ : o.isWalk = false) : KeepMid lo hi W (W.putObj l o') :=
  ⟨(grownBy_putObj' W l o').size, fun k _ hk => by
    rcases Nat.lt_or_ge k W.heap.size with h | h
    · exact (grownBy_putObj' W l o').block k h (fun e => by cases e; omega)
    · exact World.putObj_heap_other (fun e => by omega)⟩
theorem KeepMid.cell {lo hi : Nat} {W W' : World} (h : KeepMid lo hi W W') {a : Addr} {u : Value} (h1 : lo ≤ a.block) (h2 : a.block < hi) (hc : W.cell? a = some u) : W'.cell? a = some u :=
  (World.cell?_of_block (h.2 a.block h1 h2)).trans hc
/-- a range and where it stands -/
abbrev Rng := { x : Nat × Int // 1 ≤ x.2 ∧ x.2 ≤ 100 }
def encR (x : Rng) : Array Value := #[.int .i64 (x.1.1 : Int), .int .i64 x.1.2]
end Go.Proofs.Ytlfehdikgbgloaa
namespace Go.Proofs.Ytlfehdikgbgloaa
open Go.RowKit Go.Shelf
attribute [local go_sem] Oper.semAt_some
/-- what is left of a label, and the parts that were split off -/
def pDiv (l : Int) (rs : List Int) : Int := rs.foldl (fun l r => l / r) l
def pRem (l : Int) : List Int → List Int
  | [] => []
  | r :: rs => (l % r) :: pRem (l / r) rs
theorem pDiv_snoc (l : Int) (rs : List Int) (r : Int) : pDiv l (rs ++ [r]) = pDiv l rs / r := by simp [pDiv]
theorem pRem_snoc (l : Int) (rs : List Int) (r : Int) : pRem l (rs ++ [r]) = pRem l rs ++ [pDiv l rs % r] := by
  induction rs generalizing l with
  | nil => simp [pRem, pDiv]
  | cons x rs ih => simp [pRem, ih, pDiv]
theorem pRem_len (l : Int) (rs : List Int) : (pRem l rs).length = rs.length := by
  induction rs generalizing l with
  | nil => rfl
  | cons x rs ih => simp [pRem, ih]
theorem pDiv_bd (l : Int) (rs : List Int) (h0 : 0 ≤ l) (hr : ∀ r ∈ rs, 1 ≤ r) : 0 ≤ pDiv l rs ∧ pDiv l rs ≤ l := by
  induction rs generalizing l with
  | nil => simp [pDiv, h0]
  | cons x rs ih =>
    have hx := hr x (by simp)
    have h1 : 0 ≤ l / x := Int.ediv_nonneg h0 (by omega)
    have h2 : l / x ≤ l := Int.ediv_le_self _ h0
    have := ih (l / x) h1 (fun r hr' => hr r (by simp [hr']))
    exact ⟨this.1, Int.le_trans this.2 h2⟩
def vals (pre : List Rng) : List Int := pre.map fun x => x.1.2
theorem vals_snoc (pre : List Rng) (x : Rng) : vals (pre ++ [x]) = vals pre ++ [x.1.2] := by simp [vals]
theorem vals_pos (pre : List Rng) : ∀ r ∈ vals pre, 1 ≤ r := by
  intro r hr
  obtain ⟨x, _, rfl⟩ := List.mem_map.1 hr
  exact x.2.1
theorem vals_len (pre : List Rng) : (vals pre).length = pre.length := by simp [vals]
/-- between two rounds -/
def PInv (l : Int) (b0 N1 : Nat) (w : World) (pre : List Rng) (W : World) : Prop :=
  Boxed W b0 3 (.int .i64 (pDiv l (vals pre))) ∧ (∃ v, Boxed W (b0 + 1) 23 v ∧ Own W N1 v (pRem l (vals pre))) ∧ Below b0 w W ∧ N1 ≤ W.heap.size
theorem pinv_own (l : Int) (b0 N1 : Nat) (w : World) (hb : b0 ≤ w.heap.size) (B : Nat) (hB : b0 ≤ B) : OwnFrom B (PInv l b0 N1 w) := by
  refine OwnFrom.and (_root_.Go.Own.from (boxed_own b0 3 (fun pre : List Rng => .int .i64 (pDiv l (vals pre)))) _) (OwnFrom.and ?_ (OwnFrom.and (ownFrom_below hb hB) (fun _ _ _ _ hs hg _ => Nat.le_trans hs hg.size)))
  have := _root_.Go.Own.from (holdsRow_own (β := List Rng) N1 (b0 + 1) 23 3 1 (fun pre => (pRem l (vals pre)).length) (fun pre => (pRem l (vals pre)).map (Value.int .i64)) (fun _ _ => True)) B
  intro s W W' row hs hg hr
  obtain ⟨v, h1, h2⟩ := hs
  obtain ⟨v', h1', h2', _⟩ := this s W W' row ⟨v, h1, h2, trivial⟩ hg hr
  exact ⟨v', h1', h2'⟩
theorem own_putObj {W : World} {base : Nat} {v : Value} {xs : List Int} (h : Own W base v xs) {D : Nat} {o : Obj} (o' : Obj) (hD : W.heap[D]? = some o) (ho : o.isCells = false) : Own (W.putObj D o') base v xs := ownsRow_putObj h o' hD ho
/-- append(v, x), x in the new block a -/
theorem app1 {w : World} {base : Nat} {v : Value} {xs : List Int} (h : Own w base v xs) (x : Int) (ty : TypeId) (b : Nat) (hc : w.cell? ⟨b, 0, none⟩ = some (.int .i64 x)) (hl : xs.length + 1 ≤ 17592186044416) (hb : base ≤ w.heap.size) :
    ∃ g c w', (Builtin.append_ #[23, 23] ty #[v, .slice (some ⟨b, 0, none⟩) 1 1]).run Try.prog w = .ok (.slice (some ⟨g, 0, none⟩) (xs.length + 1) c) w' ∧ Own w' base (.slice (some ⟨g, 0, none⟩) (xs.length + 1) c) (xs ++ [x]) ∧ w.grownBy w' v.ownBlock ∧ (some g = v.ownBlock ∨ g = w.heap.size) := by
  obtain ⟨i0, hi, hz0, hz1, hz2⟩ := info_parts int_info
  obtain ⟨v', w', hrun, h2, h3, _, h5⟩ := run_append_own_at (P := Try.prog) w base 23 ty 3 i0 (.int .i64 0) 1 8 Try.underlying23 hi hz0 hz1 hz2 rfl (by decide) v xs.length (xs.map (Value.int .i64)) h ⟨b, 0, none⟩ 1 1 [.int .i64 x] rfl
    (by intro j u hj; match j, hj with | 0, hj => (simp at hj; subst hj; simpa [Addr.add] using hc) | j + 1, hj => simp at hj) (by simp [Value.oneCell']) (by unfold maxLen; omega) (by omega) hb
  obtain ⟨g, c, rfl⟩ := ownsRow_succ h2
  refine ⟨g, c, w', hrun, ?_, h3, ?_⟩
  · unfold Own
    simpa using h2
  · rcases h5 with h5 | h5
    · exact .inl (by simpa [Value.ownBlock] using h5)
    · exact .inr (by simpa [Value.ownBlock] using h5)
/-- what append answers, veiled -/
def AppRes (P : Program) (ty : TypeId) (v s : Value) (w : World) : Result Next := ((Builtin.append_ #[23, 23] ty #[v, s]).run P w).andThen fun v' w' => .ok (.value v') w'
theorem veil_app (ro : Option Nat) (ρ : Operand → Value) (dst : Option Tmp) (s x : Operand) (ty : TypeId) (pos : String) (after : Array Edge) (guard : Option (Nat × Bool)) (w : World) :
    Sem.run Try.prog (Oper.semAt ro ρ { dst := dst, op := Op.call { callee := .builtin .append, args := #[s, x], argTypes := #[23, 23] }, type := ty, pos := pos, after := after, guard := guard }) w = AppRes Try.prog ty (ρ s) (ρ x) w := by
  rw [Oper.semAt_eq _ _ _ (by intro c hc; cases hc)]
  simp [execOp, resolve, invoke, builtin, AppRes]
theorem stepIn_res {F : Fence} {nF : Nat} {Y : Nat → Option Bool} {o : Oper} {a : Act} {w : World} {K : Act → World → Prop} {Q : Exit → Act → World → Prop} {E : Prop} (s x : Operand)
    (hgd : o.guard = none) (ho : o.op = .call { callee := .builtin .append, args := #[s, x], argTypes := #[23, 23] }) (v' : Value) (w' : World)
    (hr : AppRes Try.prog o.type (a.eval s) (a.eval x) w = .ok (.value v') w') (h : K (a.put o.dst v') w') :
    if Region.wanted o Y = true then Oper.wpIn F nF Try.prog o a w K Q else E := by
  rw [if_pos (by simp [Region.wanted, hgd])]
  unfold Oper.wpIn
  refine ⟨by simp [Oper.about, ho, resolve, Target.leads, Sem.run_pure], ?_⟩
  rw [Oper.semAt_plain F _ _ (by rw [ho]; intro c hc'; cases hc')]
  unfold AppRes at hr
  simp only [execOp, ho, resolve, invoke, builtin, Sem.run_bind, Sem.run_pure, Result.andThen_ok, List.map_toArray, List.map_cons, List.map_nil]
  generalize (Builtin.append_ #[23, 23] o.type #[a.eval s, a.eval x]).run Try.prog w = R at hr ⊢
  cases R with
  | ok v1 w1 => simp [Result.andThen] at hr; obtain ⟨rfl, rfl⟩ := hr; exact h
  | halt h1 w1 => simp [Result.andThen] at hr
theorem wpListIn_res {F : Fence} {nF : Nat} {ops : Array Oper} {rest : List Oper} {o : Oper} {a : Act} {w : World} {Q : Exit → Act → World → Prop} (s x : Operand)
    (hgd : o.guard = none) (ho : o.op = .call { callee := .builtin .append, args := #[s, x], argTypes := #[23, 23] }) (v' : Value) (w' : World)
    (hr : AppRes Try.prog o.type (a.eval s) (a.eval x) w = .ok (.value v') w') (h : wpListIn F nF Try.prog ops Q rest (a.put o.dst v') w') : wpListIn F nF Try.prog ops Q (o :: rest) a w := by
  refine wpListIn_plain hgd fun K hK => ?_
  have := stepIn_res (F := F) (nF := nF) (Y := fun _ => none) (o := o) (a := a) (w := w) (K := K) (Q := Q) (E := False) s x hgd ho v' w' hr (hK _ _ h)
  rwa [if_pos (by simp [Region.wanted, hgd])] at this
theorem ranges_pos (s : Int) : ∀ r ∈ rangesL s, 1 ≤ r ∧ r ≤ 100 := by
  intro r hr
  unfold rangesL at hr
  split at hr
  · simp at hr; omega
  · split at hr
    · simp at hr; omega
    · simp at hr
/-- the j-th range -/
def rngAt (s : Int) (j : Nat) : Rng := ⟨(j, if h : j < (rangesL s).length then (rangesL s)[j] else 1), by
  by_cases h : j < (rangesL s).length
  · simp only [h, dif_pos]; exact ranges_pos s _ (List.getElem_mem h)
  · simp [h]⟩
theorem rngAt_spec (s : Int) (j : Nat) (h : j < (rangesL s).length) : (rngAt s j).1.1 = j ∧ (rangesL s)[j]? = some (rngAt s j).1.2 := by
  refine ⟨rfl, ?_⟩
  simp [rngAt, h]
theorem vals_upto (s : Int) : vals (uptoL (fun j => rngAt s ((rangesL s).length - 1 - j)) (rangesL s).length) = (rangesL s).reverse := by
  apply List.ext_getElem
  · simp [vals, uptoL]
  · intro i h1 h2
    have hi : i < (rangesL s).length := by simpa using h2
    simp [vals, uptoL, rngAt, show (rangesL s).length - 1 - i < (rangesL s).length by omega]
theorem len_ranges (s : Int) : (rangesL s).length ≤ 3 := by unfold rangesL; (split; · decide); split <;> decide
theorem pinv_step {l q r : Int} {b0 N1 g' c' : Nat} {w W w2 : World} {pre : List Rng} {x : Rng} {v : Value} {o : Obj} (hr : x.1.2 = r) (hq : pDiv l (vals pre) = q) (hN : b0 + 2 ≤ N1)
    (hb1 : Boxed W b0 3 (.int .i64 q)) (hb2 : Boxed W (b0 + 1) 23 v) (hown : Own W N1 v (pRem l (vals pre))) (hB : Below b0 w W) (hsz : N1 ≤ W.heap.size)
    (hown2 : Own w2 N1 (.slice (some ⟨g', 0, none⟩) ((pRem l (vals pre)).length + 1) c') (pRem l (vals pre) ++ [q % r])) (hgr : (W.alloc o).drew.grownBy w2 v.ownBlock) :
    (Boxed w2 b0 3 (.int .i64 q) ∧ Boxed w2 (b0 + 1) 23 v) ∧ KeepsFrom N1 W ((w2.setCell ⟨b0 + 1, 0, none⟩ (.slice (some ⟨g', 0, none⟩) ((pRem l (vals pre)).length + 1) c')).setCell ⟨b0, 0, none⟩ (.int .i64 (q / r))) ∧
      KeepMid (b0 + 2) N1 W ((w2.setCell ⟨b0 + 1, 0, none⟩ (.slice (some ⟨g', 0, none⟩) ((pRem l (vals pre)).length + 1) c')).setCell ⟨b0, 0, none⟩ (.int .i64 (q / r))) ∧
      PInv l b0 N1 w (pre ++ [x]) ((w2.setCell ⟨b0 + 1, 0, none⟩ (.slice (some ⟨g', 0, none⟩) ((pRem l (vals pre)).length + 1) c')).setCell ⟨b0, 0, none⟩ (.int .i64 (q / r))) := by
  have hlt : ∀ k, v.ownBlock = some k → N1 ≤ k := fun k hk => (World.ownsRow.lt hown k hk).1
  have hne0 : some b0 ≠ v.ownBlock := fun e => by have := hlt b0 e.symm; omega
  have hne1 : some (b0 + 1) ≠ v.ownBlock := fun e => by have := hlt (b0 + 1) e.symm; omega
  have k1 : Boxed w2 b0 3 (.int .i64 q) := (show Boxed (W.alloc o).drew b0 _ _ from hb1.alloc o).kept hgr hne0
  have k2 : Boxed w2 (b0 + 1) 23 v := (show Boxed (W.alloc o).drew (b0 + 1) _ _ from hb2.alloc o).kept hgr hne1
  have hg := hown2.blk
  have k3 := (k2.set (.slice (some ⟨g', 0, none⟩) ((pRem l (vals pre)).length + 1) c'))
  have k4 := (k1.other (show b0 ≠ b0 + 1 by omega) (.slice (some ⟨g', 0, none⟩) ((pRem l (vals pre)).length + 1) c')).set (.int .i64 (q / r))
  have k5 := k3.other (show b0 + 1 ≠ b0 by omega) (.int .i64 (q / r))
  have o3 : Own (w2.setCell ⟨b0 + 1, 0, none⟩ (.slice (some ⟨g', 0, none⟩) ((pRem l (vals pre)).length + 1) c')) N1 (.slice (some ⟨g', 0, none⟩) ((pRem l (vals pre)).length + 1) c') (pRem l (vals pre) ++ [q % r]) :=
    World.ownsRow.kept hown2 (grownBy_setCell' w2 (b0 + 1) _) (.inr (by simp [Value.ownBlock]; omega))
  have o4 : Own ((w2.setCell ⟨b0 + 1, 0, none⟩ (.slice (some ⟨g', 0, none⟩) ((pRem l (vals pre)).length + 1) c')).setCell ⟨b0, 0, none⟩ (.int .i64 (q / r))) N1 (.slice (some ⟨g', 0, none⟩) ((pRem l (vals pre)).length + 1) c') (pRem l (vals pre) ++ [q % r]) :=
    World.ownsRow.kept o3 (grownBy_setCell' _ b0 _) (.inr (by simp [Value.ownBlock]; omega))
  have hblk : ∀ k, k < W.heap.size → k ≠ b0 → k ≠ b0 + 1 → v.ownBlock ≠ some k → ((w2.setCell ⟨b0 + 1, 0, none⟩ (.slice (some ⟨g', 0, none⟩) ((pRem l (vals pre)).length + 1) c')).setCell ⟨b0, 0, none⟩ (.int .i64 (q / r))).heap[k]? = W.heap[k]? := by
    intro k hk h1 h2 h3
    rw [Below.heap_setCell _ _ _ k h1, Below.heap_setCell _ _ _ k h2, hgr.block k (by show k < (W.alloc o).heap.size; simp; omega) (fun e => h3 e.symm)]
    exact Below.heap_alloc W o k hk
  have hsz2 : W.heap.size ≤ ((w2.setCell ⟨b0 + 1, 0, none⟩ (.slice (some ⟨g', 0, none⟩) ((pRem l (vals pre)).length + 1) c')).setCell ⟨b0, 0, none⟩ (.int .i64 (q / r))).heap.size := by
    have := hgr.size
    simp [World.setCell] at *
    omega
  refine ⟨⟨k1, k2⟩, ⟨hsz2, ?_⟩, ⟨hsz2, fun k h1 h2 => hblk k (by omega) (by omega) (by omega) (fun e => by have := hlt k e; omega)⟩, ?_, ⟨_, k5, ?_⟩, ?_, by omega⟩
  · intro k o' hk hko hc
    refine (hblk k (Array.getElem?_eq_some_iff.1 hko).1 (by omega) (by omega) (fun e => ?_)).trans hko
    rcases World.ownsRow.lt hown k e with ⟨_, _⟩
    rcases hown.2 with ⟨rfl, _⟩ | ⟨gg, cap, cur, rfl, _, hgg, _⟩
    · simp [Value.ownBlock] at e
    · simp only [Value.ownBlock, Option.some.injEq] at e
      subst e
      rw [hgg] at hko
      cases hko
      simp [Obj.isCells] at hc
  · rw [vals_snoc, pDiv_snoc, hq, hr]; exact k4
  · rw [vals_snoc, pRem_snoc, hq, hr]; exact o4
  · refine hB.trans ⟨?_, ?_, ?_, hsz2, fun k hk => hblk k (by have := hB.size; omega) (by omega) (by omega) (fun e => by have := hlt k e; omega)⟩
    · exact hgr.os
    · exact hgr.tape
    · exact hgr.output
end Go.Proofs.Ytlfehdikgbgloaa
namespace Go.Proofs.Ytlfehdikgbgloaa
open Go.RowKit
/-- the parts of a label -/
def partsL (s l : Int) : List Int := pDiv l (rangesL s).reverse :: (pRem l (rangesL s).reverse).reverse
end Go.Proofs.Ytlfehdikgbgloaa
namespace Go.Proofs.Ytlfehdikgbgloaa
open Go.RowKit
/-- the reference's test of distances -/
def forS (own : Int) (xs : List Int) : Bool := (xs.all fun x => x == own - 1 || x == own + 1) && ((own == 0 && (xs.countP (fun x => x == own - 1) == 0)) || (decide (0 < own) && (xs.countP (fun x => x == own - 1) == 1)))
/-- the program's test of distances -/
def forI (own : Int) (xs : List Int) : Bool := if own = 0 then xs.countP (fun x => x == own + 1) == xs.length else (xs.countP (fun x => x == own - 1) == 1) && (((xs.countP (fun x => x == own + 1) : Nat) : Int) == (xs.length : Int) - 1)
theorem for_eq {own : Int} {xs : List Int} (h0 : 0 ≤ own) : forI own xs = forS own xs := by
  have hs := count_sum (p := fun x => x == own - 1) (q := fun x => x == own + 1) (xs := xs) (fun x _ hp => by
    simp only [beq_iff_eq] at hp
    simp; omega)
  unfold forI forS
  generalize xs.countP (fun x => x == own - 1) = a at *
  generalize xs.countP (fun x => x == own + 1) = b at *
  rw [Bool.eq_iff_iff]
  by_cases h : own = 0
  · rw [if_pos h]
    simp only [Bool.and_eq_true, decide_eq_true_eq, beq_iff_eq, Bool.or_eq_true, List.all_eq_true] at *
    rw [← hs.2]
    omega
  · rw [if_neg h]
    simp only [Bool.and_eq_true, decide_eq_true_eq, beq_iff_eq, Bool.or_eq_true, List.all_eq_true] at *
    rw [← hs.2]
    omega
end Go.Proofs.Ytlfehdikgbgloaa
namespace Go.Proofs.Ytlfehdikgbgloaa
open Go.RowKit
theorem partsL4 (l : Int) : partsL 4 l = [l / 100, l % 100] := by simp [partsL, rangesL, pDiv, pRem]
theorem partsL5 (l : Int) : partsL 5 l = [l / 2 / 10 / 100, l / 2 / 10 % 100, l / 2 % 10, l % 2] := by simp [partsL, rangesL, pDiv, pRem]
theorem ints2 {w : World} {v : Value} {a b : Int} (h : IntS w v [a, b]) : ∃ g off c, v = .slice (some ⟨g, off, none⟩) 2 c ∧ (∀ W, Since w W → W.cell? ⟨g, off, none⟩ = some (.int .i64 a)) ∧ (∀ W, Since w W → W.cell? ⟨g, off + 1, none⟩ = some (.int .i64 b)) := by
  obtain ⟨A, c, rfl, _, _, hA⟩ := h
  obtain ⟨g, off, rfl, h0⟩ := hA 0 a rfl
  obtain ⟨g', off', e, h1⟩ := hA 1 b rfl
  cases e
  exact ⟨g, off, c, rfl, have_cell (by simpa using h0), have_cell h1⟩
theorem ints4 {w : World} {v : Value} {a b d e : Int} (h : IntS w v [a, b, d, e]) : ∃ g off c, v = .slice (some ⟨g, off, none⟩) 4 c ∧ (∀ W, Since w W → W.cell? ⟨g, off, none⟩ = some (.int .i64 a)) ∧ (∀ W, Since w W → W.cell? ⟨g, off + 1, none⟩ = some (.int .i64 b)) ∧ (∀ W, Since w W → W.cell? ⟨g, off + 2, none⟩ = some (.int .i64 d)) ∧ (∀ W, Since w W → W.cell? ⟨g, off + 3, none⟩ = some (.int .i64 e)) := by
  obtain ⟨A, c, rfl, _, _, hA⟩ := h
  obtain ⟨g, off, rfl, h0⟩ := hA 0 a rfl
  obtain ⟨g', off', e1, h1⟩ := hA 1 b rfl
  cases e1
  obtain ⟨g', off', e1, h2⟩ := hA 2 d rfl
  cases e1
  obtain ⟨g', off', e1, h3⟩ := hA 3 e rfl
  cases e1
  exact ⟨g, off, c, rfl, have_cell (by simpa using h0), have_cell h1, have_cell h2, have_cell h3⟩
theorem range_any_succ {k : Nat} {p : Nat → Bool} : (List.range (k + 1)).any p = ((List.range k).any p || p k) := by rw [List.range_succ, List.any_append]; simp
def lab (ls : List Int) (e : Int × Int) : Int := ls.getD e.1.toNat 0
/-- a node accepts a proof of a leader -/
def leadB (idk ink : Int) (ls : List Int) (l : Int) (es : List (Int × Int)) : Bool :=
  ((List.range es.length).all fun i => lab ls (es.getD i (0, 0)) / 100 == l / 100) && ((l % 100 == 0 && idk == l / 100 && ink == 1) || (decide (0 < l % 100) && ink != 1 && (List.range es.length).any fun i => lab ls (es.getD i (0, 0)) % 100 == l % 100 - 1))
end Go.Proofs.Ytlfehdikgbgloaa
namespace Go.Proofs.Ytlfehdikgbgloaa
open Go.RowKit
end Go.Proofs.Ytlfehdikgbgloaa
namespace Go.Proofs.Ytlfehdikgbgloaa
open Go.RowKit
def ev0 (x : Int) : Int := x / 2 / 10 / 100
def ev1 (x : Int) : Int := x / 2 / 10 % 100
def ev2 (x : Int) : Int := x / 2 % 10
def ev3 (x : Int) : Int := x % 2
theorem partsE (l : Int) : partsL 5 l = [ev0 l, ev1 l, ev2 l, ev3 l] := partsL5 l
theorem ev1_bd (x : Int) : 0 ≤ ev1 x ∧ ev1 x < 100 := by unfold ev1; omega
theorem ev3_bd (x : Int) : 0 ≤ ev3 x ∧ ev3 x ≤ 1 := by unfold ev3; omega
def evHit (l : Int) (e : Int × Int) (y : Int) : Bool := e.2 == ev2 y && ev1 y == ev1 l + 1
def evSum (ls : List Int) (l : Int) (es : List (Int × Int)) : Nat → Int
  | 0 => 1
  | j + 1 => evSum ls l es j + if evHit l (es.getD j (0, 0)) (lab ls (es.getD j (0, 0))) then ev3 (lab ls (es.getD j (0, 0))) else 0
theorem evSum_bd (ls : List Int) (l : Int) (es : List (Int × Int)) (j : Nat) : 1 ≤ evSum ls l es j ∧ evSum ls l es j ≤ 1 + j := by
  induction j with
  | zero => simp [evSum]
  | succ j ih =>
    have := ev3_bd (lab ls (es.getD j (0, 0)))
    unfold evSum
    split <;> omega
def evAny (ls : List Int) (l : Int) (es : List (Int × Int)) (j : Nat) : Bool := (List.range j).any fun i => ((i : Int) == ev2 l) && (ev1 (lab ls (es.getD i (0, 0))) == ev1 l - 1)
def evAll (ls : List Int) (l : Int) (es : List (Int × Int)) (j : Nat) : Bool := (List.range j).all fun i => ev0 (lab ls (es.getD i (0, 0))) == ev0 l
/-- a node accepts a proof of an even number -/
def evenB (idk : Int) (ls : List Int) (l : Int) (es : List (Int × Int)) : Bool :=
  evAll ls l es es.length && (ev3 l == evSum ls l es es.length % 2) && ((ev1 l == 0 && ev2 l == 9 && idk == ev0 l && ev3 l == 0) || (decide (0 < ev1 l) && evAny ls l es es.length))
theorem labEnd {ls : List Int} {es : List (Int × Int)} {j : Nat} {x : Int × Int} {y : Int} (hx : es[j]? = some x) (hy : ls.getD x.1.toNat 0 = y) : lab ls (es.getD j (0, 0)) = y ∧ (es.getD j (0, 0)).2 = x.2 := by rw [getD_of hx]; exact ⟨hy, rfl⟩
theorem hitEq {ls : List Int} {es : List (Int × Int)} {j : Nat} {l x y : Int} {b : Bool} (h : lab ls (es.getD j (0, 0)) = y ∧ (es.getD j (0, 0)).2 = x) (f : (x == ev2 y && ev1 y == ev1 l + 1) = b) : evHit l (es.getD j (0, 0)) (lab ls (es.getD j (0, 0))) = b := by
  unfold evHit; rw [h.1, h.2]; exact f
end Go.Proofs.Ytlfehdikgbgloaa
namespace Go.Proofs.Ytlfehdikgbgloaa
open Go.RowKit
end Go.Proofs.Ytlfehdikgbgloaa
namespace Go.Proofs.Ytlfehdikgbgloaa
open Go.RowKit
set_option maxHeartbeats 2000000 in
theorem indexI_any (v : Value) (xs : List Int) (x : Int) (w : World) (h : IntS w v xs) :
    Calls Try.prog 100 #[v, .int .i64 x] w fun e w' => ∃ i : Int, e = .returned (.int .i64 i) ∧ decide (0 ≤ i) = hasB xs x ∧ w = w' := by
  obtain ⟨A, c, rfl, hlc, hm, hA⟩ := h
  unfold maxLen at hm
  have HA := Lib.hid hA
  clear hA
  go_enter Try.func100, Try.ntmps100
  go_wp2
  go_loop [8] (fun i => ∃ k : Nat, k ≤ xs.length ∧ i = .int .i64 k ∧ x ∉ xs.take k) (fun i => xs.length - (intOf i).toNat)
  case atStart => exact ⟨0, Nat.zero_le _, rfl, by simp⟩
  case round =>
    obtain ⟨k, hk, rfl, hno⟩ := hrel
    have Hno := Lib.hid hno
    clear hno
    by_cases hlt : k < xs.length
    · obtain ⟨y, hy⟩ := getx xs k hlt
      obtain ⟨b, off, rfl, hcell⟩ := HA.out k y hy
      have Hy := Lib.hid hy
      clear hy
      cases hxy : (x == y)
      · have Hxy := Lib.hid hxy
        go_wp2
        go_round
        case rel =>
          refine ⟨k + 1, by omega, by go_num, ?_⟩
          rw [take_snoc Hy.out]
          simp only [List.mem_append, List.mem_singleton, not_or]
          exact ⟨Hno.out, by simpa using Hxy.out⟩
        case measure => simp [intOf]; omega
      · have Hxy := Lib.hid hxy
        go_wp2
        go_ret
        refine ⟨_, rfl, ?_, rfl⟩
        have e : x = y := by simpa using Hxy.out
        rw [e]
        unfold hasB
        simp [List.mem_of_getElem? Hy.out]
    · go_wp2
      go_ret
      refine ⟨_, rfl, ?_, rfl⟩
      have := Hno.out
      rw [take_all xs hlt] at this
      unfold hasB
      simpa using this
theorem containsI_any (v : Value) (xs : List Int) (x : Int) (w : World) (h : IntS w v xs) :
    Calls Try.prog 68 #[v, .int .i64 x] w fun e w' => e = .returned (.bool (hasB xs x)) ∧ w = w' := by
  have H := Lib.hid h
  obtain ⟨A, c, rfl, hlc, hm, hA⟩ := h
  clear hA
  go_enter Try.func68, Try.ntmps68
  go_wp2_with fail
  refine (indexI_any _ xs x _ H.out).mono ?_
  rintro e w1 ⟨i, rfl, hi, rfl⟩
  have Hi := Lib.hid hi
  clear hi
  go_wp2
  go_ret
  exact ⟨ret_bool Hi.out, rfl⟩
/-- a node accepts -/
def accB (n : Net) (s : Int) (ls : List Int) (l idk ink : Int) (es : List (Int × Int)) : Bool :=
  if s = 1 then decide (l ≤ 1) && !((nearB ls es).any fun x => x != 1 - l)
  else if s = 2 then decide (l ≤ 2) && !hasB (nearB ls es) l
  else if s = 3 then forI l (nearB ls es)
  else if s = 4 then decide (n.ids.length ≠ 0) && leadB idk ink ls l es
  else decide (n.ids.length ≠ 0) && evenB idk ls l es
end Go.Proofs.Ytlfehdikgbgloaa
namespace Go.Proofs.Ytlfehdikgbgloaa
open Go.RowKit
theorem all_near (l : Int) (xs : List Int) : xs.all (inB (1 - l) (1 - l)) = !(xs.any fun x => x != 1 - l) := by
  rw [List.not_any_eq_all_not]
  congr 1
  funext x
  rw [Bool.eq_iff_iff, inB_iff]
  simp
  omega
theorem near_map (ls : List Int) (es : List (Int × Int)) : ((es.map (·.1)).map fun x => ls.getD x.toNat 0) = nearB ls es := by simp [nearB]
def allB' (ls : List Int) (lo hi : Int) : Bool := ls.all (inB lo hi)
theorem l1All_b' (v : Value) (xs : List Int) (lo hi : Int) (w : World) (h : IntS w v xs) :
    Calls Try.prog 52 #[v, .int .i64 lo, .int .i64 hi] w fun e w' => e = .returned (.bool (allB' xs lo hi)) ∧ w = w' := l1All_any v xs lo hi w h
theorem allWithin_b' (v : Value) (xs : List Int) (lo hi : Int) (w : World) (h : IntS w v xs) :
    Calls Try.prog 82 #[v, .int .i64 lo, .int .i64 hi] w fun e w' => e = .returned (.bool (allB' xs lo hi)) ∧ Below w.heap.size w w' := allWithin_any v xs lo hi w h
/-- a network, a scheme, labels -/
def labOk (n : Net) (s : Int) (ls : List Int) : Bool := netOk n && inB 1 5 s && ((ls.length : Int) == (n.ends.length : Int)) && allB' ls 0 999999999999
end Go.Proofs.Ytlfehdikgbgloaa
namespace Go.Proofs.Ytlfehdikgbgloaa
open Go.RowKit
def accAt (n : Net) (s : Int) (ls : List Int) (k : Nat) : Bool := accB n s ls (ls.getD k 0) (n.ids.getD k 0) (n.inputs.getD k 0) (n.ends.getD k [])
/-- what a node of good labels has -/
theorem acc_at {n : Net} {s : Int} {ls : List Int} (h : labOk n s ls = true) {k : Nat} (hk : k < n.ends.length) :
    ∃ es l idk ink, 1 ≤ s ∧ s ≤ 5 ∧ n.ends[k]? = some es ∧ es.length ≤ 6 ∧ (∀ e ∈ es, 0 ≤ e.1 ∧ e.1 < ls.length) ∧ (∀ x ∈ l :: nearB ls es, 0 ≤ x ∧ x ≤ 999999999999) ∧ ls[k]? = some l ∧ (n.ids.length ≠ 0 → n.ids[k]? = some idk) ∧ n.inputs[k]? = some ink ∧ accAt n s ls k = accB n s ls l idk ink es := by
  unfold labOk at h
  simp only [Bool.and_eq_true, beq_iff_eq] at h
  obtain ⟨⟨⟨h1, h2⟩, h3⟩, h4⟩ := h
  have hs := inB_iff.1 h2
  have hl : ls.length = n.ends.length := by omega
  obtain ⟨es, hes⟩ := getx n.ends k hk
  obtain ⟨l, hl'⟩ := getx ls k (by omega)
  obtain ⟨r1, r2⟩ := netOk_row h1 hes
  unfold allB' at h4
  rw [List.all_eq_true] at h4
  have ha : ∀ x ∈ ls, 0 ≤ x ∧ x ≤ 999999999999 := fun x hx => inB_iff.1 (h4 x hx)
  unfold netOk at h1
  simp only [Bool.and_eq_true] at h1
  obtain ⟨⟨⟨-, i1⟩, i2⟩, -⟩ := h1
  unfold inputsB at i2
  simp only [Bool.and_eq_true, beq_iff_eq] at i2
  obtain ⟨ink, hink⟩ := getx n.inputs k (by omega)
  have hids : n.ids.length ≠ 0 → n.ids[k]? = some (n.ids.getD k 0) := fun h0 => by
    unfold idsB at i1
    simp only [Bool.or_eq_true, Bool.and_eq_true, beq_iff_eq] at i1
    have : n.ids.length = n.ends.length := by
      rcases i1 with e | ⟨e, -⟩
      · exact absurd (by simpa using e) h0
      · omega
    have hk' : k < n.ids.length := by omega
    rw [List.getD_eq_getElem?_getD, List.getElem?_eq_getElem hk']; rfl
  exact ⟨es, l, _, ink, hs.1, hs.2, hes, r1, fun e he => by rw [hl]; exact r2 e he, fun x hx => ha x (seen_in hl' (fun e he => by rw [hl]; exact r2 e he) hx), hl', hids, hink, by simp [accAt, hes, hl', hink]⟩
theorem labOk_net {n : Net} {s : Int} {ls : List Int} (h : labOk n s ls = true) : netOk n = true ∧ ls.length = n.ends.length ∧ n.ends.length ≤ 40 := by
  unfold labOk at h
  simp only [Bool.and_eq_true, beq_iff_eq] at h
  exact ⟨h.1.1.1, by have := h.1.2; omega, (netOk_len h.1.1.1).2⟩
def fnExactVerifyAt_r1 (n : Net) (s : Int) (ls : List Int) (v : Int) : Bool := labOk n s ls && inB 0 ((n.ends.length : Int) - 1) v
def fnExactVerifyAt_r0 (n : Net) (s : Int) (ls : List Int) (v : Int) : Bool := fnExactVerifyAt_r1 n s ls v && accAt n s ls v.toNat
def nodeB (ess : List (List (Int × Int))) (v : Int) : Bool := inB 0 ((ess.length : Int) - 1) v
theorem hasNode_b (ve vi vn : Value) (ess : List (List (Int × Int))) (v : Int) (w : World) (h : EndSS w ve ess) :
    Calls Try.prog 98 #[.agg #[ve, vi, vn], .int .i64 v] w fun e w' => e = .returned (.bool (nodeB ess v)) ∧ Below w.heap.size w w' := hasNode_any ve vi vn ess v w h
theorem tup2 {a b c d : Bool} (h1 : a = b) (h2 : c = d) : Ending.returned (.tuple #[.bool a, .bool c]) = .returned (.tuple #[.bool b, .bool d]) := by rw [h1, h2]
end Go.Proofs.Ytlfehdikgbgloaa
