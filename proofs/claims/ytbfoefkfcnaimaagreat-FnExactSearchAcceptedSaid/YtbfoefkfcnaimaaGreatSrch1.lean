import Derived.Test.YtbfoefkfcnaimaaGreatChain
import Derived.Test.YtbfoefkfcnaimaaGreatSrchPlain
import Derived.Test.YtbfoefkfcnaimaaGreatVer6
import Derived.Test.YtbfoefkfcnaimaaGreatDel
namespace Go.Proofs.YtbfoefkfcnaimaaGreat
open Go.RowKit
/-! the reference's search -/
/-- what a node of a good network has -/
theorem node_at {n : Net} (h : netOk n = true) {k : Nat} (hk : k < n.ends.length) :
    n.ends[k]? = some (n.ends.getD k []) ∧ (n.ends.getD k []).length ≤ 6 ∧ (∀ e ∈ n.ends.getD k [], 0 ≤ e.1 ∧ e.1 < n.ends.length) ∧ (n.ids.length ≠ 0 → n.ids[k]? = some (n.ids.getD k 0)) ∧ n.inputs[k]? = some (n.inputs.getD k 0) := by
  obtain ⟨es, hes⟩ := getx n.ends k hk
  have e : n.ends.getD k [] = es := by simp [List.getD_eq_getElem?_getD, hes]
  obtain ⟨r1, r2⟩ := netOk_row h hes
  unfold netOk at h
  simp only [Bool.and_eq_true] at h
  obtain ⟨⟨⟨-, i1⟩, i2⟩, -⟩ := h
  unfold inputsB at i2
  simp only [Bool.and_eq_true, beq_iff_eq] at i2
  obtain ⟨ink, hink⟩ := getx n.inputs k (by omega)
  have hids : n.ids.length ≠ 0 → n.ids[k]? = some (n.ids.getD k 0) := fun h0 => by
    unfold idsB at i1
    simp only [Bool.or_eq_true, Bool.and_eq_true, beq_iff_eq] at i1
    have : n.ids.length = n.ends.length := by
      rcases i1 with e | ⟨e, -⟩
      · exact absurd (by simpa using e) h0
      · omega
    have hk' : k < n.ids.length := by omega
    rw [List.getD_eq_getElem?_getD, List.getElem?_eq_getElem hk']; rfl
  rw [e]
  exact ⟨hes, r1, r2, hids, by rw [hink]; simp [hink]⟩
/-- the kinds of searches -/
def KindOk (s m most : Int) : Prop := (s = 0 ∧ 3 ≤ m ∧ m ≤ 40 ∧ most = m - 1) ∨ (1 ≤ s ∧ s ≤ 5 ∧ 0 ≤ most ∧ most ≤ 999999999999)
theorem KindOk.most {s m most : Int} (h : KindOk s m most) : 0 ≤ most ∧ most ≤ 999999999999 := by unfold KindOk at h; omega
def accG (n : Net) (s m : Int) (ls : List Int) (k : Nat) : Bool := if s = 0 then modS m (ls.getD k 0) (nearB ls (n.ends.getD k [])) else accAt n s ls k
def AS (W : World) (B : Nat) (ve vi vn : Value) (s m most lim st : Int) (vl : Value) : Prop := W.heap[B]? = some (.cells #[ve, vi, vn, .int .i64 s, .int .i64 m, .int .i64 most, .int .i64 lim, .int .i64 st, vl] 43)
section
variable {W W' : World} {B : Nat} {ve vi vn vl : Value} {s m most lim st : Int}
theorem AS.c0 (h : AS W B ve vi vn s m most lim st vl) : W.cell? ⟨B, 0, none⟩ = some ve := by unfold AS at h; simp [World.cell?, h]
theorem AS.c1 (h : AS W B ve vi vn s m most lim st vl) : W.cell? ⟨B, 1, none⟩ = some vi := by unfold AS at h; simp [World.cell?, h]
theorem AS.c2 (h : AS W B ve vi vn s m most lim st vl) : W.cell? ⟨B, 2, none⟩ = some vn := by unfold AS at h; simp [World.cell?, h]
theorem AS.c3 (h : AS W B ve vi vn s m most lim st vl) : W.cell? ⟨B, 3, none⟩ = some (.int .i64 s) := by unfold AS at h; simp [World.cell?, h]
theorem AS.c4 (h : AS W B ve vi vn s m most lim st vl) : W.cell? ⟨B, 4, none⟩ = some (.int .i64 m) := by unfold AS at h; simp [World.cell?, h]
theorem AS.c5 (h : AS W B ve vi vn s m most lim st vl) : W.cell? ⟨B, 5, none⟩ = some (.int .i64 most) := by unfold AS at h; simp [World.cell?, h]
theorem AS.c6 (h : AS W B ve vi vn s m most lim st vl) : W.cell? ⟨B, 6, none⟩ = some (.int .i64 lim) := by unfold AS at h; simp [World.cell?, h]
theorem AS.c7 (h : AS W B ve vi vn s m most lim st vl) : W.cell? ⟨B, 7, none⟩ = some (.int .i64 st) := by unfold AS at h; simp [World.cell?, h]
theorem AS.c8 (h : AS W B ve vi vn s m most lim st vl) : W.cell? ⟨B, 8, none⟩ = some vl := by unfold AS at h; simp [World.cell?, h]
theorem AS.fz (h : AS W B ve vi vn s m most lim st vl) (k : Nat) : W.frozen? ⟨B, k, none⟩ = false := by unfold AS at h; simp [World.frozen?, h]
theorem AS.lt (h : AS W B ve vi vn s m most lim st vl) : B < W.heap.size := (Array.getElem?_eq_some_iff.1 h).1
theorem AS.since (h : AS W B ve vi vn s m most lim st vl) (hs : Since W W') : AS W' B ve vi vn s m most lim st vl := (hs.below.block B h.lt).trans h
theorem AS.other (h : AS W B ve vi vn s m most lim st vl) {b' : Nat} (hb : B ≠ b') (i : Nat) (v : Value) : AS (W.setCell ⟨b', i, none⟩ v) B ve vi vn s m most lim st vl := (Below.heap_setCell W _ v B hb).trans h
theorem AS.setS (h : AS W B ve vi vn s m most lim st vl) (st' : Int) : AS (W.setCell ⟨B, 7, none⟩ (.int .i64 st')) B ve vi vn s m most lim st' vl := by
  unfold AS at *
  simp [World.setCell, Array.getElem?_modify, h]
theorem AS.setL (h : AS W B ve vi vn s m most lim st vl) (vl' : Value) : AS (W.setCell ⟨B, 8, none⟩ vl') B ve vi vn s m most lim st vl' := by
  unfold AS at *
  simp [World.setCell, Array.getElem?_modify, h]
end
set_option maxHeartbeats 4000000 in
theorem roFree_any (N : Nat) (w : World) (hN : N ≤ 1000000) : Calls Tryz.prog 33 #[.int .i64 N] w fun e w' => ∃ u, e = .returned u ∧ Own w' w.heap.size u (List.replicate N (-1)) ∧ Below w.heap.size w w' := by
  go_enter Tryz.func33, Tryz.ntmps33
  go_wp2_with (at_make; refine mk_ints _ rfl _ _ rfl _ _ N rfl rfl rfl rfl (by omega) ?_; intro w1 ho1 hb1 hz1)
  obtain ⟨g, hg⟩ : ∃ g, g = w.heap.size := ⟨_, rfl⟩
  rw [← hg] at ho1 hz1 ⊢
  have Hg := Lib.hid hg
  clear hg hz1
  go_wp2
  go_loopw [9] (fun i wr => ∃ k : Nat, k ≤ N ∧ i = .int .i64 k ∧ Own wr w.heap.size (.slice (some ⟨g, 0, none⟩) N N) (List.replicate k (-1) ++ List.replicate (N - k) 0) ∧ Below w.heap.size w wr) (fun i _ => N - (intOf i).toNat)
  case atStart => exact ⟨0, Nat.zero_le _, rfl, by have := ho1; simpa [Hg.out] using this, hb1⟩
  case round =>
    obtain ⟨k, hk, rfl, ho, hb⟩ := hrel
    have Ho := Lib.hid ho
    have Hb := Lib.hid hb
    clear ho1 hb1 ho hb
    by_cases hlt : k < N
    · obtain ⟨y, hy⟩ := getx (List.replicate k (-1 : Int) ++ List.replicate (N - k) 0) k (by simp; omega)
      have cz := Ho.out.cell hy
      have fz := Ho.out.free k
      clear hy
      go_wp2
      go_roundw
      case rel =>
        refine ⟨k + 1, by omega, by go_num, ?_, Hb.out.setCell (by show w.heap.size ≤ g; rw [Hg.out]; exact Nat.le_refl _) _⟩
        have := Ho.out.set (k := k) (-1)
        have e : (List.replicate k (-1 : Int) ++ List.replicate (N - k) 0).set k (-1) = List.replicate (k + 1) (-1) ++ List.replicate (N - (k + 1)) 0 := by
          rw [List.set_append_right _ _ (by simp), List.length_replicate, Nat.sub_self, show N - k = (N - (k + 1)) + 1 by omega, List.replicate_succ, List.set_cons_zero, List.replicate_succ', List.append_assoc]
          rfl
        rwa [e] at this
      case measure => simp [intOf]; omega
    · obtain rfl : k = N := by omega
      go_wp2
      go_ret
      exact ⟨_, rfl, by have := Ho.out; rwa [Nat.sub_self, List.replicate_zero, List.append_nil] at this, Hb.out⟩
set_option maxHeartbeats 4000000 in
theorem known_any (ve vi vn vl : Value) (n : Net) (s m most lim st : Int) (B x v : Nat) (w : World) (h : NetIn w ve vi vn n) (ha : AS w B ve vi vn s m most lim st vl) (hn : netOk n = true) (hx : x < n.ends.length) (hv : v ≤ 1000000) :
    Calls Tryz.prog 48 #[.pointer (some ⟨B, 0, none⟩), .int .i64 x, .int .i64 v] w fun e w' => e = .returned (.bool (knownB n x v)) ∧ Below w.heap.size w w' := by
  have H := Lib.hid h
  have N1 := Lib.hid (node_at hn hx)
  have q0 := ha.c0
  have q1 := ha.c1
  have q2 := ha.c2
  have q8 := ha.c8
  obtain ⟨⟨A, c, rfl, hlc, hm, _⟩, ⟨A2, c2', rfl, _, hm2', _⟩, ⟨A3, c3', rfl, _, hm3', _⟩⟩ := h
  clear ha hn
  by_cases hxv : (x : Int) ≤ (v : Int)
  · have Hk : Hid (knownB n x v = ((n.ends.getD x []).map fun e => e.1).all (inB 0 v)) := by
      show _ = _
      unfold knownB
      simp [hxv]
    go_enter Tryz.func48, Tryz.ntmps48
    go_wp2_with fail
    refine (neNear_any _ _ _ n x _ w H.out N1.out.1 (by have := N1.out.2.1; omega)).mono ?_
    rintro e w1 ⟨u, rfl, ho, hb⟩
    have HI := Lib.hid ho.ints
    have Hb := Lib.hid hb
    clear ho hb
    go_wp2_with fail
    have hq := l1All_any _ _ 0 v w1 HI.out
    rw [← Hk.out] at hq
    refine hq.mono ?_
    clear hq
    rintro e w2 ⟨rfl, rfl⟩
    go_wp2
    go_ret
    exact ⟨rfl, Hb.out⟩
  · have Hk : Hid (knownB n x v = false) := by
      show _ = _
      unfold knownB
      simp only [Bool.and_eq_false_iff, decide_eq_false_iff_not]
      exact .inl hxv
    go_enter Tryz.func48, Tryz.ntmps48
    go_wp2
    go_ret
    exact ⟨congrArg (fun b => Ending.returned (.bool b)) Hk.out.symm, Below.refl _ _⟩
set_option maxHeartbeats 4000000 in
theorem sAccepts_any (ve vi vn vl : Value) (n : Net) (s m most lim st : Int) (ls : List Int) (B k : Nat) (w : World) (h : NetIn w ve vi vn n) (hl : IntS w vl ls) (ha : AS w B ve vi vn s m most lim st vl) (hn : netOk n = true) (hk : k < n.ends.length) (hll : ls.length = n.ends.length) (hK : KindOk s m most)
    (hse : ∀ x ∈ ls.getD k 0 :: nearB ls (n.ends.getD k []), 0 ≤ x ∧ x ≤ most) :
    Calls Tryz.prog 49 #[.pointer (some ⟨B, 0, none⟩), .int .i64 k] w fun e w' => e = .returned (.bool (accG n s m ls k)) ∧ Below w.heap.size w w' := by
  have H := Lib.hid h
  have HL := Lib.hid hl
  obtain ⟨n1, n2, n3, n4, n5⟩ := node_at hn hk
  have hlk : ls[k]? = some (ls.getD k 0) := by rw [List.getD_eq_getElem?_getD, List.getElem?_eq_getElem (by omega)]; rfl
  have hkm := hK.most
  have hown := hse (ls.getD k 0) (by simp)
  have hin : ∀ e ∈ n.ends.getD k [], 0 ≤ e.1 ∧ e.1 < ls.length := fun e he => by rw [hll]; exact n3 e he
  have q0 := have_cell ha.c0
  have q1 := have_cell ha.c1
  have q2 := have_cell ha.c2
  have q3 := have_cell ha.c3
  have q4 := have_cell ha.c4
  have q8 := have_cell ha.c8
  obtain ⟨AL, cL, rfl, hlL, hmL, _⟩ := hl
  obtain ⟨⟨A, c, rfl, hlc, hm, _⟩, ⟨A2, c2', rfl, _, hm2', _⟩, ⟨A3, c3', rfl, _, hm3', _⟩⟩ := h
  rcases hK with ⟨rfl, k1, k2, k3⟩ | ⟨k1, k2, k3, k4⟩
  · have Hc : Hid (∀ W, Since w W → Calls Tryz.prog 68 #[.agg #[.slice A n.ends.length c, .slice A2 n.ids.length c2', .slice A3 n.inputs.length c3'], .int .i64 m, .slice AL ls.length cL, .int .i64 k] W fun e w' => e = .returned (.bool (accG n 0 m ls k)) ∧ Below W.heap.size W w') := fun W hW => by
      have := atModulo_any _ _ _ _ n m ls k _ (ls.getD k 0) W (H.out.keep hW.below) (HL.out.keep hW.below) n1 n2 hin k1 k2 hlk hown.1 (by omega)
      rw [show accG n 0 m ls k = modS m (ls.getD k 0) (nearB ls (n.ends.getD k [])) by simp [accG]]
      exact this
    clear ha hn n1 n2 n3 n4 n5 hlk hse hin hown k3 hll
    go_enter Tryz.func49, Tryz.ntmps49
    go_upto_region 2 with (fail)
    refine wp_region_chain (w0 := w) 15 [false, false, false, false, false, false, false, false, false, false, false, false, false, true, true] (by kernel_rfl) (by kernel_rfl) (since_refl _) ?_
    simp only [selF, selT, List.take_succ_cons, List.take_zero, List.drop_succ_cons, List.drop_zero]
    refine pflow_val (v := ?_) rfl ?_ ?_; rotate_left; (intro W hW; go_simp; with_reducible rfl)
    simp only [Act.put, List.setIfInBounds_toArray, List.set_cons_succ, List.set_cons_zero]
    refine pflow_val (v := ?_) rfl ?_ ?_; rotate_left; (intro W hW; go_simp; with_reducible rfl)
    simp only [Act.put, List.setIfInBounds_toArray, List.set_cons_succ, List.set_cons_zero]
    refine pflow_val (v := ?_) rfl ?_ ?_; rotate_left; (intro W hW; go_simp; with_reducible rfl)
    simp only [Act.put, List.setIfInBounds_toArray, List.set_cons_succ, List.set_cons_zero]
    refine pflow_val (v := ?_) rfl ?_ ?_; rotate_left; (intro W hW; go_simp; with_reducible rfl)
    simp only [Act.put, List.setIfInBounds_toArray, List.set_cons_succ, List.set_cons_zero]
    refine pflow_val (v := ?_) rfl ?_ ?_; rotate_left; (intro W hW; go_simp; with_reducible rfl)
    simp only [Act.put, List.setIfInBounds_toArray, List.set_cons_succ, List.set_cons_zero]
    refine pflow_val (v := ?_) rfl ?_ ?_; rotate_left; (intro W hW; go_simp; with_reducible rfl)
    simp only [Act.put, List.setIfInBounds_toArray, List.set_cons_succ, List.set_cons_zero]
    refine pflow_val (v := ?_) rfl ?_ ?_; rotate_left; (intro W hW; go_simp; with_reducible rfl)
    simp only [Act.put, List.setIfInBounds_toArray, List.set_cons_succ, List.set_cons_zero]
    refine pflow_val (v := ?_) rfl ?_ ?_; rotate_left; (intro W hW; go_simp; with_reducible rfl)
    simp only [Act.put, List.setIfInBounds_toArray, List.set_cons_succ, List.set_cons_zero]
    refine pflow_val (v := ?_) rfl ?_ ?_; rotate_left; (intro W hW; go_simp; with_reducible rfl)
    simp only [Act.put, List.setIfInBounds_toArray, List.set_cons_succ, List.set_cons_zero]
    refine pflow_val (v := ?_) rfl ?_ ?_; rotate_left; (intro W hW; go_simp; with_reducible rfl)
    simp only [Act.put, List.setIfInBounds_toArray, List.set_cons_succ, List.set_cons_zero]
    refine pflow_val (v := ?_) rfl ?_ ?_; rotate_left; (intro W hW; go_simp; with_reducible rfl)
    simp only [Act.put, List.setIfInBounds_toArray, List.set_cons_succ, List.set_cons_zero]
    refine pflow_val (v := ?_) rfl ?_ ?_; rotate_left; (intro W hW; go_simp; with_reducible rfl)
    simp only [Act.put, List.setIfInBounds_toArray, List.set_cons_succ, List.set_cons_zero]
    refine pflow_val (v := ?_) rfl ?_ ?_; rotate_left; (intro W hW; go_simp; with_reducible rfl)
    simp only [Act.put, List.setIfInBounds_toArray, List.set_cons_succ, List.set_cons_zero]
    intro W hW
    refine Or.inl ⟨rfl, ?_⟩
    go_simp
    (with_reducible refine (Hc.out W hW).mono ?_)
    rintro e W' ⟨rfl, hb⟩
    refine ⟨_, rfl, hW.trans hb, ?_⟩
    replace hW := hW.trans hb
    (try simp only [Act.put, List.setIfInBounds_toArray, List.set_cons_succ, List.set_cons_zero])
    refine tflow_val (v := ?_) rfl ?_ hW ?_; rotate_left; (go_simp; with_reducible rfl)
    simp only [Act.put, List.setIfInBounds_toArray, List.set_cons_succ, List.set_cons_zero]
    simp only [TFlow]
    have HW := Lib.hid hW
    clear q0 q1 q2 q3 q4 q8 hW
    go_wp2
    go_ret
    exact ⟨rfl, HW.out⟩
  · have Hc : Hid (∀ W, Since w W → Calls Tryz.prog 69 #[.agg #[.slice A n.ends.length c, .slice A2 n.ids.length c2', .slice A3 n.inputs.length c3'], .int .i64 s, .slice AL ls.length cL, .int .i64 k] W fun e w' => e = .returned (.bool (accG n s m ls k)) ∧ Below W.heap.size W w') := fun W hW => by
      have := plAt_any _ _ _ _ n s ls k _ (ls.getD k 0) _ _ W (H.out.keep hW.below) (HL.out.keep hW.below) k1 k2 n1 n2 hin (fun x hx => ⟨(hse x hx).1, by have := (hse x hx).2; omega⟩) hlk n4 n5
      rw [show accG n s m ls k = accAt n s ls k by simp only [accG]; rw [if_neg (by omega)]]
      exact this
    have hs0 : (s == 0) = false := by rw [beq_eq_false_iff_ne]; omega
    clear ha hn n1 n2 n3 n4 n5 hlk hse hin hown hll
    go_enter Tryz.func49, Tryz.ntmps49
    go_upto_region 3 with (fail)
    refine wp_region_chain (w0 := w) 15 [false, false, false, false, false, false, false, false, false, false, false, false, false, true, true] (by kernel_rfl) (by kernel_rfl) (since_refl _) ?_
    simp only [selF, selT, List.take_succ_cons, List.take_zero, List.drop_succ_cons, List.drop_zero]
    refine pflow_val (v := ?_) rfl ?_ ?_; rotate_left; (intro W hW; go_simp; with_reducible rfl)
    simp only [Act.put, List.setIfInBounds_toArray, List.set_cons_succ, List.set_cons_zero]
    refine pflow_val (v := ?_) rfl ?_ ?_; rotate_left; (intro W hW; go_simp; with_reducible rfl)
    simp only [Act.put, List.setIfInBounds_toArray, List.set_cons_succ, List.set_cons_zero]
    refine pflow_val (v := ?_) rfl ?_ ?_; rotate_left; (intro W hW; go_simp; with_reducible rfl)
    simp only [Act.put, List.setIfInBounds_toArray, List.set_cons_succ, List.set_cons_zero]
    refine pflow_val (v := ?_) rfl ?_ ?_; rotate_left; (intro W hW; go_simp; with_reducible rfl)
    simp only [Act.put, List.setIfInBounds_toArray, List.set_cons_succ, List.set_cons_zero]
    refine pflow_val (v := ?_) rfl ?_ ?_; rotate_left; (intro W hW; go_simp; with_reducible rfl)
    simp only [Act.put, List.setIfInBounds_toArray, List.set_cons_succ, List.set_cons_zero]
    refine pflow_val (v := ?_) rfl ?_ ?_; rotate_left; (intro W hW; go_simp; with_reducible rfl)
    simp only [Act.put, List.setIfInBounds_toArray, List.set_cons_succ, List.set_cons_zero]
    refine pflow_val (v := ?_) rfl ?_ ?_; rotate_left; (intro W hW; go_simp; with_reducible rfl)
    simp only [Act.put, List.setIfInBounds_toArray, List.set_cons_succ, List.set_cons_zero]
    refine pflow_val (v := ?_) rfl ?_ ?_; rotate_left; (intro W hW; go_simp; with_reducible rfl)
    simp only [Act.put, List.setIfInBounds_toArray, List.set_cons_succ, List.set_cons_zero]
    refine pflow_val (v := ?_) rfl ?_ ?_; rotate_left; (intro W hW; go_simp; with_reducible rfl)
    simp only [Act.put, List.setIfInBounds_toArray, List.set_cons_succ, List.set_cons_zero]
    refine pflow_val (v := ?_) rfl ?_ ?_; rotate_left; (intro W hW; go_simp; with_reducible rfl)
    simp only [Act.put, List.setIfInBounds_toArray, List.set_cons_succ, List.set_cons_zero]
    refine pflow_val (v := ?_) rfl ?_ ?_; rotate_left; (intro W hW; go_simp; with_reducible rfl)
    simp only [Act.put, List.setIfInBounds_toArray, List.set_cons_succ, List.set_cons_zero]
    refine pflow_val (v := ?_) rfl ?_ ?_; rotate_left; (intro W hW; go_simp; with_reducible rfl)
    simp only [Act.put, List.setIfInBounds_toArray, List.set_cons_succ, List.set_cons_zero]
    refine pflow_val (v := ?_) rfl ?_ ?_; rotate_left; (intro W hW; go_simp; with_reducible rfl)
    simp only [Act.put, List.setIfInBounds_toArray, List.set_cons_succ, List.set_cons_zero]
    intro W hW
    refine Or.inl ⟨rfl, ?_⟩
    go_simp
    (with_reducible refine (Hc.out W hW).mono ?_)
    rintro e W' ⟨rfl, hb⟩
    refine ⟨_, rfl, hW.trans hb, ?_⟩
    replace hW := hW.trans hb
    (try simp only [Act.put, List.setIfInBounds_toArray, List.set_cons_succ, List.set_cons_zero])
    refine tflow_val (v := ?_) rfl ?_ hW ?_; rotate_left; (go_simp; with_reducible rfl)
    simp only [Act.put, List.setIfInBounds_toArray, List.set_cons_succ, List.set_cons_zero]
    simp only [TFlow]
    have HW := Lib.hid hW
    clear q0 q1 q2 q3 q4 q8 hW
    go_wp2
    go_ret
    exact ⟨rfl, HW.out⟩
end Go.Proofs.YtbfoefkfcnaimaaGreat
namespace Go.Proofs.YtbfoefkfcnaimaaGreat
open Go.RowKit
theorem all_take_snoc {p : Int → Bool} {xs : List Int} {j : Nat} {x : Int} (hx : xs[j]? = some x) (h : (xs.take j).all p = true) (hp : p x = true) : (xs.take (j + 1)).all p = true := by
  rw [take_snoc hx, List.all_append, h]
  simp [hp]
theorem viewG_len (n : Net) (v : Nat) : (viewG n v).length = ((n.ends.getD v []).map fun e => e.1).length + 1 := by simp [viewG]
set_option maxRecDepth 100000 in
set_option maxHeartbeats 4000000 in
theorem sGood_any (ve vi vn vl : Value) (n : Net) (s m most lim st : Int) (ls : List Int) (B v : Nat) (w : World) (h : NetIn w ve vi vn n) (hl : IntS w vl ls) (ha : AS w B ve vi vn s m most lim st vl) (hn : netOk n = true) (hv : v < n.ends.length) (hK : KindOk s m most) (hU : Up n.ends.length most ls v) :
    Calls Tryz.prog 34 #[.pointer (some ⟨B, 0, none⟩), .int .i64 v] w fun e w' => e = .returned (.bool (goodG n (accG n s m) ls v)) ∧ Below w.heap.size w w' := by
  have H := Lib.hid h
  have HL := Lib.hid hl
  have HA := Lib.hid ha
  have hn40 := (netOk_len hn).2
  obtain ⟨n1, n2, n3, -, -⟩ := node_at hn hv
  have N1 := Lib.hid n1
  have hes : ((n.ends.getD v []).map fun e => e.1).length ≤ 6 := by simpa using n2
  have Hn := Lib.hid hn
  have HU := Lib.hid hU
  have q0 := have_cell ha.c0
  have q1 := have_cell ha.c1
  have q2 := have_cell ha.c2
  obtain ⟨⟨A, c, rfl, hlc, hm, _⟩, ⟨A2, c2', rfl, _, hm2', _⟩, ⟨A3, c3', rfl, _, hm3', _⟩⟩ := h
  obtain ⟨vw, hvw⟩ : ∃ x, x = viewG n v := ⟨_, rfl⟩
  have hvl : vw.length = ((n.ends.getD v []).map fun e => e.1).length + 1 := by rw [hvw, viewG_len]
  have Hvw := Lib.hid hvw
  have hs0 : Since w w := since_refl _
  clear hl ha hn n1 n2 n3 hU hvw
  go_enter Tryz.func34, Tryz.ntmps34
  go_wp2_with fail
  refine (neNear_any _ _ _ n v _ w H.out N1.out (by have := hes; rw [List.length_map] at this; omega)).mono ?_
  rintro e w1 ⟨u, rfl, ho1, hb1⟩
  have Ho1 := Lib.hid ho1
  have hs1 : Since w w1 := hb1
  obtain ⟨esl, hesl⟩ : ∃ x, x = (n.ends.getD v []).map fun e => e.1 := ⟨_, rfl⟩
  rw [← hesl] at hes hvl Ho1
  have Hesl := Lib.hid hesl
  clear ho1 hb1 hs0 hesl
  go_wp2_with (at_builtin; refine app_int_s rfl _ _ rfl rfl (Ho1.out.since (since_alloc _ (since_refl _))) w1.heap.size v rfl (by simp [go_sem]) (by omega) (since_alloc _ hs1) ?_; intro g cc w2 ho2 hs2)
  have Ho2 : Hid (Own w2 w.heap.size (.slice (some ⟨g, 0, none⟩) (esl.length + 1) cc) vw) := by
    show Own _ _ _ _
    rw [Hvw.out, viewG, ← Hesl.out]
    exact ho2
  have Hs2 := Lib.hid hs2
  clear ho2 hs1 hs2
  go_wp2
  go_loopw [17] (fun i wr => ∃ j : Nat, j ≤ esl.length + 1 ∧ i = .int .i64 j ∧ (vw.take j).all (fun x => !knownB n x v || accG n s m ls x.toNat) = true ∧ Since w2 wr) (fun i _ => esl.length + 1 - (intOf i).toNat)
  case atStart => exact ⟨0, Nat.zero_le _, rfl, rfl, since_refl _⟩
  case round =>
    obtain ⟨j, hj, rfl, hall, hsr⟩ := hrel
    have Hall := Lib.hid hall
    clear hall
    by_cases hlt : j < esl.length + 1
    · obtain ⟨x, hx⟩ := getx vw j (by omega)
      have hxin := view_in Hn.out hv x (by have := List.mem_of_getElem? hx; rwa [Hvw.out] at this)
      obtain ⟨k, rfl⟩ := Int.eq_ofNat_of_zero_le hxin.1
      have hk : k < n.ends.length := by omega
      have cx := hsr.cell (Ho2.out.cell hx)
      have hsw := Hs2.out.after hsr
      have Hx := Lib.hid hx
      have hv6 : v ≤ 1000000 := by omega
      clear hx hxin
      go_wp2_with fail
      refine (known_any _ _ _ _ n s m most lim st B k v wr (H.out.keep hsw.below) (HA.out.since hsw) Hn.out hk hv6).mono ?_
      rintro e w3 ⟨rfl, hb3⟩
      have hs3 := Since.trans hsr hb3
      have hsw3 := Since.trans hsw hb3
      clear hb3 cx hsr hsw
      cases hkn : knownB n (k : Int) v
      · have Hp : Hid ((vw.take (j + 1)).all (fun x => !knownB n x v || accG n s m ls x.toNat) = true) := all_take_snoc Hx.out Hall.out (by simp [hkn])
        clear hkn
        go_wp2
        go_roundw
        case rel => exact ⟨j + 1, by omega, by go_num, Hp.out, hs3⟩
        case measure => simp [intOf]; omega
      · have Hkn := Lib.hid hkn
        have hse := known_seen Hn.out HU.out (w := (k : Int)) (by omega) (by omega) hkn
        rw [Int.toNat_natCast] at hse
        have Hse := Lib.hid hse
        clear hkn hse
        go_wp2_with fail
        refine (sAccepts_any _ _ _ _ n s m most lim st ls B k w3 (H.out.keep hsw3.below) (HL.out.keep hsw3.below) (HA.out.since hsw3) Hn.out hk HU.out.len hK Hse.out).mono ?_
        rintro e w4 ⟨rfl, hb4⟩
        have hs4 := Since.trans hs3 hb4
        clear hb4 hs3 hsw3
        cases hac : accG n s m ls k
        · have Hr : Hid (goodG n (accG n s m) ls v = false) := by
            show _ = _
            unfold goodG
            rw [← Hvw.out]
            exact all_stop Hx.out (by simp [Hkn.out, hac])
          clear hac
          go_wp2
          go_ret
          exact ⟨congrArg (fun b => Ending.returned (.bool b)) Hr.out.symm, Hs2.out.after hs4⟩
        · have Hp : Hid ((vw.take (j + 1)).all (fun x => !knownB n x v || accG n s m ls x.toNat) = true) := all_take_snoc Hx.out Hall.out (by simp [hac])
          clear hac
          go_wp2
          go_roundw
          case rel => exact ⟨j + 1, by omega, by go_num, Hp.out, hs4⟩
          case measure => simp [intOf]; omega
    · obtain rfl : j = esl.length + 1 := by omega
      have Hr : Hid (goodG n (accG n s m) ls v = true) := by
        show _ = _
        unfold goodG
        rw [← Hvw.out]
        have := Hall.out
        rwa [take_all vw (by omega)] at this
      go_wp2
      go_ret
      exact ⟨congrArg (fun b => Ending.returned (.bool b)) Hr.out.symm, Hs2.out.after hsr⟩
end Go.Proofs.YtbfoefkfcnaimaaGreat
namespace Go.Proofs.YtbfoefkfcnaimaaGreat
open Go.RowKit
/-- the search of the reference, as a whole -/
def srchR (n : Net) (s m most lim : Int) : List Int × Int × Int := srch (goodG n (accG n s m)) most lim (leftM lim 0 n.ends.length 0) (List.replicate n.ends.length (-1)) 0 0
theorem own_other {W : World} {base b k : Nat} {u : Value} {xs : List Int} (h : Own W base u xs) (hd : u.ownBlock ≠ some b) (v : Value) : Own (W.setCell ⟨b, k, none⟩ v) base u xs :=
  ownsRow_stable h fun j hj => Below.heap_setCell W _ v j (fun e => hd (by simp at hj; rw [hj, e]))
theorem getD_some {ls : List Int} {v : Nat} (h : v < ls.length) : ls[v]? = some (ls.getD v 0) := by rw [List.getD_eq_getElem?_getD, List.getElem?_eq_getElem h]; rfl
set_option maxRecDepth 100000 in
set_option maxHeartbeats 16000000 in
theorem sRun_any (ve vi vn vl : Value) (n : Net) (s m most lim : Int) (B : Nat) (w w0 : World) (h : NetIn w0 ve vi vn n) (hs0 : Since w0 w) (hB : w0.heap.size ≤ B) (ha : AS w B ve vi vn s m most lim 0 vl) (hn : netOk n = true) (hK : KindOk s m most) (hl0 : 0 ≤ lim) (hl1 : lim ≤ 1000000000) :
    Calls Tryz.prog 17 #[.pointer (some ⟨B, 0, none⟩)] w fun e w' => e = .returned (.int .i64 (srchR n s m most lim).2.1) ∧ Since w0 w' ∧ ∃ vl', AS w' B ve vi vn s m most lim (srchR n s m most lim).2.2 vl' ∧ ((srchR n s m most lim).2.1 = 1 → Own w' w0.heap.size vl' (srchR n s m most lim).1) := by
  have H := Lib.hid h
  have Hn := Lib.hid hn
  have hkm := hK.most
  have hnl := netOk_len hn
  obtain ⟨R, hR⟩ : ∃ R, R = srchR n s m most lim := ⟨_, rfl⟩
  have HR := Lib.hid hR
  rw [← hR]
  clear hR hn
  obtain ⟨A, c, hve, -⟩ := id h.1
  have q0 := ha.c0
  rw [hve] at q0
  have HA := Lib.hid ha
  have Hs0 := Lib.hid hs0
  have hB8 := ha.fz 8
  have hc8 := ha.c8
  clear ha hs0
  go_enter Tryz.func17, Tryz.ntmps17
  go_wp2_with fail
  refine (roFree_any n.ends.length w (by omega)).mono ?_
  rintro e w1 ⟨u1, rfl, ho1, hb1⟩
  rcases ho1.cases with ⟨-, e1⟩ | ⟨g, c1, rfl, hg1, hg2⟩
  · have := congrArg List.length e1; rw [List.length_replicate, List.length_nil] at this; omega
  rw [List.length_replicate] at ho1 ⊢
  have HA1 := Lib.hid (HA.out.since hb1)
  have hc81 := HA1.out.c8
  have hB81 := HA1.out.fz 8
  have hgB : g ≠ B := fun e => by have h1 := HA.out.lt; have h2 : w.heap.size ≤ g := hg1; rw [e] at h2; omega
  obtain ⟨w2, hw2⟩ : ∃ w2, w2 = w1.setCell ⟨B, 8, none⟩ (.slice (some ⟨g, 0, none⟩) n.ends.length c1) := ⟨_, rfl⟩
  have HA2 : Hid (AS w2 B ve vi vn s m most lim 0 (.slice (some ⟨g, 0, none⟩) n.ends.length c1)) := by rw [hw2]; exact HA1.out.setL _
  have Ho2 : Hid (Own w2 w0.heap.size (.slice (some ⟨g, 0, none⟩) n.ends.length c1) (List.replicate n.ends.length (-1))) := by
    rw [hw2]
    exact own_other (ho1.mono Hs0.out.below.size) (by simpa [Value.ownBlock] using hgB) _
  have Hs2 : Hid (Since w0 w2) := by rw [hw2]; exact Below.setCell (Since.trans Hs0.out hb1) hB _
  have Hw2 := Lib.hid hw2
  have Hgw : Hid (w0.heap.size ≤ g) := Nat.le_trans Hs0.out.below.size hg1
  clear ho1 hb1 hw2 q0 hB8 hc8 hg1 hg2
  go_upto_region 2 with (fail)
  rw [← Hw2.out]
  clear hc81 hB81
  go_wp2
  go_loopw [3] (fun i wr => ∃ (f : Nat) (ls : List Int) (v : Nat) (made : Int), Since w0 wr ∧ AS wr B ve vi vn s m most lim made (.slice (some ⟨g, 0, none⟩) n.ends.length c1) ∧ Own wr w0.heap.size (.slice (some ⟨g, 0, none⟩) n.ends.length c1) ls ∧ ls.length = n.ends.length ∧ 0 ≤ made ∧ made ≤ lim ∧
      ((i = .int .i64 v ∧ v ≤ n.ends.length ∧ St n.ends.length most ls v ∧ leftM lim made n.ends.length v ≤ f ∧ srch (goodG n (accG n s m)) most lim f ls v made = R) ∨ (i = .int .i64 (-1) ∧ v = 0 ∧ R = ([], 2, made)))) (fun i wr => (intOf i + 1).toNat + (lim - (match wr.cell? ⟨B, 7, none⟩ with | some (.int _ x) => x | _ => 0)).toNat * (n.ends.length + 2))
  case atStart => exact ⟨_, _, 0, 0, Hs2.out, HA2.out, Ho2.out, by simp, Int.le_refl _, hl0, .inl ⟨rfl, Nat.zero_le _, St.start _ _ hkm.1, Nat.le_refl _, HR.out.symm⟩⟩
  case round =>
    obtain ⟨f, ls, v, made, hs, ha, ho, hll, hm0, hml, hor⟩ := hrel
    have HAr := Lib.hid ha
    have Ho := Lib.hid ho
    have a5 := have_cell ha.c5
    have a6 := have_cell ha.c6
    have a7 := have_cell ha.c7
    have a8 := have_cell ha.c8
    have b8 := ha.c8
    have b7 := ha.c7
    have f7 := ha.fz 7
    have Hll := Lib.hid hll
    clear ha ho hll
    rcases hor with ⟨rfl, hv, hst, hf, hR⟩ | ⟨rfl, rfl, hR⟩
    · obtain ⟨f, rfl⟩ : ∃ f', f = f' + 1 := ⟨f - 1, by unfold leftM at hf; omega⟩
      have HR' := Lib.hid hR
      have Hst := Lib.hid hst
      have Hf := Lib.hid hf
      clear hR hst hf
      by_cases hlt : v < n.ends.length
      · obtain ⟨x, hx⟩ : ∃ x, x = ls.getD v 0 := ⟨_, rfl⟩
        have cx := Ho.out.cell (getD_some (show v < ls.length by rw [Hll.out]; exact hlt))
        have fx := Ho.out.free v
        rw [← hx] at cx
        have dx := have_cell cx
        have hxb := Hst.out.at_ hlt
        rw [← hx] at hxb
        have Hx := Lib.hid hx
        have hlv : v < ls.length := by rw [Hll.out]; exact hlt
        have Hlv := Lib.hid hlv
        clear hx hlv
        by_cases hxm : x = most
        · -- back
          subst hxm
          go_upto_region 6 with (fail)
          refine wp_region_flow 12 (Since wr) (by kernel_rfl) (by kernel_rfl) (by simp) (since_drew (since_refl _)) ?_
          simp only [List.take_succ_cons, List.take_zero, List.drop_succ_cons, List.drop_zero]
          refine flow_val (v := ?_) rfl ?_ ?_; rotate_left; (intro W hW; go_simp; with_reducible rfl)
          simp only [Act.put, List.setIfInBounds_toArray, List.set_cons_succ, List.set_cons_zero]
          refine flow_val (v := ?_) rfl ?_ ?_; rotate_left; (intro W hW; go_simp; with_reducible rfl)
          simp only [Act.put, List.setIfInBounds_toArray, List.set_cons_succ, List.set_cons_zero]
          refine flow_val (v := ?_) rfl ?_ ?_; rotate_left; (intro W hW; go_simp; with_reducible rfl)
          simp only [Act.put, List.setIfInBounds_toArray, List.set_cons_succ, List.set_cons_zero]
          refine flow_val (v := ?_) rfl ?_ ?_; rotate_left; (intro W hW; go_simp; with_reducible rfl)
          simp only [Act.put, List.setIfInBounds_toArray, List.set_cons_succ, List.set_cons_zero]
          refine flow_val (v := ?_) rfl ?_ ?_; rotate_left; (intro W hW; go_simp; with_reducible rfl)
          simp only [Act.put, List.setIfInBounds_toArray, List.set_cons_succ, List.set_cons_zero]
          refine flow_val (v := ?_) rfl ?_ ?_; rotate_left; (intro W hW; go_simp; with_reducible rfl)
          simp only [Act.put, List.setIfInBounds_toArray, List.set_cons_succ, List.set_cons_zero]
          refine flow_val (v := ?_) rfl ?_ ?_; rotate_left; (intro W hW; go_simp; with_reducible rfl)
          simp only [Act.put, List.setIfInBounds_toArray, List.set_cons_succ, List.set_cons_zero]
          refine flow_val (v := ?_) rfl ?_ ?_; rotate_left; (intro W hW; go_simp; with_reducible rfl)
          simp only [Act.put, List.setIfInBounds_toArray, List.set_cons_succ, List.set_cons_zero]
          refine flow_val (v := ?_) rfl ?_ ?_; rotate_left; (intro W hW; go_simp; with_reducible rfl)
          simp only [Act.put, List.setIfInBounds_toArray, List.set_cons_succ, List.set_cons_zero]
          refine flow_val (v := ?_) rfl ?_ ?_; rotate_left; (intro W hW; go_simp; with_reducible rfl)
          simp only [Act.put, List.setIfInBounds_toArray, List.set_cons_succ, List.set_cons_zero]
          refine flow_val (v := ?_) rfl ?_ ?_; rotate_left; (intro W hW; go_simp; with_reducible rfl)
          simp only [Act.put, List.setIfInBounds_toArray, List.set_cons_succ, List.set_cons_zero]
          refine flow_val (v := ?_) rfl ?_ ?_; rotate_left; (intro W hW; go_simp; with_reducible rfl)
          simp only [Act.put, List.setIfInBounds_toArray, List.set_cons_succ, List.set_cons_zero]
          intro W hW
          have hsW := hs.after hW
          have HAW := Lib.hid (HAr.out.since hW)
          have HoW := Lib.hid (Ho.out.since hW)
          have c8 := HAW.out.c8
          have cz := hW.cell cx
          have fz := HoW.out.free v
          clear a5 a6 a7 a8 b8 b7 f7 cx fx dx
          have m1 : IntKind.i64.wrap ((v : Int) - 1) = (v : Int) - 1 := wr64 _ (by omega) (by omega)
          have Hx2 : Hid (ls.getD v 0 = x) := Hx.out.symm
          go_wp2
          go_roundw
          case rel =>
            have HAn := HAW.out.other (Ne.symm hgB) v (.int .i64 (-1))
            refine ⟨f, ls.set v (-1), v - 1, made, Below.setCell hsW Hgw.out _, HAn, HoW.out.set (k := v) (-1), by rw [List.length_set]; exact Hll.out, hm0, hml, ?_⟩
            by_cases hv0 : v = 0
            · subst hv0
              exact .inr ⟨by simp, rfl, by rw [← HR'.out, srch_none Hlv.out Hx2.out]⟩
            · refine .inl ⟨by congr 1; omega, by omega, Hst.out.back hv0, ?_, ?_⟩
              · have := left_back (lim := lim) (made := made) (N := n.ends.length) hv0
                have := Hf.out
                omega
              · rw [← HR'.out, srch_back Hlv.out Hx2.out hv0]
          case measure =>
            have e : (W.setCell ⟨g, v, none⟩ (.int .i64 (-1))).cell? ⟨B, 7, none⟩ = some (.int .i64 made) := (HAW.out.other (Ne.symm hgB) v (.int .i64 (-1))).c7
            rw [e, HAr.out.c7]
            simp [intOf]
        · go_upto_region 6 with (fail)
          refine wp_region_flow 12 (Since wr) (by kernel_rfl) (by kernel_rfl) (by simp) (since_drew (since_refl _)) ?_
          simp only [List.take_succ_cons, List.take_zero, List.drop_succ_cons, List.drop_zero]
          refine flow_val (v := ?_) rfl ?_ ?_; rotate_left; (intro W hW; go_simp; with_reducible rfl)
          simp only [Act.put, List.setIfInBounds_toArray, List.set_cons_succ, List.set_cons_zero]
          refine flow_val (v := ?_) rfl ?_ ?_; rotate_left; (intro W hW; go_simp; with_reducible rfl)
          simp only [Act.put, List.setIfInBounds_toArray, List.set_cons_succ, List.set_cons_zero]
          refine flow_val (v := ?_) rfl ?_ ?_; rotate_left; (intro W hW; go_simp; with_reducible rfl)
          simp only [Act.put, List.setIfInBounds_toArray, List.set_cons_succ, List.set_cons_zero]
          refine flow_val (v := ?_) rfl ?_ ?_; rotate_left; (intro W hW; go_simp; with_reducible rfl)
          simp only [Act.put, List.setIfInBounds_toArray, List.set_cons_succ, List.set_cons_zero]
          refine flow_val (v := ?_) rfl ?_ ?_; rotate_left; (intro W hW; go_simp; with_reducible rfl)
          simp only [Act.put, List.setIfInBounds_toArray, List.set_cons_succ, List.set_cons_zero]
          refine flow_val (v := ?_) rfl ?_ ?_; rotate_left; (intro W hW; go_simp; with_reducible rfl)
          simp only [Act.put, List.setIfInBounds_toArray, List.set_cons_succ, List.set_cons_zero]
          refine flow_val (v := ?_) rfl ?_ ?_; rotate_left; (intro W hW; go_simp; with_reducible rfl)
          simp only [Act.put, List.setIfInBounds_toArray, List.set_cons_succ, List.set_cons_zero]
          refine flow_val (v := ?_) rfl ?_ ?_; rotate_left; (intro W hW; go_simp; with_reducible rfl)
          simp only [Act.put, List.setIfInBounds_toArray, List.set_cons_succ, List.set_cons_zero]
          refine flow_val (v := ?_) rfl ?_ ?_; rotate_left; (intro W hW; go_simp; with_reducible rfl)
          simp only [Act.put, List.setIfInBounds_toArray, List.set_cons_succ, List.set_cons_zero]
          refine flow_val (v := ?_) rfl ?_ ?_; rotate_left; (intro W hW; go_simp; with_reducible rfl)
          simp only [Act.put, List.setIfInBounds_toArray, List.set_cons_succ, List.set_cons_zero]
          refine flow_val (v := ?_) rfl ?_ ?_; rotate_left; (intro W hW; go_simp; with_reducible rfl)
          simp only [Act.put, List.setIfInBounds_toArray, List.set_cons_succ, List.set_cons_zero]
          refine flow_val (v := ?_) rfl ?_ ?_; rotate_left; (intro W hW; go_simp; with_reducible rfl)
          simp only [Act.put, List.setIfInBounds_toArray, List.set_cons_succ, List.set_cons_zero]
          intro W hW
          have d6 := lift_cell a6 hW
          have d7 := lift_cell a7 hW
          have hxf : (x == most) = false := by rw [beq_eq_false_iff_ne]; exact hxm
          go_upto_region 9 with (fail)
          refine wp_region_flow 9 (Since W) (by kernel_rfl) (by kernel_rfl) (by simp) (since_drew (since_refl _)) ?_
          simp only [List.take_succ_cons, List.take_zero, List.drop_succ_cons, List.drop_zero]
          refine flow_val (v := ?_) rfl ?_ ?_; rotate_left; (intro W hW; go_simp; with_reducible rfl)
          simp only [Act.put, List.setIfInBounds_toArray, List.set_cons_succ, List.set_cons_zero]
          refine flow_val (v := ?_) rfl ?_ ?_; rotate_left; (intro W hW; go_simp; with_reducible rfl)
          simp only [Act.put, List.setIfInBounds_toArray, List.set_cons_succ, List.set_cons_zero]
          refine flow_val (v := ?_) rfl ?_ ?_; rotate_left; (intro W hW; go_simp; with_reducible rfl)
          simp only [Act.put, List.setIfInBounds_toArray, List.set_cons_succ, List.set_cons_zero]
          refine flow_val (v := ?_) rfl ?_ ?_; rotate_left; (intro W hW; go_simp; with_reducible rfl)
          simp only [Act.put, List.setIfInBounds_toArray, List.set_cons_succ, List.set_cons_zero]
          refine flow_val (v := ?_) rfl ?_ ?_; rotate_left; (intro W hW; go_simp; with_reducible rfl)
          simp only [Act.put, List.setIfInBounds_toArray, List.set_cons_succ, List.set_cons_zero]
          refine flow_val (v := ?_) rfl ?_ ?_; rotate_left; (intro W hW; go_simp; with_reducible rfl)
          simp only [Act.put, List.setIfInBounds_toArray, List.set_cons_succ, List.set_cons_zero]
          refine flow_val (v := ?_) rfl ?_ ?_; rotate_left; (intro W hW; go_simp; with_reducible rfl)
          simp only [Act.put, List.setIfInBounds_toArray, List.set_cons_succ, List.set_cons_zero]
          refine flow_val (v := ?_) rfl ?_ ?_; rotate_left; (intro W hW; go_simp; with_reducible rfl)
          simp only [Act.put, List.setIfInBounds_toArray, List.set_cons_succ, List.set_cons_zero]
          refine flow_val (v := ?_) rfl ?_ ?_; rotate_left; (intro W hW; go_simp; with_reducible rfl)
          simp only [Act.put, List.setIfInBounds_toArray, List.set_cons_succ, List.set_cons_zero]
          intro W2 hW2
          have hsW := hs.after (hW.after hW2)
          have HAW := Lib.hid (HAr.out.since (hW.after hW2))
          have HoW := Lib.hid (Ho.out.since (hW.after hW2))
          have Hx2 : Hid (ls.getD v 0 = x) := Hx.out.symm
          have Hxm := Lib.hid (show ¬ ls.getD v 0 = most by rw [Hx2.out]; exact hxm)
          clear a5 a6 a7 a8 b8 b7 f7 cx fx dx d6 d7 hW hW2 hs
          by_cases hml2 : made = lim
          · subst hml2
            have hRe : Hid (R = ([], 3, made)) := by rw [← HR'.out]; exact srch_stop Hlv.out Hxm.out
            go_wp2
            go_ret
            exact ⟨congrArg (fun r : List Int × Int × Int => Ending.returned (.int .i64 r.2.1)) hRe.out.symm, hsW, _, by rw [hRe.out]; exact HAW.out, fun e => by rw [hRe.out] at e; cases e⟩
          · have hmf : (made == lim) = false := by rw [beq_eq_false_iff_ne]; exact hml2
            have c7 := HAW.out.c7
            have f7 := HAW.out.fz 7
            have m1 : IntKind.i64.wrap (made + 1) = made + 1 := wr64 _ (by omega) (by omega)
            have m2 : IntKind.i64.wrap (x + 1) = x + 1 := wr64 _ (by omega) (by omega)
            have m3 : IntKind.i64.wrap ((v : Int) + 1) = (v : Int) + 1 := wr64 _ (by omega) (by omega)
            obtain ⟨w3, hw3⟩ : ∃ w3, w3 = W2.setCell ⟨B, 7, none⟩ (.int .i64 (made + 1)) := ⟨_, rfl⟩
            have HA3 : Hid (AS w3 B ve vi vn s m most lim (made + 1) (.slice (some ⟨g, 0, none⟩) n.ends.length c1)) := by rw [hw3]; exact HAW.out.setS _
            have Ho3 : Hid (Own w3 w0.heap.size (.slice (some ⟨g, 0, none⟩) n.ends.length c1) ls) := by rw [hw3]; exact own_other HoW.out (by simpa [Value.ownBlock] using hgB) _
            have Hs3 : Hid (Since w0 w3) := by rw [hw3]; exact Below.setCell hsW hB _
            have Hw3 := Lib.hid hw3
            clear hw3 hsW HAW HoW
            go_upto_region 12 with (fail)
            rw [← Hw3.out]
            clear c7 f7
            have c8 := HA3.out.c8
            have cx := Ho3.out.cell (getD_some Hlv.out)
            rw [Hx2.out] at cx
            have fx := Ho3.out.free v
            obtain ⟨w4, hw4⟩ : ∃ w4, w4 = w3.setCell ⟨g, v, none⟩ (.int .i64 (x + 1)) := ⟨_, rfl⟩
            have HA4 : Hid (AS w4 B ve vi vn s m most lim (made + 1) (.slice (some ⟨g, 0, none⟩) n.ends.length c1)) := by rw [hw4]; exact HA3.out.other (Ne.symm hgB) _ _
            have Ho4 : Hid (Own w4 w0.heap.size (.slice (some ⟨g, 0, none⟩) n.ends.length c1) (ls.set v (x + 1))) := by rw [hw4]; exact Ho3.out.set (k := v) (x + 1)
            have Hs4 : Hid (Since w0 w4) := by rw [hw4]; exact Below.setCell Hs3.out Hgw.out _
            have Hw4 := Lib.hid hw4
            have HU : Hid (Up n.ends.length most (ls.set v (x + 1)) v) := by
              have := Hst.out.up hlt Hxm.out
              rw [Hx2.out] at this
              exact this
            have HI4 := Lib.hid Ho4.out.ints
            clear hw4
            go_upto_region 13 with (fail)
            rw [← Hw4.out]
            clear c8 cx fx
            go_wp2_with fail
            refine (sGood_any ve vi vn _ n s m most lim (made + 1) (ls.set v (x + 1)) B v w4 (H.out.keep Hs4.out.below) HI4.out HA4.out Hn.out hlt hK HU.out).mono ?_
            rintro e w5 ⟨rfl, hb5⟩
            have HA5 := Lib.hid (HA4.out.since hb5)
            have Ho5 := Lib.hid (Ho4.out.keep hb5)
            have Hs5 := Lib.hid (Hs4.out.trans hb5)
            have Hnx := HR'.out
            rw [srch_inc Hlv.out Hxm.out hml2, Hx2.out] at Hnx
            have HNx := Lib.hid Hnx
            clear hb5 Hnx
            cases hgd : goodG n (accG n s m) (ls.set v (x + 1)) v
            · have Hgd := Lib.hid hgd
              clear hgd
              go_wp2
              go_roundw
              case rel =>
                refine ⟨f, ls.set v (x + 1), v, made + 1, Hs5.out, HA5.out, Ho5.out, by rw [List.length_set]; exact Hll.out, by omega, by omega, .inl ⟨rfl, by omega, HU.out.stay, ?_, ?_⟩⟩
                · have := left_inc (N := n.ends.length) (v := v) (v' := v) hml hml2 (by omega)
                  have := Hf.out
                  omega
                · have := HNx.out
                  rw [Hgd.out] at this
                  simpa using this
              case measure =>
                rw [HA5.out.c7, HAr.out.c7]
                simp only [intOf]
                have := left_inc (N := n.ends.length) (v := v) (v' := v) hml hml2 (by omega)
                unfold leftM at this
                omega
            · have Hgd := Lib.hid hgd
              clear hgd
              go_wp2
              go_roundw
              case rel =>
                refine ⟨f, ls.set v (x + 1), v + 1, made + 1, Hs5.out, HA5.out, Ho5.out, by rw [List.length_set]; exact Hll.out, by omega, by omega, .inl ⟨by go_num, by omega, HU.out.on hkm.1, ?_, ?_⟩⟩
                · have := left_inc (N := n.ends.length) (v := v) (v' := v + 1) hml hml2 (by omega)
                  have := Hf.out
                  omega
                · have := HNx.out
                  rw [Hgd.out] at this
                  simpa using this
              case measure =>
                rw [HA5.out.c7, HAr.out.c7]
                simp only [intOf]
                have := left_inc (N := n.ends.length) (v := v) (v' := v + 1) hml hml2 (by omega)
                unfold leftM at this
                omega
      · obtain rfl : v = n.ends.length := by omega
        have hRe : Hid (R = (ls, 1, made)) := by rw [← HR'.out]; exact srch_end (by rw [Hll.out]; omega)
        go_wp2
        go_ret
        exact ⟨congrArg (fun r : List Int × Int × Int => Ending.returned (.int .i64 r.2.1)) hRe.out.symm, hs, _, by rw [hRe.out]; exact HAr.out, fun _ => by rw [hRe.out]; exact Ho.out⟩
    · go_wp2
      go_ret
      exact ⟨congrArg (fun r : List Int × Int × Int => Ending.returned (.int .i64 r.2.1)) hR.symm, hs, _, by rw [hR]; exact HAr.out, fun e => by rw [hR] at e; cases e⟩
end Go.Proofs.YtbfoefkfcnaimaaGreat
