/- Parts of the proof: walks of functions and plain laws. -/
import Derived.Test.YtomnaabadohecaaP10
import Derived.Test.YtomnaabadohecaaP13
import Derived.Test.YtomnaabadohecaaP9
import Derived.Test.YtomnaabadohecaaP3
import Derived.Test.YtomnaabadohecaaP5
import Derived.Test.YtomnaabadohecaaP6
import Derived.Test.YtomnaabadohecaaP7
namespace Go.Proofs.Ytomnaabadohecaa
open Go.RowKit
/-! two colours: the program -/
theorem netOk_ids {n : Net} (h : netOk n = true) : n.ids.length ≤ 40 := by
  have hl := netOk_len h
  unfold netOk at h
  simp only [Bool.and_eq_true] at h
  have h2 := h.1.1.2
  unfold idsB at h2
  rw [Bool.or_eq_true] at h2
  rcases h2 with h2 | h2
  · have : n.ids = [] := List.isEmpty_iff.1 h2
    rw [this]; simp
  · rw [Bool.and_eq_true] at h2
    have : (n.ids.length : Int) = n.ends.length := by simpa using h2.1
    omega
def noClash (n : Net) (k : Nat) : Prop := ((edgesB n).take k).any (clashE n) = false
theorem noClash_zero (n : Net) : noClash n 0 := rfl
theorem noClash_end {n : Net} (h : noClash n (edgesB n).length) : bipB n = true := by
  unfold noClash at h
  rw [List.take_length] at h
  unfold bipB
  rw [h]; rfl
theorem clash_found {n : Net} {k : Nat} {x : Ed} (hx : (edgesB n)[k]? = some x) (h : clashE n x = true) : bipB n = false := by
  unfold bipB
  rw [List.any_eq_true.2 ⟨x, List.mem_of_getElem? hx, h⟩]; rfl
theorem edge_form {n : Net} (hn : netOk n = true) {k : Nat} {x : Ed} (hx : (edgesB n)[k]? = some x) : ∃ (v i y j : Nat), x = ((v : Int), (i : Int), (y : Int), (j : Int)) ∧ v < n.ends.length ∧ y < n.ends.length := by
  obtain ⟨v, i, f, hv, hp, _, rfl⟩ := mem_edges_port.1 (List.mem_of_getElem? hx)
  obtain ⟨p1, p2, p3, p4, p5⟩ := port_in hn hp
  exact ⟨v, i, f.1.toNat, f.2.toNat, by rw [show ((f.1.toNat : Nat) : Int) = f.1 by omega, show ((f.2.toNat : Nat) : Int) = f.2 by omega], hv, by omega⟩
set_option maxRecDepth 100000 in
set_option maxHeartbeats 8000000 in
theorem twoColouring_any (ve vi vn : Value) (n : Net) (w : World) (h : NetIn w ve vi vn n) (hn : netOk n = true) :
    Calls Try.prog 18 #[.agg #[ve, vi, vn]] w fun e w' => ∃ u, e = .returned (.tuple #[u, .bool (bipB n)]) ∧ Own w' w.heap.size u (if bipB n = true then twoB n else []) ∧ Below w.heap.size w w' := by
  have hnl := netOk_len hn
  have hnl1 := hnl.1
  have hnl2 := hnl.2
  have Hil : Hid (n.ids.length ≤ 17592186044416) := by show _ ≤ _; have := netOk_ids hn; omega
  have Hn := Lib.hid hn
  obtain ⟨w0, hw0⟩ : ∃ w0, w0 = (w).alloc (.cells #[ve, vi, vn] 31) := ⟨_, rfl⟩
  have hb0 : Below w.heap.size w w0 := by rw [hw0]; exact ((Below.refl _ _).alloc (by simp) _)
  have H := Lib.hid (h.keep hb0)
  obtain ⟨h1, h2, h3⟩ := h.keep hb0
  obtain ⟨A, c, rfl, hlc, hm, hA⟩ := h1
  obtain ⟨A2, c2, rfl, _, hm2, _⟩ := h2
  obtain ⟨A3, c3, rfl, _, hm3, _⟩ := h3
  unfold maxLen at hm hm2 hm3
  have p00 : ∀ W, Since w0 W → W.cell? ⟨w.heap.size, 0, none⟩ = some (.slice A n.ends.length c) := have_cell (by rw [hw0]; simp)
  have p01 : ∀ W, Since w0 W → W.cell? ⟨w.heap.size, 1, none⟩ = some (.slice A2 n.ids.length c2) := have_cell (by rw [hw0]; simp)
  have p02 : ∀ W, Since w0 W → W.cell? ⟨w.heap.size, 2, none⟩ = some (.slice A3 n.inputs.length c3) := have_cell (by rw [hw0]; simp)
  have Hb0 := Lib.hid hb0
  have Hw0 := Lib.hid hw0
  have HA := Lib.hid hA
  clear hA h
  clear hb0 hw0
  have hs0 : Since w0 w0 := since_refl _
  obtain ⟨rb, hrb⟩ : ∃ rb, bipB n = rb := ⟨_, rfl⟩
  have Hrb := Lib.hid hrb
  rw [hrb]
  clear hn hnl hrb
  go_enter Try.func18, Try.ntmps18
  go_upto_region 1 with (fail)
  rw [← Hw0.out]
  go_wp2_with fail
  refine (isNetwork_any _ _ _ n w0 H.out Hil.out).mono ?_
  rw [Hn.out]
  rintro e w1 ⟨rfl, hb1⟩
  have Hs1 : Hid (Since w0 w1) := hb1
  have hs1 := Hs1.out
  clear hb1 hs0
  go_wp2_with fail
  refine (components_any _ _ _ n w1 (H.out.keep Hs1.out.below) Hn.out).mono ?_
  rintro e w2 ⟨u2, rfl, ho2, hb2⟩
  have hcl : (compB n).length = n.ends.length := by simp [compB]
  obtain ⟨gc, cc, rfl⟩ : ∃ gc cc, u2 = .slice (some ⟨gc, 0, none⟩) n.ends.length cc := by
    rcases ho2.cases with ⟨-, e1⟩ | ⟨gc, cc, rfl, hg1, hg2⟩
    · have := congrArg List.length e1; rw [hcl, List.length_nil] at this; omega
    · exact ⟨gc, cc, by rw [hcl]⟩
  have Ho2 := Lib.hid ho2
  have Hs2 := Lib.hid (Hs1.out.after hb2)
  clear ho2 hb2 hcl hs1
  go_wp2
  go_loopw [4, 15] (fun u i wr => ∃ k : Nat, k ≤ n.ends.length ∧ i = .int .i64 k ∧ Own wr w2.heap.size u ((List.range k).map (twoAt n)) ∧ Since w2 wr) (fun _ i _ => n.ends.length - (intOf i).toNat)
  case atStart => exact ⟨0, Nat.zero_le _, rfl, by simpa using own_nil _ w2.heap.size, since_refl _⟩
  case round =>
    obtain ⟨k, hk, rfl, ho, hsr⟩ := hrel
    have Ho := Lib.hid ho
    have Hs := Lib.hid hsr
    clear ho hsr
    by_cases hlt : k < n.ends.length
    · have m3 : IntKind.i64.wrap ((k : Int) + 1) = (k : Int) + 1 := wr64 _ (by omega) (by omega)
      obtain ⟨p, hp⟩ : ∃ p, p = leastB n k := ⟨_, rfl⟩
      have hpl : p < n.ends.length := by rw [hp]; exact least_lt Hn.out hlt
      have c1 := (Ho2.out.since Hs.out).cell (show (compB n)[k]? = some (p : Int) by rw [hp]; unfold compB; rw [List.getElem?_map, List.getElem?_range hlt]; rfl)
      have Hs02 := Lib.hid (Hs2.out.after Hs.out)
      have hs02 := Hs02.out
      have Hp := Lib.hid hp
      have Hlen : Hid (((List.range k).map (twoAt n)).length + 1 ≤ 17592186044416) := by show _ ≤ _; simp; omega
      have Hn1 := Lib.hid (twoB_snoc n k)
      clear hp
      go_wp2_with fail
      refine (distancesFrom_any _ _ _ n p wr (H.out.keep Hs02.out.below) Hn.out hpl).mono ?_
      obtain ⟨ds, hds⟩ : ∃ ds, ds = distB n p := ⟨_, rfl⟩
      rw [← hds]
      rintro e w3 ⟨u3, rfl, ho3, hb3⟩
      have hdl : ds.length = n.ends.length := by rw [hds]; exact bfs_len Hn.out _ _ _ (BI.start hpl)
      obtain ⟨d, hd⟩ := getx ds k (by omega)
      obtain ⟨gd, cd, rfl⟩ : ∃ gd cd, u3 = .slice (some ⟨gd, 0, none⟩) n.ends.length cd := by
        rcases ho3.cases with ⟨-, e1⟩ | ⟨gd, cd, rfl, hg1, hg2⟩
        · have := congrArg List.length e1; rw [List.length_nil] at this; omega
        · exact ⟨gd, cd, by rw [hdl]⟩
      have cd1 := ho3.cell hd
      obtain ⟨y, hy⟩ : ∃ y, y = twoAt n k := ⟨_, rfl⟩
      have hmod : Int.tmod d 2 = y := by rw [hy]; exact two_mod Hn.out hlt (by rw [← Hp.out, ← hds]; exact hd)
      have hd0 : 0 ≤ d := by have := (dist_own Hn.out hlt).1; rw [← Hp.out, ← hds, getD_of hd] at this; exact this
      have hmod2 : d % 2 = y := by rw [← hmod]; exact (Int.tmod_eq_emod_of_nonneg hd0).symm
      have Hs3 := Lib.hid (Hs.out.after hb3)
      have Ho3 := Lib.hid (Ho.out.since hb3)
      rw [← hy] at Hn1
      clear ho3 hb3 hd hy hds hdl c1 hd0 hs02
      go_wp2_with (at_builtin; refine app_int_s rfl _ _ rfl rfl (Ho3.out.since (since_alloc _ (since_refl _))) w3.heap.size y rfl (by simp [go_sem]) Hlen.out (since_alloc _ Hs3.out) ?_; intro g cx w4 ho4 hs4)
      have Ho4 := Lib.hid ho4
      have Hs4 := Lib.hid hs4
      clear ho4 hs4
      go_wp2
      go_roundw
      case rel => exact ⟨k + 1, by omega, by first | rfl | go_num, by rw [Hn1.out]; have := Ho4.out; simpa using this, Hs4.out⟩
      case measure => simp [intOf]; omega
    · obtain rfl : k = n.ends.length := by omega
      have Hs3 := Lib.hid (Hs2.out.after Hs.out)
      have hs3 := Hs3.out
      obtain ⟨A9, c9, rfl⟩ : ∃ gd cd, u4 = .slice (some ⟨gd, 0, none⟩) n.ends.length cd := by
        rcases Ho.out.cases with ⟨-, e1⟩ | ⟨gd, cd, rfl, hg1, hg2⟩
        · have := congrArg List.length e1; rw [List.length_map, List.length_range, List.length_nil] at this; omega
        · exact ⟨gd, cd, by simp⟩
      have HT : Hid (Own wr w2.heap.size (.slice (some ⟨A9, 0, none⟩) n.ends.length c9) (twoB n)) := Ho.out
      have Hlt := Lib.hid hlt
      clear hk hlt Ho
      go_wp2_with fail
      refine (edges_any _ _ _ n wr (H.out.keep Hs3.out.below) Hn.out).mono ?_
      rintro e w5 ⟨u5, rfl, ho5, hb5⟩
      obtain ⟨A5, c5, rfl, hc5, hl5, hA5⟩ := ho5.read
      unfold maxLen at hc5
      have HA5 := Lib.hid hA5
      have Hs5 : Hid (Since wr w5) := hb5
      have hel := edgesTo_len Hn.out n.ends.length
      have Hel : Hid ((edgesB n).length ≤ 1000000) := by show _ ≤ _; show (edgesTo n n.ends.length).length ≤ _; omega
      have hel2 := Hel.out
      clear ho5 hb5 hA5 hs3 hel
      go_wp2
      go_loopw [34] (fun i wq => ∃ j : Nat, j ≤ (edgesB n).length ∧ i = .int .i64 j ∧ noClash n j ∧ Since w5 wq) (fun i _ => (edgesB n).length - (intOf i).toNat)
      case atStart => exact ⟨0, Nat.zero_le _, rfl, noClash_zero n, since_refl _⟩
      case round =>
        obtain ⟨j, hj, rfl, hnc, hsq⟩ := hrel
        have Hnc := Lib.hid hnc
        have Hsq := Lib.hid hsq
        clear hnc hsq
        by_cases hlj : j < (edgesB n).length
        · obtain ⟨x, hx⟩ := getx (edgesB n) j hlj
          obtain ⟨v, i, y, z, rfl, hv, hy⟩ := edge_form Hn.out hx
          obtain ⟨b, rfl, q0, q1, q2, q3⟩ := HA5.out j _ hx
          have r0 := have_cell q0 wr Hsq.out
          have r1 := have_cell q1 wr Hsq.out
          have r2 := have_cell q2 wr Hsq.out
          have r3 := have_cell q3 wr Hsq.out
          have HTq := Lib.hid (HT.out.since (Hs5.out.after Hsq.out))
          have t1 := have_cell (HTq.out.cell (twoB_get hv))
          have t2 := have_cell (HTq.out.cell (twoB_get hy))
          have m2 : IntKind.i64.wrap ((j : Int) + 1) = (j : Int) + 1 := wr64 _ (by omega) (by omega)
          obtain ⟨w8, hw8⟩ : ∃ w8, w8 = wr.alloc (.cells #[.int .i64 v, .int .i64 i, .int .i64 y, .int .i64 z] 67) := ⟨_, rfl⟩
          obtain ⟨be, hbe⟩ : ∃ be, be = wr.heap.size := ⟨_, rfl⟩
          have d0 : ∀ W, Since w8 W → W.cell? ⟨be, 0, none⟩ = some (.int .i64 v) := have_cell (by rw [hw8, hbe]; simp)
          have d2 : ∀ W, Since w8 W → W.cell? ⟨be, 2, none⟩ = some (.int .i64 y) := have_cell (by rw [hw8, hbe]; simp)
          have hs8 : Since wr w8 := by rw [hw8]; exact since_alloc _ (since_refl _)
          have t1 := lift_cell t1 hs8
          have t2 := lift_cell t2 hs8
          have Hs8 := Lib.hid hs8
          have Hw8 := Lib.hid hw8
          have Hbe := Lib.hid hbe
          have Hx := Lib.hid hx
          obtain ⟨a1, ha1⟩ : ∃ a, twoAt n v = a := ⟨_, rfl⟩
          obtain ⟨a2, ha2⟩ : ∃ a, twoAt n y = a := ⟨_, rfl⟩
          have Hcl : Hid (clashE n ((v : Int), (i : Int), (y : Int), (z : Int)) = (a1 == a2)) := by
            show _ = _
            unfold clashE
            simp only [Int.toNat_natCast]
            rw [two_getD hv, two_getD hy, ha1, ha2]
          rw [ha1] at t1
          rw [ha2] at t2
          clear hx q0 q1 q2 q3 hw8 hbe hs8 ha1 ha2
          go_upto_region 12 with (fail)
          rw [← Hw8.out, ← Hbe.out]
          clear r0 r1 r2 r3
          refine wp_region_flow 11 (Since w8) (by kernel_rfl) (by kernel_rfl) (by simp) (since_drew (since_refl _)) ?_
          simp only [List.take_succ_cons, List.take_zero, List.drop_succ_cons, List.drop_zero]
          refine flow_val (v := ?_) rfl ?_ ?_; rotate_left; (intro W hW; go_simp; with_reducible rfl)
          simp only [Act.put, List.setIfInBounds_toArray, List.set_cons_succ, List.set_cons_zero]
          refine flow_val (v := ?_) rfl ?_ ?_; rotate_left; (intro W hW; go_simp; with_reducible rfl)
          simp only [Act.put, List.setIfInBounds_toArray, List.set_cons_succ, List.set_cons_zero]
          refine flow_val (v := ?_) rfl ?_ ?_; rotate_left; (intro W hW; go_simp; with_reducible rfl)
          simp only [Act.put, List.setIfInBounds_toArray, List.set_cons_succ, List.set_cons_zero]
          refine flow_val (v := ?_) rfl ?_ ?_; rotate_left; (intro W hW; go_simp; with_reducible rfl)
          simp only [Act.put, List.setIfInBounds_toArray, List.set_cons_succ, List.set_cons_zero]
          refine flow_val (v := ?_) rfl ?_ ?_; rotate_left; (intro W hW; go_simp; with_reducible rfl)
          simp only [Act.put, List.setIfInBounds_toArray, List.set_cons_succ, List.set_cons_zero]
          refine flow_val (v := ?_) rfl ?_ ?_; rotate_left; (intro W hW; go_simp; with_reducible rfl)
          simp only [Act.put, List.setIfInBounds_toArray, List.set_cons_succ, List.set_cons_zero]
          refine flow_val (v := ?_) rfl ?_ ?_; rotate_left; (intro W hW; go_simp; with_reducible rfl)
          simp only [Act.put, List.setIfInBounds_toArray, List.set_cons_succ, List.set_cons_zero]
          refine flow_val (v := ?_) rfl ?_ ?_; rotate_left; (intro W hW; go_simp; with_reducible rfl)
          simp only [Act.put, List.setIfInBounds_toArray, List.set_cons_succ, List.set_cons_zero]
          refine flow_val (v := ?_) rfl ?_ ?_; rotate_left; (intro W hW; go_simp; with_reducible rfl)
          simp only [Act.put, List.setIfInBounds_toArray, List.set_cons_succ, List.set_cons_zero]
          refine flow_val (v := ?_) rfl ?_ ?_; rotate_left; (intro W hW; go_simp; with_reducible rfl)
          simp only [Act.put, List.setIfInBounds_toArray, List.set_cons_succ, List.set_cons_zero]
          refine flow_val (v := ?_) rfl ?_ ?_; rotate_left; (intro W hW; go_simp; with_reducible rfl)
          simp only [Act.put, List.setIfInBounds_toArray, List.set_cons_succ, List.set_cons_zero]
          intro W hW
          have HW := Lib.hid (Hsq.out.after (Hs8.out.after hW))
          clear hW d0 d2 t1 t2
          cases hg : (a1 == a2)
          · have Hno : Hid (noClash n (j + 1)) := by
              show _ = _
              rw [take_snoc Hx.out, List.any_append, show ((edgesB n).take j).any (clashE n) = false from Hnc.out]
              simp only [List.any_cons, List.any_nil, Hcl.out, hg, Bool.or_false]
            go_wp2
            go_roundw
            case rel => exact ⟨j + 1, by omega, by first | rfl | go_num, Hno.out, HW.out⟩
            case measure => simp [intOf]; omega
          · have hbf := clash_found Hx.out (by rw [Hcl.out]; exact hg)
            rw [Hrb.out] at hbf
            subst hbf
            go_wp2
            go_ret2
            exact ⟨.slice none 0 0, rfl, by simpa using own_nil _ _, Since.after Hb0.out (Hs3.out.after (Hs5.out.after HW.out))⟩
        · obtain rfl : j = (edgesB n).length := by omega
          have hbt := noClash_end Hnc.out
          rw [Hrb.out] at hbt
          subst hbt
          go_wp2
          go_ret2
          refine ⟨.slice (some ⟨A9, 0, none⟩) n.ends.length c9, rfl, ?_, Since.after Hb0.out (Hs3.out.after (Hs5.out.after Hsq.out))⟩
          exact (HT.out.since (Hs5.out.after Hsq.out)).mono (Nat.le_trans Hb0.out.size Hs2.out.below.size)
end Go.Proofs.Ytomnaabadohecaa
namespace Go.Proofs.Ytomnaabadohecaa
open Go.RowKit
theorem tflow_skipw {P : Program} {ops : Array Oper} {S : World → Prop} {fin : Act → World → Prop} {o : Oper} {rest : List Oper} {A : Act} {W W' : World} (hw : Region.wanted o (yielded ops A.tmps) = true) (h : (execOp A.eval o).run P W = .ok .skip W') (hS : S W')
    (hr : TFlow P ops S fin rest (A.put o.dst undef) W') : TFlow P ops S fin (o :: rest) A W := .inl ⟨hw, by rw [h]; exact ⟨hS, hr⟩⟩
end Go.Proofs.Ytomnaabadohecaa
namespace Go.Proofs.Ytomnaabadohecaa
open Go Go.RowKit
/-! as wp_region_chain0, for any worlds S that the reads bear -/
section
variable {P : Program} {ops : Array Oper}
/-- reads, in the order of the text -/
def PFlowS (P : Program) (ops : Array Oper) (S : World → Prop) (fin : Act → Prop) : List Oper → Act → Prop
  | [], A => fin A
  | o :: rest, A => ∃ v, (Region.wanted o (yielded ops A.tmps) = true ∧ ∀ W, S W → (execOp A.eval o).run P W = .ok (.value v) W) ∧ PFlowS P ops S fin rest (A.put o.dst v)
theorem pflowS_val {S : World → Prop} {fin : Act → Prop} {o : Oper} {rest : List Oper} {A : Act} {v : Value} (hw : Region.wanted o (yielded ops A.tmps) = true) (h : ∀ W, S W → (execOp A.eval o).run P W = .ok (.value v) W)
    (hr : PFlowS P ops S fin rest (A.put o.dst v)) : PFlowS P ops S fin (o :: rest) A := ⟨v, ⟨hw, h⟩, hr⟩
theorem pflowS_frames {S : World → Prop} {fin : Act → Prop} (l : List Oper) : ∀ (A : Act), PFlowS P ops S fin l A →
    ∃ (vals : Nat → Value) (F : Nat → Act), F 0 = A ∧ fin (F l.length) ∧ ∀ i o, l[i]? = some o → (Region.wanted o (yielded ops (F i).tmps) = true ∧ ∀ W, S W → (execOp (F i).eval o).run P W = .ok (.value (vals i)) W) ∧ F (i + 1) = (F i).put o.dst (vals i) := by
  induction l with
  | nil => intro A h; exact ⟨fun _ => undef, fun _ => A, rfl, h, fun i o h => by simp at h⟩
  | cons o l ih =>
    intro A h
    obtain ⟨v, hs, hf⟩ := h
    obtain ⟨vals, F, h0, hfin, hstep⟩ := ih _ hf
    refine ⟨fun i => match i with | 0 => v | i + 1 => vals i, fun i => match i with | 0 => A | i + 1 => F i, rfl, hfin, ?_⟩
    intro i o' hi
    cases i with
    | zero => simp at hi; subst hi; exact ⟨hs, h0⟩
    | succ i => exact hstep i o' (by simpa using hi)
theorem wp_region_chainS {Q : Exit → Act → World → Prop} {rid : Nat} {a : Act} {w : World} (S : World → Prop) (k : Nat) (mask : List Bool) (hm : P.follows .mixedOrders = true) (hc : chainB ops k mask = true) (hs0 : S w.drew)
    (h : PFlowS P ops S (fun A => TFlow P ops S (fun A W => wpList P ops Q (ops.toList.drop k) A W) (selT mask (ops.toList.take k)) A w.drew) (selF mask (ops.toList.take k)) a) : (Code.region rid ops true).wp P Q a w := by
  unfold chainB at hc
  simp only [Bool.and_eq_true, decide_eq_true_eq] at hc
  obtain ⟨⟨⟨hf, hml⟩, hkn⟩, hch⟩ := hc
  have hok := flow_ok hf
  have hlt : mask.length = (ops.toList.take k).length := by simp; omega
  have hmk : ∀ i, i < k → ∃ b, mask[i]? = some b := fun i hi => ⟨_, List.getElem?_eq_getElem (by omega)⟩
  have hget : ∀ i o, i < k → ops[i]? = some o → (ops.toList.take k)[i]? = some o := fun i o hi ho => by
    rw [List.getElem?_take, if_pos hi]; simpa using ho
  have hmd : ∀ i b, mask[i]? = some b → mask.getD i true = b := fun i b hb => by rw [List.getD_eq_getElem?_getD, hb]; rfl
  have hml' : ∀ i b, mask[i]? = some b → i < k := fun i b hb => by have := (List.getElem?_eq_some_iff.1 hb).1; omega
  have chT : ∀ i j, mask[i]? = some true → mask[j]? = some true → j < i → Anc ops j i := fun i j hi hj hji => by
    have hik := hml' i _ hi
    have ho : ops[i]? = some ops[i] := Array.getElem?_eq_getElem (by omega)
    have := List.all_eq_true.1 hch i (List.mem_range.2 hik)
    simp only [ho] at this
    rw [if_pos (hmd i _ hi)] at this
    have := List.all_eq_true.1 this j (List.mem_range.2 hji)
    rw [hmd j _ hj, Bool.not_true, Bool.false_or] at this
    exact closTbl_sound (i + 1) i j (by simpa using this)
  have chF : ∀ i o j, mask[i]? = some false → ops[i]? = some o → j ∈ depsOf o → mask[j]? = some false := fun i o j hi ho hj => by
    have hik := hml' i _ hi
    have hji := hok.back i o ho j hj
    have := List.all_eq_true.1 hch i (List.mem_range.2 hik)
    simp only [ho] at this
    rw [if_neg (by rw [hmd i _ hi]; simp)] at this
    have := List.all_eq_true.1 this j hj
    obtain ⟨b, hb⟩ := hmk j (by omega)
    rw [hmd j _ hb] at this
    cases b <;> simp_all
  obtain ⟨vals, F, h0, hfin, hst⟩ := pflowS_frames _ a h
  -- the frames of the reads
  have hpure : ∀ r, r ≤ mask.count false → FrameIs a ops (fun j => vals (rk false mask j)) (fun j => mask[j]? = some false ∧ rk false mask j < r) (F r) := by
    intro r
    induction r with
    | zero => intro _; rw [h0]; exact ⟨rfl, rfl, fun j _ _ hj => by have := hj.2; omega, fun _ _ => rfl⟩
    | succ r ih =>
      intro hr
      obtain ⟨i, hi1, hi2⟩ := rk_has (b := false) mask r (by omega)
      have hik := hml' i _ hi1
      have ho : ops[i]? = some ops[i] := Array.getElem?_eq_getElem (by omega)
      have hsel := selF_rk mask _ i hlt hi1
      rw [hget i _ hik ho, hi2] at hsel
      rw [(hst r _ hsel).2]
      have := ((ih (by omega)).put ho (fun j oj d hj hoj hd hd2 => by
        have := hok.dsts i _ hik ho j oj (hml' j _ hj.1) hoj d hd hd2
        subst this
        have := hj.2
        omega)).same (E := fun j => mask[j]? = some false ∧ rk false mask j < r + 1) (fun j => by
          constructor
          · rintro (⟨a1, a2⟩ | rfl)
            · exact ⟨a1, by omega⟩
            · exact ⟨hi1, by omega⟩
          · rintro ⟨a1, a2⟩
            by_cases e : rk false mask j = r
            · exact .inr (rk_inj a1 hi1 (by omega))
            · exact .inl ⟨a1, by omega⟩)
      rw [show vals r = vals (rk false mask i) by rw [hi2]]
      exact this
  have hnF : (selF mask (ops.toList.take k)).length = mask.count false := selF_len _ _ hlt
  rw [hnF] at hfin
  let SP : Nat → Prop := fun j => mask[j]? = some false
  let J : (Nat → Prop) → Act → World → Prop := fun D a' W =>
    (S W ∧ (∀ j, D j → j < k) ∧ ∃ (V : Nat → Value) (q : Nat) (A : Act), (∀ j, mask[j]? = some false → V j = vals (rk false mask j)) ∧ (∀ j, mask[j]? = some true → (D j ↔ rk true mask j < q)) ∧
      FrameIs a ops V D a' ∧ FrameIs a ops V (fun j => mask[j]? = some false ∨ (mask[j]? = some true ∧ rk true mask j < q)) A ∧
      TFlow P ops S (fun A W => wpList P ops Q (ops.toList.drop k) A W) ((selT mask (ops.toList.take k)).drop q) A W) ∨
    (∃ m, k ≤ m ∧ m ≤ ops.size ∧ (∀ j, j < ops.size → (D j ↔ j < m)) ∧ wpList P ops Q (ops.toList.drop m) a' W)
  have htl : (selT mask (ops.toList.take k)).length = mask.count true := selT_len _ _ hlt
  -- the first k are done
  have full : ∀ D a' W, J D a' W → (∀ j, j < k → D j) → ∃ m, k ≤ m ∧ m ≤ ops.size ∧ (∀ j, j < ops.size → (D j ↔ j < m)) ∧ wpList P ops Q (ops.toList.drop m) a' W := by
    intro D a' W hJ hD
    rcases hJ with ⟨hW, hDk, V, q, A, hV, hT, hfr, hfA, htf⟩ | hJ
    · have hq : mask.count true ≤ q := by
        by_cases e : mask.count true ≤ q
        · exact e
        · obtain ⟨i, hi1, hi2⟩ := rk_has (b := true) mask q (by omega)
          have := (hT i hi1).1 (hD i (hml' i _ hi1))
          omega
      have enil : (selT mask (ops.toList.take k)).drop q = [] := List.drop_eq_nil_of_le (by omega)
      rw [enil] at htf
      have : a' = A := hfr.ext hfA (fun j hj => by
        constructor
        · intro hj'
          obtain ⟨b, hb⟩ := hmk j (hDk j hj')
          cases b
          · exact .inl hb
          · exact .inr ⟨hb, (hT j hb).1 hj'⟩
        · rintro (hb | ⟨hb, _⟩) <;> exact hD j (hml' j _ hb))
      subst this
      exact ⟨k, Nat.le_refl _, hkn, fun j _ => ⟨fun h => hDk j h, fun h => hD j h⟩, htf⟩
    · exact hJ
  refine wp_region_inv2 hm hok.back J (.inl ⟨hs0, fun j hj => hj.elim, fun j => vals (rk false mask j), 0, F (mask.count false), fun j _ => rfl, fun j _ => ⟨fun h => h.elim, fun h => by omega⟩, ⟨rfl, rfl, fun j _ _ hj => hj.elim, fun _ _ => rfl⟩, ?_, ?_⟩) ?_ ?_
  · exact (hpure _ (Nat.le_refl _)).same (fun j => by
      constructor
      · rintro ⟨a1, -⟩; exact .inl a1
      · rintro (a1 | ⟨-, a2⟩)
        · exact ⟨a1, rk_lt_count a1⟩
        · omega)
  · rw [List.drop_zero]; exact hfin
  · intro D a' W i o hJ ho hDi hdep hcl
    have hin : i < ops.size := (Array.getElem?_eq_some_iff.1 ho).1
    by_cases hik : i < k
    · -- one of the first k
      rcases hJ with ⟨hW, hDk, V, q, A, hV, hT, hfr, hfA, htf⟩ | ⟨m, h1, h2, h3, -⟩
      rotate_left
      · exact absurd ((h3 i hin).2 (by omega)) hDi
      have look : ∀ t ∈ o.looksAt ops, ∀ j oj, j < k → ops[j]? = some oj → oj.dst = some t → D j ∧ j ∈ depsOf o := fun t ht j oj hjk hoj hd => by
        have := hok.looks i o hik ho t ht j oj hjk hoj hd
        exact ⟨hdep j this, this⟩
      have dist : ∀ j oj d, D j → ops[j]? = some oj → o.dst = some d → oj.dst ≠ some d := fun j oj d hj hoj hd hd2 => by
        have := hok.dsts i o hik ho j oj (hDk j hj) hoj d hd hd2
        subst this
        exact hDi hj
      obtain ⟨b, hb⟩ := hmk i hik
      cases b with
      | false =>
        have hsel := selF_rk mask _ i hlt hb
        rw [hget i _ hik ho] at hsel
        obtain ⟨⟨hw, hrun⟩, -⟩ := hst _ _ hsel
        have hr := rk_lt_count hb
        obtain ⟨he, hw'⟩ := agree_exec (ops := ops) (a' := a') (A := F (rk false mask i)) (fun t ht => (hfr.vals2 (v' := V) (fun _ _ _ => rfl)).agree ((hpure _ (Nat.le_of_lt hr)).vals (v' := V) (fun j hj => (hV j hj.1).symm)) t (fun j oj hj hoj hd => by
          have hjk : j < k := hj.elim (fun h => hDk j h) (fun h => hml' j _ h.1)
          obtain ⟨d1, d2⟩ := look t ht j oj hjk hoj hd
          have hjf := chF i o j hb ho d2
          exact ⟨d1, hjf, rk_lt (hok.back i o ho j d2) hjf⟩)) (fun cs b => hok.nosel i o cs b ho)
        rw [if_pos (hw'.trans hw)]
        refine .inl ?_
        unfold Oper.wp
        rw [he, hrun W hW]
        refine .inl ⟨hW, fun j hj => hj.elim (fun h => hDk j h) (fun h => by omega), V, q, A, hV, fun j hj => ?_, ?_, hfA, htf⟩
        · rw [← hT j hj]
          constructor
          · rintro (h | rfl)
            · exact h
            · rw [hb] at hj; cases hj
          · exact .inl
        · have := hfr.put (i := i) ho dist
          rwa [hV i hb] at this
      | true =>
        have hq : rk true mask i = q := by
          have h1 : ¬ rk true mask i < q := fun h => hDi ((hT i hb).2 h)
          by_cases e : rk true mask i = q
          · exact e
          · obtain ⟨j, hj1, hj2⟩ := rk_has (b := true) mask q (by have := rk_lt_count hb; omega)
            have hji : j < i := by
              rcases Nat.lt_trichotomy j i with h | h | h
              · exact h
              · subst h; omega
              · have := rk_lt h hb; omega
            have := anc_ready hcl ho hdep (chT i j hb hj1 hji)
            have := (hT j hj1).1 this
            omega
        have hsel := selT_rk mask _ i hlt hb
        rw [hget i _ hik ho, hq] at hsel
        have hqn : q < (selT mask (ops.toList.take k)).length := (List.getElem?_eq_some_iff.1 hsel).1
        rw [List.drop_eq_getElem_cons hqn, (List.getElem?_eq_some_iff.1 hsel).2] at htf
        obtain ⟨he, hw'⟩ := agree_exec (ops := ops) (a' := a') (A := A) (fun t ht => hfr.agree hfA t (fun j oj hj hoj hd => by
          have hjk : j < k := hj.elim (fun h => hDk j h) (fun h => h.elim (hml' j _) (fun h => hml' j _ h.1))
          obtain ⟨d1, d2⟩ := look t ht j oj hjk hoj hd
          refine ⟨d1, ?_⟩
          obtain ⟨b, hb'⟩ := hmk j hjk
          cases b
          · exact .inl hb'
          · exact .inr ⟨hb', (hT j hb').1 d1⟩)) (fun cs b => hok.nosel i o cs b ho)
        have next : ∀ u W', S W' → TFlow P ops S (fun A W => wpList P ops Q (ops.toList.drop k) A W) ((selT mask (ops.toList.take k)).drop (q + 1)) (A.put o.dst u) W' → J (fun j => D j ∨ j = i) (a'.put o.dst u) W' := by
          intro u W' hS ht
          let V' : Nat → Value := fun j => if j = i then u else V j
          have e1 : ∀ j, j ≠ i → V' j = V j := fun j hj => if_neg hj
          have e2 : V' i = u := if_pos rfl
          refine .inl ⟨hS, fun j hj => hj.elim (fun h => hDk j h) (fun h => by omega), V', q + 1, A.put o.dst u, fun j hj => ?_, fun j hj => ?_, ?_, ?_, ht⟩
          · rw [e1 j (fun e => by subst e; rw [hb] at hj; cases hj)]; exact hV j hj
          · constructor
            · rintro (h | rfl)
              · have := (hT j hj).1 h; omega
              · omega
            · intro h
              by_cases e : rk true mask j = q
              · exact .inr (rk_inj hj hb (by omega))
              · exact .inl ((hT j hj).2 (by omega))
          · have := (hfr.vals2 (v' := V') (fun j _ hj => (e1 j (fun e => by subst e; exact hDi hj)).symm)).put (i := i) ho dist
            rwa [e2] at this
          · have := ((hfA.vals2 (v' := V') (fun j _ hj => (e1 j (fun e => by
              subst e
              rcases hj with hj | ⟨-, hj⟩
              · rw [hb] at hj; cases hj
              · omega)).symm)).put (i := i) ho (fun j oj d hj hoj hd hd2 => by
                have hjk : j < k := hj.elim (hml' j _) (fun h => hml' j _ h.1)
                have := hok.dsts i o hik ho j oj hjk hoj d hd hd2
                subst this
                rcases hj with hj | ⟨-, hj⟩
                · rw [hb] at hj; cases hj
                · omega)).same (E := fun j => mask[j]? = some false ∨ (mask[j]? = some true ∧ rk true mask j < q + 1)) (fun j => by
                constructor
                · rintro ((h | ⟨h, h'⟩) | rfl)
                  · exact .inl h
                  · exact .inr ⟨h, by omega⟩
                  · exact .inr ⟨hb, by omega⟩
                · rintro (h | ⟨h, h'⟩)
                  · exact .inl (.inl h)
                  · by_cases e : rk true mask j = q
                    · exact .inr (rk_inj h hb (by omega))
                    · exact .inl (.inr ⟨h, by omega⟩))
            rwa [e2] at this
        rcases htf with ⟨hw, hrun⟩ | ⟨hw, hrun⟩
        · rw [if_pos (hw'.trans hw)]
          refine .inl ?_
          unfold Oper.wp
          rw [he]
          generalize (execOp A.eval o).run P W = r at hrun ⊢
          cases r with
          | ok nx W' =>
            cases nx with
            | value u => exact next u W' hrun.1 hrun.2
            | skip => exact next undef W' hrun.1 hrun.2
            | row row args => exact Rows.mono hrun fun u W'' h => next u W'' h.1 h.2
            | enter f args =>
              simp only [Oper.upon]
              exact Calls.mono hrun fun e W'' ⟨u, he', h3, h4⟩ => by subst he'; exact next u W'' h3 h4
            | _ => exact hrun.elim
          | halt x W' => exact hrun.elim
        · rw [if_neg (by rw [hw'.trans hw]; simp)]
          exact next _ _ hW hrun
    · -- the tail
      have hall : ∀ j, j < i → D j := fun j hj => anc_ready hcl ho hdep (hok.tail i (by omega) hin j hj)
      obtain ⟨m, h1, h2, h3, h4⟩ := full D a' W hJ (fun j hj => hall j (by omega))
      have hmi : m = i := by
        by_cases e1 : i < m
        · exact absurd ((h3 i hin).2 e1) hDi
        · by_cases e2 : m < i
          · have := (h3 m (by omega)).1 (hall m e2); omega
          · omega
      subst hmi
      have hdr : ops.toList.drop m = o :: ops.toList.drop (m + 1) := by
        have : m < ops.toList.length := by simpa using hin
        rw [List.drop_eq_getElem_cons this]
        congr 1
        have := (Array.getElem?_eq_some_iff.1 ho).2
        simpa using this
      rw [hdr] at h4
      unfold wpList at h4
      have next : ∀ a W, wpList P ops Q (ops.toList.drop (m + 1)) a W → J (fun j => D j ∨ j = m) a W := fun a W h => .inr ⟨m + 1, by omega, by omega, fun j hj => by
        constructor
        · rintro (h | rfl)
          · have := (h3 j hj).1 h; omega
          · omega
        · intro h
          by_cases e : j = m
          · exact .inr e
          · exact .inl ((h3 j hj).2 (by omega)), h⟩
      split
      · rename_i hw
        rw [if_pos hw] at h4
        exact h4.imp (Oper.wp_mono next) id
      · rename_i hw
        rw [if_neg hw] at h4
        exact next _ _ h4
  · intro D a' W hJ hall
    obtain ⟨m, h1, h2, h3, h4⟩ := full D a' W hJ (fun j hj => hall j (by omega))
    have hmn : m = ops.size := by
      by_cases e : m < ops.size
      · have := (h3 m e).1 (hall m e); omega
      · omega
    subst hmn
    rw [List.drop_eq_nil_of_le (by simp)] at h4
    exact h4

theorem tflow_allocS {S : World → Prop} {fin : Act → World → Prop} {o : Oper} {rest : List Oper} {A : Act} {W : World} {ob : Obj} {v : Value} (hw : Region.wanted o (yielded ops A.tmps) = true) (h : (execOp A.eval o).run P W = .ok (.value v) (W.alloc ob)) (hS : S (W.alloc ob))
    (hr : ∀ W', W' = W.alloc ob → S W' → TFlow P ops S fin rest (A.put o.dst v) W') : TFlow P ops S fin (o :: rest) A W :=
  tflow_new hw h hS (hr _ rfl hS)
end
end Go.Proofs.Ytomnaabadohecaa
