/- Parts of the proof: walks of functions and plain laws. -/
import Derived.Test.YtomnaabadohecaaGreatP6
import Derived.Test.YtomnaabadohecaaGreatP4
import Derived.Test.YtomnaabadohecaaGreatP7
import Derived.Test.YtomnaabadohecaaGreatP8
import Derived.Test.YtomnaabadohecaaGreatP9
import Derived.Test.YtomnaabadohecaaGreatP16
namespace Go.Proofs.YtomnaabadohecaaGreat
open Go.RowKit
set_option maxRecDepth 100000 in
set_option maxHeartbeats 16000000 in
theorem fnExactStartAsync_walk (w : World) (vm0 vm1 vm2 vm3 : Value) (m : Mac) (hm0 : MacIn w vm0 vm1 vm2 vm3 m) (_ : Mac64 m) (vn0 vn1 vn2 : Value) (n : Net) (hn0 : NetIn w vn0 vn1 vn2 n) (_ : Net64 n) :
    Calls Tryz.prog 3 #[.agg #[.int .i64 m.degree, .int .i64 m.states, .int .i64 m.messages, vm0, vm1, vm2, vm3], .agg #[vn0, vn1, vn2]] w fun e w' => e = .returned (.bool true) ∧ Below w.heap.size w w' := by
  obtain ⟨Ma0, mza0, rfl, _⟩ := id hm0.1
  obtain ⟨Ma1, mza1, rfl, _⟩ := id hm0.2.1
  obtain ⟨Ma2, mza2, rfl, _⟩ := id hm0.2.2.1
  obtain ⟨Ma3, mza3, rfl, _⟩ := id hm0.2.2.2
  obtain ⟨Na0, nza0, rfl, _⟩ := id hn0.1
  obtain ⟨Na1, nza1, rfl, _⟩ := id hn0.2.1
  obtain ⟨Na2, nza2, rfl, _⟩ := id hn0.2.2
  obtain ⟨w0, hw0⟩ : ∃ w0, w0 = ((w).alloc (.cells #[.int .i64 m.degree, .int .i64 m.states, .int .i64 m.messages, .slice Ma0 m.start.length mza0, .slice Ma1 m.send.length mza1, .slice Ma2 m.clauses.length mza2, .slice Ma3 m.output.length mza3] 26)).alloc (.cells #[.slice Na0 n.ends.length nza0, .slice Na1 n.ids.length nza1, .slice Na2 n.inputs.length nza2] 29) := ⟨_, rfl⟩
  have hb0 : Below w.heap.size w w0 := by rw [hw0]; exact (((Below.refl _ _).alloc (by simp <;> omega) _).alloc (by simp <;> omega) _)
  have HAm := Lib.hid (show ∀ X, Since w0 X → MacIn X (.slice Ma0 m.start.length mza0) (.slice Ma1 m.send.length mza1) (.slice Ma2 m.clauses.length mza2) (.slice Ma3 m.output.length mza3) m from fun X hX => (hm0.keep hb0).keep hX)
  have pm0 : ∀ W, Since w0 W → W.cell? ⟨w.heap.size, 0, none⟩ = some (.int .i64 m.degree) := have_cell (by rw [hw0]; simp [go_sem])
  have pm1 : ∀ W, Since w0 W → W.cell? ⟨w.heap.size, 1, none⟩ = some (.int .i64 m.states) := have_cell (by rw [hw0]; simp [go_sem])
  have pm2 : ∀ W, Since w0 W → W.cell? ⟨w.heap.size, 2, none⟩ = some (.int .i64 m.messages) := have_cell (by rw [hw0]; simp [go_sem])
  have pm3 : ∀ W, Since w0 W → W.cell? ⟨w.heap.size, 3, none⟩ = some (.slice Ma0 m.start.length mza0) := have_cell (by rw [hw0]; simp [go_sem])
  have pm4 : ∀ W, Since w0 W → W.cell? ⟨w.heap.size, 4, none⟩ = some (.slice Ma1 m.send.length mza1) := have_cell (by rw [hw0]; simp [go_sem])
  have pm5 : ∀ W, Since w0 W → W.cell? ⟨w.heap.size, 5, none⟩ = some (.slice Ma2 m.clauses.length mza2) := have_cell (by rw [hw0]; simp [go_sem])
  have pm6 : ∀ W, Since w0 W → W.cell? ⟨w.heap.size, 6, none⟩ = some (.slice Ma3 m.output.length mza3) := have_cell (by rw [hw0]; simp [go_sem])
  clear hm0
  have HAn := Lib.hid (show ∀ X, Since w0 X → NetIn X (.slice Na0 n.ends.length nza0) (.slice Na1 n.ids.length nza1) (.slice Na2 n.inputs.length nza2) n from fun X hX => (hn0.keep hb0).keep hX)
  have pn0 : ∀ W, Since w0 W → W.cell? ⟨w.heap.size + 1, 0, none⟩ = some (.slice Na0 n.ends.length nza0) := have_cell (by rw [hw0]; simp [go_sem])
  have pn1 : ∀ W, Since w0 W → W.cell? ⟨w.heap.size + 1, 1, none⟩ = some (.slice Na1 n.ids.length nza1) := have_cell (by rw [hw0]; simp [go_sem])
  have pn2 : ∀ W, Since w0 W → W.cell? ⟨w.heap.size + 1, 2, none⟩ = some (.slice Na2 n.inputs.length nza2) := have_cell (by rw [hw0]; simp [go_sem])
  clear hn0
  have Hb0 := Lib.hid hb0
  have Hw0 := Lib.hid hw0
  clear hb0 hw0
  obtain ⟨rs, hrs⟩ : ∃ rs : ASt, fnExactStartAsync_r0 m n = rs := ⟨_, rfl⟩
  have Hrs := Lib.hid hrs
  clear hrs
  obtain ⟨rr1, hrr⟩ : ∃ z, fnExactStartAsync_r1 m n = z := ⟨_, rfl⟩
  have Hr1 := Lib.hid hrr
  clear hrr
  have hspec : ∀ (hzm : szMac m ≤ 1048576) (hzn : szNet n ≤ 1048576) (w : World) (ym0 ym1 ym2 ym3 : Value) (hm1 : MacIn w ym0 ym1 ym2 ym3 m) (yn0 yn1 yn2 : Value) (hn1 : NetIn w yn0 yn1 yn2 n), Calls Tryz.prog 12 #[.agg #[.int .i64 m.degree, .int .i64 m.states, .int .i64 m.messages, ym0, ym1, ym2, ym3], .agg #[yn0, yn1, yn2]] w fun e w' => ∃ u0 u1 u2 u3 u4 S, e = .returned (.tuple #[.agg #[u0, u1, u2, u3, u4], .bool rr1]) ∧ OwnAs w' w.heap.size u0 u1 u2 u3 u4 rs S ∧ cntAs rs ≤ 1000000000 ∧ Below w.heap.size w w' := fun hzm hzn w ym0 ym1 ym2 ym3 hm1 yn0 yn1 yn2 hn1 => by
    have key := (fnExactStartAsync_spec _ _ _ _ _ _ _ m n w hm1 hn1  hzm hzn)
    rw [Hrs.out, Hr1.out] at key
    exact key
  have himpl : ∀ (hzm : szMac m ≤ 1048576) (hzn : szNet n ≤ 1048576) (w : World) (ym0 ym1 ym2 ym3 : Value) (hm1 : MacIn w ym0 ym1 ym2 ym3 m) (yn0 yn1 yn2 : Value) (hn1 : NetIn w yn0 yn1 yn2 n), Calls Tryz.prog 15 #[.agg #[.int .i64 m.degree, .int .i64 m.states, .int .i64 m.messages, ym0, ym1, ym2, ym3], .agg #[yn0, yn1, yn2]] w fun e w' => ∃ u0 u1 u2 u3 u4 S, e = .returned (.tuple #[.agg #[u0, u1, u2, u3, u4], .bool rr1]) ∧ OwnAs w' w.heap.size u0 u1 u2 u3 u4 rs S ∧ Below w.heap.size w w' := fun hzm hzn w ym0 ym1 ym2 ym3 hm1 yn0 yn1 yn2 hn1 => by
    have key := (fnExactStartAsync_impl _ _ _ _ _ _ _ m n w hm1 hn1  hzm hzn)
    rw [Hrs.out, Hr1.out] at key
    exact key
  have Hspec := Lib.hid hspec
  have Himpl := Lib.hid himpl
  clear hspec himpl
  go_enter Tryz.func3, Tryz.ntmps3
  go_upto_region 1 with (fail)
  rw [← Hw0.out]
  have hs : Since w0 w0 := since_refl _
  go_wp2_with fail
  refine (szMachine_any _ _ _ _ m _ (by omega) (by omega) _ (HAm.out _ hs)).mono ?_
  rcases left_cases (l := 1048576) (by omega) (by omega) (szMac m) with hq | ⟨q0, hq, hq0a, hq0b, hszm⟩
  · rw [hq]
    rintro e W1 ⟨rfl, hb1⟩
    have HS := Lib.hid (Since.after Hb0.out (hs.trans hb1))
    clear hb1 hs
    go_wp2_with fail
    go_ret
    exact ⟨rfl, HS.out⟩
  rw [hq]
  rintro e W10 ⟨rfl, hb1⟩
  replace hs : Since w0 W10 := hs.trans hb1
  clear hb1 hq
  have Hszm := Lib.hid hszm
  clear hszm
  go_wp2_with fail
  refine (szNetwork_any _ _ _ n _ hq0a hq0b _ (HAn.out _ hs)).mono ?_
  rcases left_cases (l := q0) hq0a hq0b (szNet n) with hq | ⟨q1, hq, hq1a, hq1b, hszn⟩
  · rw [hq]
    rintro e W1 ⟨rfl, hb1⟩
    have HS := Lib.hid (Since.after Hb0.out (hs.trans hb1))
    clear hb1 hs
    go_wp2_with fail
    go_ret
    exact ⟨rfl, HS.out⟩
  rw [hq]
  rintro e W11 ⟨rfl, hb1⟩
  replace hs : Since w0 W11 := hs.trans hb1
  clear hb1 hq
  have Hszn := Lib.hid hszn
  clear hszn
  have Hlens := Lib.hid (show cntAs rs ≤ 1000000000 from by rw [← Hrs.out]; exact fnExactStartAsync_cnt m n Hszm.out Hszn.out)
  go_upto_region 8 with (fail)
  have hO : ∀ (i : Nat) (u : Value) (W W' : World) (lo hi : Nat), (oRs w0.heap.size rs rr1 4) i u W lo hi → Since W W' → (oRs w0.heap.size rs rr1 4) i u W' lo hi := fun i u W W' lo hi h hs => oRs.keep h hs
  refine wp_region_dstl (w0 := w0) [fun V W => V 0 = .agg #[.int .i64 m.degree, .int .i64 m.states, .int .i64 m.messages, .slice Ma0 m.start.length mza0, .slice Ma1 m.send.length mza1, .slice Ma2 m.clauses.length mza2, .slice Ma3 m.output.length mza3], fun V W => ∃ y0 y1 y2 y3, V 1 = .agg #[.int .i64 m.degree, .int .i64 m.states, .int .i64 m.messages, y0, y1, y2, y3] ∧ MacIn W y0 y1 y2 y3 m, fun V W => V 2 = .agg #[.slice Na0 n.ends.length nza0, .slice Na1 n.ids.length nza1, .slice Na2 n.inputs.length nza2], fun V W => ∃ y0 y1 y2, V 3 = .agg #[y0, y1, y2] ∧ NetIn W y0 y1 y2 n, fun V W => ∃ x, V 4 = .tuple #[x, .bool rr1] ∧ AsV rs x, fun V W => V 5 = V 4 ∧ ∃ x, V 5 = .tuple #[x, .bool rr1] ∧ AsV rs x, fun V W => V 5 = .tuple #[V 6, .bool rr1] ∧ AsV rs (V 6), fun V W => V 7 = .bool rr1, fun V W => ∃ b, V 8 = .pointer (some ⟨b, 0, none⟩) ∧ W.heap[b]? = some (.cells nil5 34 (0, 0)), fun V W => True] (GI [4, 8] (oRs w0.heap.size rs rr1 4)) 10 9 [7] (fun V W => stA5 (V 8) (V 6) W) ?_ ?_ (fun V W => trivial) (by kernel_rfl) (by kernel_rfl) (by kernel_rfl) (by kernel_rfl) (by kernel_rfl) (hs) (fun V W _ => GI.none _ _ _ _) ?_ ?_ ?_ ?_
  · intro r hr V W W' h hs
    simp only [List.mem_cons, List.not_mem_nil, or_false] at hr
    rcases hr with rfl | rfl | rfl | rfl | rfl | rfl | rfl | rfl | rfl | rfl
    · exact h
    · exact (let ⟨y0, y1, y2, y3, h1, h2⟩ := h; ⟨y0, y1, y2, y3, h1, h2.keep hs.below⟩)
    · exact h
    · exact (let ⟨y0, y1, y2, h1, h2⟩ := h; ⟨y0, y1, y2, h1, h2.keep hs.below⟩)
    · exact (h)
    · exact (h)
    · exact (h)
    · exact h
    · exact (⟨h.choose, h.choose_spec.1, (hs.below.block _ (Array.getElem?_eq_some_iff.1 h.choose_spec.2).1).trans h.choose_spec.2⟩)
    · exact (trivial)
  · intro j r hj V V' W h1 h2 h
    match j, hj with
    | 0, hj =>
      obtain rfl := Option.some.inj hj
      have h3 : V 0 = .agg #[.int .i64 m.degree, .int .i64 m.states, .int .i64 m.messages, .slice Ma0 m.start.length mza0, .slice Ma1 m.send.length mza1, .slice Ma2 m.clauses.length mza2, .slice Ma3 m.output.length mza3] := h
      show V' 0 = .agg #[.int .i64 m.degree, .int .i64 m.states, .int .i64 m.messages, .slice Ma0 m.start.length mza0, .slice Ma1 m.send.length mza1, .slice Ma2 m.clauses.length mza2, .slice Ma3 m.output.length mza3]
      rw [← h1]
      exact h3
    | 1, hj =>
      obtain rfl := Option.some.inj hj
      have h3 : ∃ y0 y1 y2 y3, V 1 = .agg #[.int .i64 m.degree, .int .i64 m.states, .int .i64 m.messages, y0, y1, y2, y3] ∧ MacIn W y0 y1 y2 y3 m := h
      show ∃ y0 y1 y2 y3, V' 1 = .agg #[.int .i64 m.degree, .int .i64 m.states, .int .i64 m.messages, y0, y1, y2, y3] ∧ MacIn W y0 y1 y2 y3 m
      rw [← h1]
      exact h3
    | 2, hj =>
      obtain rfl := Option.some.inj hj
      have h3 : V 2 = .agg #[.slice Na0 n.ends.length nza0, .slice Na1 n.ids.length nza1, .slice Na2 n.inputs.length nza2] := h
      show V' 2 = .agg #[.slice Na0 n.ends.length nza0, .slice Na1 n.ids.length nza1, .slice Na2 n.inputs.length nza2]
      rw [← h1]
      exact h3
    | 3, hj =>
      obtain rfl := Option.some.inj hj
      have h3 : ∃ y0 y1 y2, V 3 = .agg #[y0, y1, y2] ∧ NetIn W y0 y1 y2 n := h
      show ∃ y0 y1 y2, V' 3 = .agg #[y0, y1, y2] ∧ NetIn W y0 y1 y2 n
      rw [← h1]
      exact h3
    | 4, hj =>
      obtain rfl := Option.some.inj hj
      have h3 : ∃ x, V 4 = .tuple #[x, .bool rr1] ∧ AsV rs x := h
      show ∃ x, V' 4 = .tuple #[x, .bool rr1] ∧ AsV rs x
      rw [← h1]
      exact h3
    | 5, hj =>
      obtain rfl := Option.some.inj hj
      have h24 := h2 _ rfl 4 (by decide +kernel)
      have h3 : V 5 = V 4 ∧ ∃ x, V 5 = .tuple #[x, .bool rr1] ∧ AsV rs x := h
      show V' 5 = V' 4 ∧ ∃ x, V' 5 = .tuple #[x, .bool rr1] ∧ AsV rs x
      rw [← h1, ← h24]
      exact h3
    | 6, hj =>
      obtain rfl := Option.some.inj hj
      have h25 := h2 _ rfl 5 (by decide +kernel)
      have h3 : V 5 = .tuple #[V 6, .bool rr1] ∧ AsV rs (V 6) := h
      show V' 5 = .tuple #[V' 6, .bool rr1] ∧ AsV rs (V' 6)
      rw [← h1, ← h25]
      exact h3
    | 7, hj =>
      obtain rfl := Option.some.inj hj
      have h3 : V 7 = .bool rr1 := h
      show V' 7 = .bool rr1
      rw [← h1]
      exact h3
    | 8, hj =>
      obtain rfl := Option.some.inj hj
      have h3 : ∃ b, V 8 = .pointer (some ⟨b, 0, none⟩) ∧ W.heap[b]? = some (.cells nil5 34 (0, 0)) := h
      show ∃ b, V' 8 = .pointer (some ⟨b, 0, none⟩) ∧ W.heap[b]? = some (.cells nil5 34 (0, 0))
      rw [← h1]
      exact h3
    | 9, hj =>
      obtain rfl := Option.some.inj hj
      trivial
    | j + 10, hj => simp at hj
  · intro i o hi his ho D V W hW hd hnD hGG
    match i, ho with
    | 0, ho =>
      cases ho
      clear hd hi his
      refine ⟨rfl, ?_⟩
      simp only [putAll, show List.range 10 = [0, 1, 2, 3, 4, 5, 6, 7, 8, 9] from rfl, List.getElem?_toArray, List.getElem?_cons_succ, List.getElem?_cons_zero]
      (try simp only [Act.put, List.setIfInBounds_toArray, List.set_cons_succ, List.set_cons_zero])
      refine dstep_val (u := .agg #[.int .i64 m.degree, .int .i64 m.states, .int .i64 m.messages, .slice Ma0 m.start.length mza0, .slice Ma1 m.send.length mza1, .slice Ma2 m.clauses.length mza2, .slice Ma3 m.output.length mza3]) (W' := W) (by go_simp) ⟨since_refl _, ?_, GI.skip hO hGG (since_refl _) (by decide) _⟩
      exact upd_self V 0 _
    | 1, ho =>
      cases ho
      have e0 : V 0 = .agg #[.int .i64 m.degree, .int .i64 m.states, .int .i64 m.messages, .slice Ma0 m.start.length mza0, .slice Ma1 m.send.length mza1, .slice Ma2 m.clauses.length mza2, .slice Ma3 m.output.length mza3] := hd 0 (by decide +kernel)
      clear hd hi his
      refine ⟨rfl, ?_⟩
      simp only [putAll, show List.range 10 = [0, 1, 2, 3, 4, 5, 6, 7, 8, 9] from rfl, List.getElem?_toArray, List.getElem?_cons_succ, List.getElem?_cons_zero]
      (try simp only [Act.put, List.setIfInBounds_toArray, List.set_cons_succ, List.set_cons_zero])
      have HG := Lib.hid hGG
      have HO := Lib.hid hO
      clear hGG hO
      unfold DStep
      go_simp
      (with_reducible refine (toMachine_ownM _ _ _ _ m _ (HAm.out W hW) Hszm.out).mono ?_)
      rintro e W1 ⟨u0, u1, u2, u3, S, rfl, ho, hb⟩
      refine ⟨_, rfl, hb, ⟨_, _, _, _, upd_self V 1 _, ho.read⟩, GI.skip HO.out HG.out hb (by decide) _⟩
    | 2, ho =>
      cases ho
      clear hd hi his
      refine ⟨rfl, ?_⟩
      simp only [putAll, show List.range 10 = [0, 1, 2, 3, 4, 5, 6, 7, 8, 9] from rfl, List.getElem?_toArray, List.getElem?_cons_succ, List.getElem?_cons_zero]
      (try simp only [Act.put, List.setIfInBounds_toArray, List.set_cons_succ, List.set_cons_zero])
      refine dstep_val (u := .agg #[.slice Na0 n.ends.length nza0, .slice Na1 n.ids.length nza1, .slice Na2 n.inputs.length nza2]) (W' := W) (by go_simp) ⟨since_refl _, ?_, GI.skip hO hGG (since_refl _) (by decide) _⟩
      exact upd_self V 2 _
    | 3, ho =>
      cases ho
      have e2 : V 2 = .agg #[.slice Na0 n.ends.length nza0, .slice Na1 n.ids.length nza1, .slice Na2 n.inputs.length nza2] := hd 2 (by decide +kernel)
      clear hd hi his
      refine ⟨rfl, ?_⟩
      simp only [putAll, show List.range 10 = [0, 1, 2, 3, 4, 5, 6, 7, 8, 9] from rfl, List.getElem?_toArray, List.getElem?_cons_succ, List.getElem?_cons_zero]
      (try simp only [Act.put, List.setIfInBounds_toArray, List.set_cons_succ, List.set_cons_zero])
      have HG := Lib.hid hGG
      have HO := Lib.hid hO
      clear hGG hO
      unfold DStep
      go_simp
      (with_reducible refine (toNetwork_any _ _ _ n _ (HAn.out W hW) Hszn.out).mono ?_)
      rintro e W1 ⟨u0, u1, u2, S, rfl, ho, hb⟩
      refine ⟨_, rfl, hb, ⟨_, _, _, upd_self V 3 _, ho.read⟩, GI.skip HO.out HG.out hb (by decide) _⟩
    | 4, ho =>
      cases ho
      have e1 : ∃ y0 y1 y2 y3, V 1 = .agg #[.int .i64 m.degree, .int .i64 m.states, .int .i64 m.messages, y0, y1, y2, y3] ∧ MacIn W y0 y1 y2 y3 m := hd 1 (by decide +kernel)
      have e3 : ∃ y0 y1 y2, V 3 = .agg #[y0, y1, y2] ∧ NetIn W y0 y1 y2 n := hd 3 (by decide +kernel)
      clear hd hi his
      refine ⟨rfl, ?_⟩
      simp only [putAll, show List.range 10 = [0, 1, 2, 3, 4, 5, 6, 7, 8, 9] from rfl, List.getElem?_toArray, List.getElem?_cons_succ, List.getElem?_cons_zero]
      (try simp only [Act.put, List.setIfInBounds_toArray, List.set_cons_succ, List.set_cons_zero])
      obtain ⟨my0, my1, my2, my3, hvm, him⟩ := e1
      obtain ⟨ny0, ny1, ny2, hvn, hin⟩ := e3
      have HG := Lib.hid hGG
      have HO := Lib.hid hO
      clear hGG hO
      unfold DStep
      go_simp
      (try rw [hvm, hvn])
      (with_reducible refine (Hspec.out Hszm.out Hszn.out _ _ _ _ _ him _ _ _ hin).mono ?_)
      rintro e W1 ⟨u0, u1, u2, u3, u4, S, rfl, ho, hlen, hb⟩
      refine ⟨_, rfl, hb, ⟨_, upd_self V 4 _, AsV.of ho.read⟩, GI.add HO.out HG.out hb hnD ?_⟩
      exact oRs.call hW.below.size ho
    | 5, ho =>
      cases ho
      have e4 : ∃ x, V 4 = .tuple #[x, .bool rr1] ∧ AsV rs x := hd 4 (by decide +kernel)
      clear hd hi his
      refine ⟨rfl, ?_⟩
      simp only [putAll, show List.range 10 = [0, 1, 2, 3, 4, 5, 6, 7, 8, 9] from rfl, List.getElem?_toArray, List.getElem?_cons_succ, List.getElem?_cons_zero]
      (try simp only [Act.put, List.setIfInBounds_toArray, List.set_cons_succ, List.set_cons_zero])
      obtain ⟨x, hx, hx2⟩ := e4
      refine dstep_val (u := .tuple #[x, .bool rr1]) (W' := W) (by clear hGG hO; rw [hx]; go_simp) ⟨since_refl _, ⟨?_, _, upd_self V 5 _, hx2⟩, GI.skip hO hGG (since_refl _) (by decide) _⟩
      show upd V 5 _ 5 = upd V 5 _ 4
      rw [upd_self, upd_ne V _ (show (4 : Nat) ≠ 5 by decide)]
      exact hx.symm
    | 6, ho =>
      cases ho
      have e5 : V 5 = V 4 ∧ ∃ x, V 5 = .tuple #[x, .bool rr1] ∧ AsV rs x := hd 5 (by decide +kernel)
      clear hd hi his
      refine ⟨rfl, ?_⟩
      simp only [putAll, show List.range 10 = [0, 1, 2, 3, 4, 5, 6, 7, 8, 9] from rfl, List.getElem?_toArray, List.getElem?_cons_succ, List.getElem?_cons_zero]
      (try simp only [Act.put, List.setIfInBounds_toArray, List.set_cons_succ, List.set_cons_zero])
      obtain ⟨_, x, hx, hx2⟩ := e5
      refine dstep_val (u := x) (W' := W) (by clear hGG hO; rw [hx]; go_simp) ⟨since_refl _, ⟨?_, ?_⟩, GI.skip hO hGG (since_refl _) (by decide) _⟩
      · (show upd V 6 _ 5 = .tuple #[upd V 6 _ 6, _]; rw [upd_self, upd_ne V _ (show (5 : Nat) ≠ 6 by decide)]; exact hx)
      · (rw [upd_self]; exact hx2)
    | 7, ho =>
      cases ho
      have e5 : V 5 = V 4 ∧ ∃ x, V 5 = .tuple #[x, .bool rr1] ∧ AsV rs x := hd 5 (by decide +kernel)
      clear hd hi his
      refine ⟨rfl, ?_⟩
      simp only [putAll, show List.range 10 = [0, 1, 2, 3, 4, 5, 6, 7, 8, 9] from rfl, List.getElem?_toArray, List.getElem?_cons_succ, List.getElem?_cons_zero]
      (try simp only [Act.put, List.setIfInBounds_toArray, List.set_cons_succ, List.set_cons_zero])
      obtain ⟨_, x, hx, hx2⟩ := e5
      rw [hx]
      refine dstep_val (u := .bool rr1) (W' := W) (by go_simp) ⟨since_refl _, ?_, GI.skip hO hGG (since_refl _) (by decide) _⟩
      exact upd_self V 7 _
    | 8, ho =>
      cases ho
      clear hd hi his
      refine ⟨rfl, ?_⟩
      simp only [putAll, show List.range 10 = [0, 1, 2, 3, 4, 5, 6, 7, 8, 9] from rfl, List.getElem?_toArray, List.getElem?_cons_succ, List.getElem?_cons_zero]
      (try simp only [Act.put, List.setIfInBounds_toArray, List.set_cons_succ, List.set_cons_zero])
      refine dstep_val (u := .pointer (some ⟨W.heap.size, 0, none⟩)) (W' := W.alloc (.cells nil5 34)) (by clear hGG hO; unfold nil5; go_simp) ⟨since_alloc _ (since_refl _), ⟨_, upd_self V 8 _, heap_alloc_new W _⟩, GI.add hO hGG (since_alloc _ (since_refl _)) hnD ?_⟩
      exact oRs.box W (by decide) hW.below.size
    | 9, ho =>
      exact absurd rfl his
    | i + 10, ho => omega
  · intro i o hi his hlate ho V W hW hd
    match i, ho with
    | 0, ho =>
      exact absurd hlate (by decide)
    | 1, ho =>
      exact absurd hlate (by decide)
    | 2, ho =>
      exact absurd hlate (by decide)
    | 3, ho =>
      exact absurd hlate (by decide)
    | 4, ho =>
      exact absurd hlate (by decide)
    | 5, ho =>
      exact absurd hlate (by decide)
    | 6, ho =>
      exact absurd hlate (by decide)
    | 7, ho =>
      cases ho
      have e5 : V 5 = V 4 ∧ ∃ x, V 5 = .tuple #[x, .bool rr1] ∧ AsV rs x := hd 5 (by decide +kernel)
      clear hd hi his hlate
      refine ⟨rfl, .bool rr1, fun X => ?_, upd_self V 7 _, fun X => by simp [upd], fun D hnD hGG => GI.skip hO hGG (since_refl _) (by decide) _⟩
      simp only [putAll, show List.range 10 = [0, 1, 2, 3, 4, 5, 6, 7, 8, 9] from rfl, List.getElem?_toArray, List.getElem?_cons_succ, List.getElem?_cons_zero]
      (try simp only [Act.put, List.setIfInBounds_toArray, List.set_cons_succ, List.set_cons_zero])
      obtain ⟨_, x, hx, hx2⟩ := e5
      rw [hx]
      go_simp
    | 8, ho =>
      exact absurd hlate (by decide)
    | 9, ho =>
      exact absurd hlate (by decide)
    | i + 10, ho => omega
  · intro o ho
    cases ho
    refine ⟨rfl, fun V W hW hd => ?_⟩
    have e6 : V 5 = .tuple #[V 6, .bool rr1] ∧ AsV rs (V 6) := hd 6 (by decide +kernel)
    have e8 : ∃ b, V 8 = .pointer (some ⟨b, 0, none⟩) ∧ W.heap[b]? = some (.cells nil5 34 (0, 0)) := hd 8 (by decide +kernel)
    clear hd
    refine ⟨rfl, ?_⟩
    simp only [putAll, show List.range 10 = [0, 1, 2, 3, 4, 5, 6, 7, 8, 9] from rfl, List.getElem?_toArray, List.getElem?_cons_succ, List.getElem?_cons_zero]
    (try simp only [Act.put, List.setIfInBounds_toArray, List.set_cons_succ, List.set_cons_zero])
    obtain ⟨b, hb, hh⟩ := e8
    obtain ⟨_, G0, g0, G1, g1, G2, g2, G3, g3, G4, g4, h6⟩ := e6
    have hbx : BoxA W b nil5 := ⟨_, hh⟩
    have c0 := (hbx.cell 0 _ rfl).1
    have f0 := (hbx.cell 0 _ rfl).2
    have c1 := (hbx.cell 1 _ rfl).1
    have f1 := (hbx.cell 1 _ rfl).2
    have c2 := (hbx.cell 2 _ rfl).1
    have f2 := (hbx.cell 2 _ rfl).2
    have c3 := (hbx.cell 3 _ rfl).1
    have f3 := (hbx.cell 3 _ rfl).2
    have c4 := (hbx.cell 4 _ rfl).1
    have f4 := (hbx.cell 4 _ rfl).2
    clear hh hbx
    rw [hb, h6, stA5_eq]
    clear hb h6
    go_simp
  intro V W hW hV hGG
  have e0 : V 0 = .agg #[.int .i64 m.degree, .int .i64 m.states, .int .i64 m.messages, .slice Ma0 m.start.length mza0, .slice Ma1 m.send.length mza1, .slice Ma2 m.clauses.length mza2, .slice Ma3 m.output.length mza3] := hV 0 (by decide) (by decide)
  have e1 : ∃ y0 y1 y2 y3, V 1 = .agg #[.int .i64 m.degree, .int .i64 m.states, .int .i64 m.messages, y0, y1, y2, y3] ∧ MacIn W y0 y1 y2 y3 m := hV 1 (by decide) (by decide)
  have e2 : V 2 = .agg #[.slice Na0 n.ends.length nza0, .slice Na1 n.ids.length nza1, .slice Na2 n.inputs.length nza2] := hV 2 (by decide) (by decide)
  have e3 : ∃ y0 y1 y2, V 3 = .agg #[y0, y1, y2] ∧ NetIn W y0 y1 y2 n := hV 3 (by decide) (by decide)
  have e4 : ∃ x, V 4 = .tuple #[x, .bool rr1] ∧ AsV rs x := hV 4 (by decide) (by decide)
  have e5 : V 5 = V 4 ∧ ∃ x, V 5 = .tuple #[x, .bool rr1] ∧ AsV rs x := hV 5 (by decide) (by decide)
  have e6 : V 5 = .tuple #[V 6, .bool rr1] ∧ AsV rs (V 6) := hV 6 (by decide) (by decide)
  have e7 : V 7 = .bool rr1 := hV 7 (by decide) (by decide)
  have e8 : ∃ b, V 8 = .pointer (some ⟨b, 0, none⟩) ∧ W.heap[b]? = some (.cells nil5 34 (0, 0)) := hV 8 (by decide) (by decide)
  clear hV
  simp only [putAll, show List.range 10 = [0, 1, 2, 3, 4, 5, 6, 7, 8, 9] from rfl, List.getElem?_toArray, List.getElem?_cons_succ, List.getElem?_cons_zero]
  (try simp only [Act.put, List.setIfInBounds_toArray, List.set_cons_succ, List.set_cons_zero])
  simp only [List.drop_succ_cons, List.drop_zero]
  obtain ⟨I, hI1, hI2⟩ := hGG
  have oc := (hI1 4 (by decide) ⟨by decide, by decide⟩).1
  have ob := (hI1 8 (by decide) ⟨by decide, by decide⟩).1
  obtain ⟨bxs, Qs0, zQs0, Qs1, zQs1, Qs2, zQs2, Qs3, zQs3, Qs4, zQs4, hp, hu, hSf, hIn, hBox⟩ := as_stored hW oc ob (by decide) (hI2 4 (by decide) 8 (by decide) (by decide) ⟨by decide, by decide⟩ ⟨by decide, by decide⟩)
  have hv6 := e6.1
  rw [e5.1, hu] at hv6
  have hv7 := (by simpa using hv6 : _ = V 6)
  rw [hp, ← hv7, e7]
  obtain ⟨WBs, hWB⟩ : ∃ z, z = stA5 (.pointer (some ⟨bxs, 0, none⟩)) (.agg #[.slice Qs0 rs.rounds.length zQs0, .slice Qs1 rs.before.length zQs1, .slice Qs2 rs.now.length zQs2, .slice Qs3 rs.slots.length zQs3, .slice Qs4 rs.flight.length zQs4]) W := ⟨_, rfl⟩
  rw [← hWB] at hSf hIn hBox ⊢
  have ys0 : ∀ X, Since WBs X → X.cell? ⟨bxs, 0, none⟩ = some (.slice Qs0 rs.rounds.length zQs0) := have_cell (hBox.cell 0 _ rfl).1
  have ys1 : ∀ X, Since WBs X → X.cell? ⟨bxs, 1, none⟩ = some (.slice Qs1 rs.before.length zQs1) := have_cell (hBox.cell 1 _ rfl).1
  have ys2 : ∀ X, Since WBs X → X.cell? ⟨bxs, 2, none⟩ = some (.slice Qs2 rs.now.length zQs2) := have_cell (hBox.cell 2 _ rfl).1
  have ys3 : ∀ X, Since WBs X → X.cell? ⟨bxs, 3, none⟩ = some (.slice Qs3 rs.slots.length zQs3) := have_cell (hBox.cell 3 _ rfl).1
  have ys4 : ∀ X, Since WBs X → X.cell? ⟨bxs, 4, none⟩ = some (.slice Qs4 rs.flight.length zQs4) := have_cell (hBox.cell 4 _ rfl).1
  have HQs := Lib.hid (show ∀ X, Since WBs X → AsIn X (.slice Qs0 rs.rounds.length zQs0) (.slice Qs1 rs.before.length zQs1) (.slice Qs2 rs.now.length zQs2) (.slice Qs3 rs.slots.length zQs3) (.slice Qs4 rs.flight.length zQs4) rs from fun X hX => hIn.keep hX.below)
  have HSf := Lib.hid hSf
  clear hSf hIn hBox hWB hv6 hv7 hp hu ob oc hI1 hI2 I e0 e1 e2 e3 e4 e5 e6 e7 e8 hW hO
  have hs0 : Since w0 WBs := HSf.out
  clear HSf
  clear hs
  have gm0 := lift_cell pm0 hs0
  clear pm0
  have gm1 := lift_cell pm1 hs0
  clear pm1
  have gm2 := lift_cell pm2 hs0
  clear pm2
  have gm3 := lift_cell pm3 hs0
  clear pm3
  have gm4 := lift_cell pm4 hs0
  clear pm4
  have gm5 := lift_cell pm5 hs0
  clear pm5
  have gm6 := lift_cell pm6 hs0
  clear pm6
  have gn0 := lift_cell pn0 hs0
  clear pn0
  have gn1 := lift_cell pn1 hs0
  clear pn1
  have gn2 := lift_cell pn2 hs0
  clear pn2
  have Hs0 := Lib.hid hs0
  clear hs0
  have HBm := Lib.hid (show ∀ X, Since WBs X → MacIn X (.slice Ma0 m.start.length mza0) (.slice Ma1 m.send.length mza1) (.slice Ma2 m.clauses.length mza2) (.slice Ma3 m.output.length mza3) m from fun X hX => HAm.out X (Hs0.out.after hX))
  have HBn := Lib.hid (show ∀ X, Since WBs X → NetIn X (.slice Na0 n.ends.length nza0) (.slice Na1 n.ids.length nza1) (.slice Na2 n.inputs.length nza2) n from fun X hX => HAn.out X (Hs0.out.after hX))
  have hs : Since WBs WBs := since_refl _
  go_wp2_with fail
  refine (toMachine_ownM _ _ _ _ m _ (HBm.out _ hs) Hszm.out).mono ?_
  rintro e W40 ⟨umx0, umx1, umx2, umx3, Sm, rfl, ho, hb⟩
  have hN := ho.read
  obtain ⟨Mx0, mzx0, rfl, _⟩ := id hN.1
  obtain ⟨Mx1, mzx1, rfl, _⟩ := id hN.2.1
  obtain ⟨Mx2, mzx2, rfl, _⟩ := id hN.2.2.1
  obtain ⟨Mx3, mzx3, rfl, _⟩ := id hN.2.2.2
  obtain ⟨w50, hw5⟩ : ∃ z, z = W40.alloc (.cells #[.int .i64 m.degree, .int .i64 m.states, .int .i64 m.messages, .slice Mx0 m.start.length mzx0, .slice Mx1 m.send.length mzx1, .slice Mx2 m.clauses.length mzx2, .slice Mx3 m.output.length mzx3] 39) := ⟨_, rfl⟩
  have h45 : Since W40 w50 := by rw [hw5]; exact since_alloc _ (since_refl _)
  have Ho0 := Lib.hid (show WBs.heap.size ≤ W40.heap.size ∧ w50.heap.size = W40.heap.size + 1 from ⟨hb.size, by rw [hw5]; simp⟩)
  have HRm := Lib.hid (show ∀ j ∈ Sm, WBs.heap.size ≤ j ∧ j < W40.heap.size from ho.range)
  have HXm := Lib.hid (show ∀ X, Since w50 X → OwnM X WBs.heap.size (.slice Mx0 m.start.length mzx0) (.slice Mx1 m.send.length mzx1) (.slice Mx2 m.clauses.length mzx2) (.slice Mx3 m.output.length mzx3) m Sm from fun X hX => ho.keep (h45.after hX))
  have xm0 : ∀ X, Since w50 X → X.cell? ⟨W40.heap.size, 0, none⟩ = some (.int .i64 m.degree) := have_cell (by rw [hw5]; simp)
  have xm1 : ∀ X, Since w50 X → X.cell? ⟨W40.heap.size, 1, none⟩ = some (.int .i64 m.states) := have_cell (by rw [hw5]; simp)
  have xm2 : ∀ X, Since w50 X → X.cell? ⟨W40.heap.size, 2, none⟩ = some (.int .i64 m.messages) := have_cell (by rw [hw5]; simp)
  have xm3 : ∀ X, Since w50 X → X.cell? ⟨W40.heap.size, 3, none⟩ = some (.slice Mx0 m.start.length mzx0) := have_cell (by rw [hw5]; simp)
  have xm4 : ∀ X, Since w50 X → X.cell? ⟨W40.heap.size, 4, none⟩ = some (.slice Mx1 m.send.length mzx1) := have_cell (by rw [hw5]; simp)
  have xm5 : ∀ X, Since w50 X → X.cell? ⟨W40.heap.size, 5, none⟩ = some (.slice Mx2 m.clauses.length mzx2) := have_cell (by rw [hw5]; simp)
  have xm6 : ∀ X, Since w50 X → X.cell? ⟨W40.heap.size, 6, none⟩ = some (.slice Mx3 m.output.length mzx3) := have_cell (by rw [hw5]; simp)
  have hs' : Since WBs (W40.alloc (.cells #[.int .i64 m.degree, .int .i64 m.states, .int .i64 m.messages, .slice Mx0 m.start.length mzx0, .slice Mx1 m.send.length mzx1, .slice Mx2 m.clauses.length mzx2, .slice Mx3 m.output.length mzx3] 39)) := since_alloc _ (hs.trans hb)
  rw [← hw5] at hs'
  have hx0 : Since w50 w50 := since_refl _
  have hso : Since WBs W40 := hs.trans hb
  have Hw5 := Lib.hid hw5
  clear hw5 hb hN h45 ho
  replace hs := hso
  clear hso
  have hsq := hs'
  rw [Hw5.out] at hsq
  go_wp2_with fail
  rw [← Hw5.out]
  clear hs hsq Hw5
  have hs := hs'
  clear hs'
  refine (toNetwork_any _ _ _ n _ (HBn.out _ hs) Hszn.out).mono ?_
  rintro e W41 ⟨unx0, unx1, unx2, Sn, rfl, ho, hb⟩
  have hN := ho.read
  obtain ⟨Nx0, nzx0, rfl, _⟩ := id hN.1
  obtain ⟨Nx1, nzx1, rfl, _⟩ := id hN.2.1
  obtain ⟨Nx2, nzx2, rfl, _⟩ := id hN.2.2
  obtain ⟨w51, hw5⟩ : ∃ z, z = W41.alloc (.cells #[.slice Nx0 n.ends.length nzx0, .slice Nx1 n.ids.length nzx1, .slice Nx2 n.inputs.length nzx2] 43) := ⟨_, rfl⟩
  have h45 : Since W41 w51 := by rw [hw5]; exact since_alloc _ (since_refl _)
  have Ho1 := Lib.hid (show w50.heap.size ≤ W41.heap.size ∧ w51.heap.size = W41.heap.size + 1 from ⟨hb.size, by rw [hw5]; simp⟩)
  have HRn := Lib.hid (show ∀ j ∈ Sn, w50.heap.size ≤ j ∧ j < W41.heap.size from ho.range)
  have HXn := Lib.hid (show ∀ X, Since w51 X → OwnNet X w50.heap.size (.slice Nx0 n.ends.length nzx0) (.slice Nx1 n.ids.length nzx1) (.slice Nx2 n.inputs.length nzx2) n Sn from fun X hX => ho.keep (h45.after hX))
  have xn0 : ∀ X, Since w51 X → X.cell? ⟨W41.heap.size, 0, none⟩ = some (.slice Nx0 n.ends.length nzx0) := have_cell (by rw [hw5]; simp)
  have xn1 : ∀ X, Since w51 X → X.cell? ⟨W41.heap.size, 1, none⟩ = some (.slice Nx1 n.ids.length nzx1) := have_cell (by rw [hw5]; simp)
  have xn2 : ∀ X, Since w51 X → X.cell? ⟨W41.heap.size, 2, none⟩ = some (.slice Nx2 n.inputs.length nzx2) := have_cell (by rw [hw5]; simp)
  have hs' : Since WBs (W41.alloc (.cells #[.slice Nx0 n.ends.length nzx0, .slice Nx1 n.ids.length nzx1, .slice Nx2 n.inputs.length nzx2] 43)) := since_alloc _ (hs.trans hb)
  rw [← hw5] at hs'
  replace hx0 : Since w50 w51 := (Since.trans hx0 hb).after h45
  have hx1 : Since w51 w51 := since_refl _
  have hso : Since WBs W41 := hs.trans hb
  have Hw5 := Lib.hid hw5
  clear hw5 hb hN h45 ho
  replace hs := hso
  clear hso
  have hsq := hs'
  rw [Hw5.out] at hsq
  have hxq0 := hx0
  rw [Hw5.out] at hxq0
  go_wp2_with fail
  rw [← Hw5.out]
  clear hs hsq Hw5 hxq0
  have hs := hs'
  clear hs'
  refine (Himpl.out Hszm.out Hszn.out _ _ _ _ _ (HXm.out _ hx0).read _ _ _ (HXn.out _ hx1).read).mono ?_
  rintro e W6 ⟨ug0, ug1, ug2, ug3, ug4, Sg, rfl, hog, hb⟩
  obtain ⟨G0, zG0, rfl, _⟩ := id hog.read.1
  obtain ⟨G1, zG1, rfl, _⟩ := id hog.read.2.1
  obtain ⟨G2, zG2, rfl, _⟩ := id hog.read.2.2.1
  obtain ⟨G3, zG3, rfl, _⟩ := id hog.read.2.2.2.1
  obtain ⟨G4, zG4, rfl, _⟩ := id hog.read.2.2.2.2
  go_upto_region 12 with (fail)
  obtain ⟨w7, hw7⟩ : ∃ z, z = W6.alloc (.cells #[.slice G0 rs.rounds.length zG0, .slice G1 rs.before.length zG1, .slice G2 rs.now.length zG2, .slice G3 rs.slots.length zG3, .slice G4 rs.flight.length zG4] 34) := ⟨_, rfl⟩
  rw [← hw7]
  have h67 : Since W6 w7 := by rw [hw7]; exact since_alloc _ (since_refl _)
  have zg0 : ∀ X, Since w7 X → X.cell? ⟨W6.heap.size, 0, none⟩ = some (.slice G0 rs.rounds.length zG0) := have_cell (by rw [hw7]; simp)
  have zg1 : ∀ X, Since w7 X → X.cell? ⟨W6.heap.size, 1, none⟩ = some (.slice G1 rs.before.length zG1) := have_cell (by rw [hw7]; simp)
  have zg2 : ∀ X, Since w7 X → X.cell? ⟨W6.heap.size, 2, none⟩ = some (.slice G2 rs.now.length zG2) := have_cell (by rw [hw7]; simp)
  have zg3 : ∀ X, Since w7 X → X.cell? ⟨W6.heap.size, 3, none⟩ = some (.slice G3 rs.slots.length zG3) := have_cell (by rw [hw7]; simp)
  have zg4 : ∀ X, Since w7 X → X.cell? ⟨W6.heap.size, 4, none⟩ = some (.slice G4 rs.flight.length zG4) := have_cell (by rw [hw7]; simp)
  have HRg := Lib.hid (show ∀ j ∈ Sg, w51.heap.size ≤ j ∧ j < W6.heap.size from fun j hj => ⟨(hog.range j hj).1, (hog.range j hj).2⟩)
  have HG := Lib.hid (show ∀ X, Since w7 X → OwnAs X w51.heap.size (.slice G0 rs.rounds.length zG0) (.slice G1 rs.before.length zG1) (.slice G2 rs.now.length zG2) (.slice G3 rs.slots.length zG3) (.slice G4 rs.flight.length zG4) rs Sg from fun X hX => hog.keep (h67.after hX).below)
  have Hgz := Lib.hid (show w51.heap.size ≤ W6.heap.size from hb.size)
  replace hs := Since.trans hs hb
  replace hx0 := Since.trans hx0 hb
  replace hx1 := Since.trans hx1 hb
  clear hb
  replace hs := Since.after hs h67
  replace hx0 := Since.after hx0 h67
  replace hx1 := Since.after hx1 h67
  have hg : Since w7 w7 := since_refl _
  clear hog hw7 h67
  go_wp2_with fail
  refine (eqAsyncState_same _ _ _ _ _ _ _ _ _ _ rs _ (HG.out _ hg).read (HQs.out _ hs)).mono ?_
  rintro e W7 ⟨rfl, hb⟩
  replace hs := Since.trans hs hb
  replace hx0 := Since.trans hx0 hb
  replace hx1 := Since.trans hx1 hb
  replace hg := Since.trans hg hb
  clear hb
  go_upto_region 14 with (fail)
  have r0 := lift_cell xm0 hx0
  have g0 := lift_cell gm0 hs
  have r1 := lift_cell xm1 hx0
  have g1 := lift_cell gm1 hs
  have r2 := lift_cell xm2 hx0
  have g2 := lift_cell gm2 hs
  have r3 := lift_cell xm3 hx0
  have g3 := lift_cell gm3 hs
  have r4 := lift_cell xm4 hx0
  have g4 := lift_cell gm4 hs
  have r5 := lift_cell xm5 hx0
  have g5 := lift_cell gm5 hs
  have r6 := lift_cell xm6 hx0
  have g6 := lift_cell gm6 hs
  have Hsh := Lib.hid hs
  clear hs
  have Hx0h := Lib.hid hx0
  clear hx0
  have Hx1h := Lib.hid hx1
  clear hx1
  have Hgh := Lib.hid hg
  clear hg
  have Zxm0 := Lib.hid xm0
  clear xm0
  have Zxm1 := Lib.hid xm1
  clear xm1
  have Zxm2 := Lib.hid xm2
  clear xm2
  have Zxm3 := Lib.hid xm3
  clear xm3
  have Zxm4 := Lib.hid xm4
  clear xm4
  have Zxm5 := Lib.hid xm5
  clear xm5
  have Zxm6 := Lib.hid xm6
  clear xm6
  have Zgm0 := Lib.hid gm0
  clear gm0
  have Zgm1 := Lib.hid gm1
  clear gm1
  have Zgm2 := Lib.hid gm2
  clear gm2
  have Zgm3 := Lib.hid gm3
  clear gm3
  have Zgm4 := Lib.hid gm4
  clear gm4
  have Zgm5 := Lib.hid gm5
  clear gm5
  have Zgm6 := Lib.hid gm6
  clear gm6
  have Zxn0 := Lib.hid xn0
  clear xn0
  have Zxn1 := Lib.hid xn1
  clear xn1
  have Zxn2 := Lib.hid xn2
  clear xn2
  have Zgn0 := Lib.hid gn0
  clear gn0
  have Zgn1 := Lib.hid gn1
  clear gn1
  have Zgn2 := Lib.hid gn2
  clear gn2
  have Zys0 := Lib.hid ys0
  clear ys0
  have Zys1 := Lib.hid ys1
  clear ys1
  have Zys2 := Lib.hid ys2
  clear ys2
  have Zys3 := Lib.hid ys3
  clear ys3
  have Zys4 := Lib.hid ys4
  clear ys4
  have Zzg0 := Lib.hid zg0
  clear zg0
  have Zzg1 := Lib.hid zg1
  clear zg1
  have Zzg2 := Lib.hid zg2
  clear zg2
  have Zzg3 := Lib.hid zg3
  clear zg3
  have Zzg4 := Lib.hid zg4
  clear zg4
  refine wp_region_one (w0 := W7) 2 rfl (fun W u => ∃ a b c d, u = .agg #[.int .i64 m.degree, .int .i64 m.states, .int .i64 m.messages, a, b, c, d] ∧ MacIn W a b c d m) (fun W W' u h hs => by obtain ⟨a, b, c, d, rfl, h⟩ := h; exact ⟨a, b, c, d, rfl, h.keep hs⟩) (by kernel_rfl) (by kernel_rfl) (by kernel_rfl) (by simp) (since_refl _) ?_
  simp only [List.take_succ_cons, List.take_zero, List.drop_succ_cons, List.drop_zero]
  refine pflow_val (v := ?_) rfl ?_ ?_; rotate_left; (intro W hW; go_simp; with_reducible rfl)
  simp only [Act.put, List.setIfInBounds_toArray, List.set_cons_succ, List.set_cons_zero]
  refine pflow_val (v := ?_) rfl ?_ ?_; rotate_left; (intro W hW; go_simp; with_reducible rfl)
  simp only [Act.put, List.setIfInBounds_toArray, List.set_cons_succ, List.set_cons_zero]
  refine ⟨⟨rfl, fun W hW => ?_⟩, fun u => ?_⟩
  · unfold GivesAny
    go_simp
    refine (toMachine_any _ _ _ _  m W ((fun W hW => HBm.out W (Hsh.out.after hW)) W hW) Hszm.out).mono ?_
    rintro e W' ⟨a, b, c, d, rfl, ho, hb⟩
    exact ⟨_, rfl, ⟨a, b, c, d, rfl, ho⟩, hb⟩
  simp only [Act.put, List.setIfInBounds_toArray, List.set_cons_succ, List.set_cons_zero]
  (try simp only [List.getElem_toArray, List.getElem_cons_succ, List.getElem_cons_zero])
  (try simp only [Act.put, List.setIfInBounds_toArray, List.set_cons_succ, List.set_cons_zero])
  refine flow_op (.bool true) rfl (fun W hW => ?_) ?_
  · have hS := hW.1
    have hR := Lib.hid hW.2
    clear hW
    unfold Gives
    go_simp
    obtain ⟨a, b, c, d, hu, hN⟩ := hR.out
    rw [hu]
    refine (eqMachine_same _ _ _ _ _ _ _ _  m W ((fun W hW => (HXm.out W (Hx0h.out.after hW)).read) W hS) hN).mono ?_
    rintro e W' ⟨rfl, hb⟩
    exact ⟨rfl, hS.trans hb, a, b, c, d, rfl, hN.keep hb⟩
  simp only [Act.put, List.setIfInBounds_toArray, List.set_cons_succ, List.set_cons_zero]
  refine flow_val (v := .bool false) rfl (fun W hW => by go_simp) ?_
  simp only [Act.put, List.setIfInBounds_toArray, List.set_cons_succ, List.set_cons_zero]
  intro W90 hW9 _
  clear r0 g0 r1 g1 r2 g2 r3 g3 r4 g4 r5 g5 r6 g6
  have hs := Since.after Hsh.out hW9
  clear Hsh
  have hx0 := Since.after Hx0h.out hW9
  clear Hx0h
  have hx1 := Since.after Hx1h.out hW9
  clear Hx1h
  have hg := Since.after Hgh.out hW9
  clear Hgh
  clear hW9
  have xm0 := Zxm0.out
  clear Zxm0
  have xm1 := Zxm1.out
  clear Zxm1
  have xm2 := Zxm2.out
  clear Zxm2
  have xm3 := Zxm3.out
  clear Zxm3
  have xm4 := Zxm4.out
  clear Zxm4
  have xm5 := Zxm5.out
  clear Zxm5
  have xm6 := Zxm6.out
  clear Zxm6
  have gm0 := Zgm0.out
  clear Zgm0
  have gm1 := Zgm1.out
  clear Zgm1
  have gm2 := Zgm2.out
  clear Zgm2
  have gm3 := Zgm3.out
  clear Zgm3
  have gm4 := Zgm4.out
  clear Zgm4
  have gm5 := Zgm5.out
  clear Zgm5
  have gm6 := Zgm6.out
  clear Zgm6
  have xn0 := Zxn0.out
  clear Zxn0
  have xn1 := Zxn1.out
  clear Zxn1
  have xn2 := Zxn2.out
  clear Zxn2
  have gn0 := Zgn0.out
  clear Zgn0
  have gn1 := Zgn1.out
  clear Zgn1
  have gn2 := Zgn2.out
  clear Zgn2
  have ys0 := Zys0.out
  clear Zys0
  have ys1 := Zys1.out
  clear Zys1
  have ys2 := Zys2.out
  clear Zys2
  have ys3 := Zys3.out
  clear Zys3
  have ys4 := Zys4.out
  clear Zys4
  have zg0 := Zzg0.out
  clear Zzg0
  have zg1 := Zzg1.out
  clear Zzg1
  have zg2 := Zzg2.out
  clear Zzg2
  have zg3 := Zzg3.out
  clear Zzg3
  have zg4 := Zzg4.out
  clear Zzg4
  go_upto_region 16 with (fail)
  have r0 := lift_cell xn0 hx1
  have g0 := lift_cell gn0 hs
  have r1 := lift_cell xn1 hx1
  have g1 := lift_cell gn1 hs
  have r2 := lift_cell xn2 hx1
  have g2 := lift_cell gn2 hs
  have Hsh := Lib.hid hs
  clear hs
  have Hx0h := Lib.hid hx0
  clear hx0
  have Hx1h := Lib.hid hx1
  clear hx1
  have Hgh := Lib.hid hg
  clear hg
  have Zxm0 := Lib.hid xm0
  clear xm0
  have Zxm1 := Lib.hid xm1
  clear xm1
  have Zxm2 := Lib.hid xm2
  clear xm2
  have Zxm3 := Lib.hid xm3
  clear xm3
  have Zxm4 := Lib.hid xm4
  clear xm4
  have Zxm5 := Lib.hid xm5
  clear xm5
  have Zxm6 := Lib.hid xm6
  clear xm6
  have Zgm0 := Lib.hid gm0
  clear gm0
  have Zgm1 := Lib.hid gm1
  clear gm1
  have Zgm2 := Lib.hid gm2
  clear gm2
  have Zgm3 := Lib.hid gm3
  clear gm3
  have Zgm4 := Lib.hid gm4
  clear gm4
  have Zgm5 := Lib.hid gm5
  clear gm5
  have Zgm6 := Lib.hid gm6
  clear gm6
  have Zxn0 := Lib.hid xn0
  clear xn0
  have Zxn1 := Lib.hid xn1
  clear xn1
  have Zxn2 := Lib.hid xn2
  clear xn2
  have Zgn0 := Lib.hid gn0
  clear gn0
  have Zgn1 := Lib.hid gn1
  clear gn1
  have Zgn2 := Lib.hid gn2
  clear gn2
  have Zys0 := Lib.hid ys0
  clear ys0
  have Zys1 := Lib.hid ys1
  clear ys1
  have Zys2 := Lib.hid ys2
  clear ys2
  have Zys3 := Lib.hid ys3
  clear ys3
  have Zys4 := Lib.hid ys4
  clear ys4
  have Zzg0 := Lib.hid zg0
  clear zg0
  have Zzg1 := Lib.hid zg1
  clear zg1
  have Zzg2 := Lib.hid zg2
  clear zg2
  have Zzg3 := Lib.hid zg3
  clear zg3
  have Zzg4 := Lib.hid zg4
  clear zg4
  refine wp_region_one (w0 := W90) 2 rfl (fun W u => ∃ a b c, u = .agg #[a, b, c] ∧ NetIn W a b c n) (fun W W' u h hs => by obtain ⟨a, b, c, rfl, h⟩ := h; exact ⟨a, b, c, rfl, h.keep hs⟩) (by kernel_rfl) (by kernel_rfl) (by kernel_rfl) (by simp) (since_refl _) ?_
  simp only [List.take_succ_cons, List.take_zero, List.drop_succ_cons, List.drop_zero]
  refine pflow_val (v := ?_) rfl ?_ ?_; rotate_left; (intro W hW; go_simp; with_reducible rfl)
  simp only [Act.put, List.setIfInBounds_toArray, List.set_cons_succ, List.set_cons_zero]
  refine pflow_val (v := ?_) rfl ?_ ?_; rotate_left; (intro W hW; go_simp; with_reducible rfl)
  simp only [Act.put, List.setIfInBounds_toArray, List.set_cons_succ, List.set_cons_zero]
  refine ⟨⟨rfl, fun W hW => ?_⟩, fun u => ?_⟩
  · unfold GivesAny
    go_simp
    refine (toNetwork_any _ _ _  n W ((fun W hW => HBn.out W (Hsh.out.after hW)) W hW) Hszn.out).mono ?_
    rintro e W' ⟨a, b, c, S, rfl, ho, hb⟩
    exact ⟨_, rfl, ⟨a, b, c, rfl, ho.read⟩, hb⟩
  simp only [Act.put, List.setIfInBounds_toArray, List.set_cons_succ, List.set_cons_zero]
  (try simp only [List.getElem_toArray, List.getElem_cons_succ, List.getElem_cons_zero])
  (try simp only [Act.put, List.setIfInBounds_toArray, List.set_cons_succ, List.set_cons_zero])
  refine flow_op (.bool true) rfl (fun W hW => ?_) ?_
  · have hS := hW.1
    have hR := Lib.hid hW.2
    clear hW
    unfold Gives
    go_simp
    obtain ⟨a, b, c, hu, hN⟩ := hR.out
    rw [hu]
    refine (eqNetwork_same _ _ _ _ _ _  n W ((fun W hW => (HXn.out W (Hx1h.out.after hW)).read) W hS) hN).mono ?_
    rintro e W' ⟨rfl, hb⟩
    exact ⟨rfl, hS.trans hb, a, b, c, rfl, hN.keep hb⟩
  simp only [Act.put, List.setIfInBounds_toArray, List.set_cons_succ, List.set_cons_zero]
  refine flow_val (v := .bool false) rfl (fun W hW => by go_simp) ?_
  simp only [Act.put, List.setIfInBounds_toArray, List.set_cons_succ, List.set_cons_zero]
  intro W91 hW9 _
  clear r0 g0 r1 g1 r2 g2
  have hs := Since.after Hsh.out hW9
  clear Hsh
  have hx0 := Since.after Hx0h.out hW9
  clear Hx0h
  have hx1 := Since.after Hx1h.out hW9
  clear Hx1h
  have hg := Since.after Hgh.out hW9
  clear Hgh
  clear hW9
  have xm0 := Zxm0.out
  clear Zxm0
  have xm1 := Zxm1.out
  clear Zxm1
  have xm2 := Zxm2.out
  clear Zxm2
  have xm3 := Zxm3.out
  clear Zxm3
  have xm4 := Zxm4.out
  clear Zxm4
  have xm5 := Zxm5.out
  clear Zxm5
  have xm6 := Zxm6.out
  clear Zxm6
  have gm0 := Zgm0.out
  clear Zgm0
  have gm1 := Zgm1.out
  clear Zgm1
  have gm2 := Zgm2.out
  clear Zgm2
  have gm3 := Zgm3.out
  clear Zgm3
  have gm4 := Zgm4.out
  clear Zgm4
  have gm5 := Zgm5.out
  clear Zgm5
  have gm6 := Zgm6.out
  clear Zgm6
  have xn0 := Zxn0.out
  clear Zxn0
  have xn1 := Zxn1.out
  clear Zxn1
  have xn2 := Zxn2.out
  clear Zxn2
  have gn0 := Zgn0.out
  clear Zgn0
  have gn1 := Zgn1.out
  clear Zgn1
  have gn2 := Zgn2.out
  clear Zgn2
  have ys0 := Zys0.out
  clear Zys0
  have ys1 := Zys1.out
  clear Zys1
  have ys2 := Zys2.out
  clear Zys2
  have ys3 := Zys3.out
  clear Zys3
  have ys4 := Zys4.out
  clear Zys4
  have zg0 := Zzg0.out
  clear Zzg0
  have zg1 := Zzg1.out
  clear Zzg1
  have zg2 := Zzg2.out
  clear Zzg2
  have zg3 := Zzg3.out
  clear Zzg3
  have zg4 := Zzg4.out
  clear Zzg4
  have Om := Lib.hid (HXm.out _ hx0)
  clear HXm
  have On := Lib.hid (HXn.out _ hx1)
  clear HXn
  have Og := Lib.hid (HG.out _ hg)
  clear HG
  replace xm0 := lift_cell xm0 hx0
  replace xm1 := lift_cell xm1 hx0
  replace xm2 := lift_cell xm2 hx0
  replace xm3 := lift_cell xm3 hx0
  replace xm4 := lift_cell xm4 hx0
  replace xm5 := lift_cell xm5 hx0
  replace xm6 := lift_cell xm6 hx0
  replace xn0 := lift_cell xn0 hx1
  replace xn1 := lift_cell xn1 hx1
  replace xn2 := lift_cell xn2 hx1
  replace zg0 := lift_cell zg0 hg
  replace zg1 := lift_cell zg1 hg
  replace zg2 := lift_cell zg2 hg
  replace zg3 := lift_cell zg3 hg
  replace zg4 := lift_cell zg4 hg
  clear hx0 hx1 hg
  have hc : Since W91 W91 := since_refl _
  obtain ⟨kq0, hkq⟩ : ∃ z, z = 1 + cntMac m := ⟨_, rfl⟩
  have Hkq0 := Lib.hid hkq
  clear hkq
  have Hkb0 : Hid (kq0 ≤ 4194305) := by
    show _ ≤ _
    have h1 := Hkq0.out
    have h2 : cntMac m ≤ 4194304 := by have := Hszm.out; unfold szMac szII szCl at this; unfold cntMac cntCl; omega
    
    omega
  go_wp2_with fail
  refine (markMachine_anyS _ _ _ _ m 1 _ _ Sm Om.out (by have := Hkb0.out; have := Hkq0.out; omega)).mono ?_
  rw [← Hkq0.out]
  rintro e Wm0 ⟨rfl, hom, hon⟩
  replace hs : Since WBs Wm0 := Below.trans hs (Only.below hon _ (Since.below hs).size (fun j hj => by have := (HRm.out j hj).1; have := Ho0.out; have := Ho1.out; have := Hgz.out; omega))
  have O' := Lib.hid (OwnNet.stable On.out (fun j hj => hon.block j (On.out.range j hj).2 (fun hs' => by have := (HRm.out j hs'); have := (HRn.out j hj); have := Ho0.out; have := Ho1.out; have := Hgz.out; omega)))
  clear On
  have On := O'
  clear O'
  have hnb : W41.heap.size ∉ Sm := fun hj => by have := (HRm.out _ hj).2; have := Ho0.out; have := Ho1.out; have := Hgz.out; omega
  have y' := have_cell (hon.cell hnb (xn0 _ hc))
  clear xn0
  have xn0 := y'
  clear y'
  have y' := have_cell (hon.cell hnb (xn1 _ hc))
  clear xn1
  have xn1 := y'
  clear y'
  have y' := have_cell (hon.cell hnb (xn2 _ hc))
  clear xn2
  have xn2 := y'
  clear y'
  clear hnb
  have hnb : W6.heap.size ∉ Sm := fun hj => by have := (HRm.out _ hj).2; have := Ho0.out; have := Ho1.out; have := Hgz.out; omega
  have y' := have_cell (hon.cell hnb (zg0 _ hc))
  clear zg0
  have zg0 := y'
  clear y'
  have y' := have_cell (hon.cell hnb (zg1 _ hc))
  clear zg1
  have zg1 := y'
  clear y'
  have y' := have_cell (hon.cell hnb (zg2 _ hc))
  clear zg2
  have zg2 := y'
  clear y'
  have y' := have_cell (hon.cell hnb (zg3 _ hc))
  clear zg3
  have zg3 := y'
  clear y'
  have y' := have_cell (hon.cell hnb (zg4 _ hc))
  clear zg4
  have zg4 := y'
  clear y'
  clear hnb
  have O' := Lib.hid (OwnAs.stable Og.out (fun j hj => hon.block j (OwnAs.range Og.out j hj).2 (fun hs' => by have := (HRm.out j hs'); have := (HRg.out j hj); have := Ho0.out; have := Ho1.out; have := Hgz.out; omega)))
  clear Og
  have Og := O'
  clear O'
  clear xm0 xm1 xm2 xm3 xm4 xm5 xm6
  clear hc
  have hc : Since Wm0 Wm0 := since_refl _
  clear hom hon Om
  obtain ⟨kq1, hkq⟩ : ∃ z, z = kq0 + cntNet n := ⟨_, rfl⟩
  have Hkq1 := Lib.hid hkq
  clear hkq
  have Hkb1 : Hid (kq1 ≤ 8388609) := by
    show _ ≤ _
    have h1 := Hkq1.out
    have h2 : cntNet n ≤ 4194304 := by have := cnt_sz Hszn.out; omega
    have h3 := Hkb0.out
    omega
  have hkn : ((kq1 : Int) < 0) = False := by simp
  go_wp2_with fail
  refine (markNetwork_any _ _ _ n kq0 _ _ Sn On.out (by have := Hkb1.out; have := Hkq1.out; omega)).mono ?_
  rw [← Hkq1.out]
  rintro e Wm1 ⟨rfl, hom, hon⟩
  replace hs : Since WBs Wm1 := Below.trans hs (Only.below hon _ (Since.below hs).size (fun j hj => by have := (HRn.out j hj).1; have := Ho0.out; have := Ho1.out; have := Hgz.out; omega))
  have hnb : W6.heap.size ∉ Sn := fun hj => by have := (HRn.out _ hj).2; have := Ho0.out; have := Ho1.out; have := Hgz.out; omega
  have y' := have_cell (hon.cell hnb (zg0 _ hc))
  clear zg0
  have zg0 := y'
  clear y'
  have y' := have_cell (hon.cell hnb (zg1 _ hc))
  clear zg1
  have zg1 := y'
  clear y'
  have y' := have_cell (hon.cell hnb (zg2 _ hc))
  clear zg2
  have zg2 := y'
  clear y'
  have y' := have_cell (hon.cell hnb (zg3 _ hc))
  clear zg3
  have zg3 := y'
  clear y'
  have y' := have_cell (hon.cell hnb (zg4 _ hc))
  clear zg4
  have zg4 := y'
  clear y'
  clear hnb
  have O' := Lib.hid (OwnAs.stable Og.out (fun j hj => hon.block j (OwnAs.range Og.out j hj).2 (fun hs' => by have := (HRn.out j hs'); have := (HRg.out j hj); have := Ho0.out; have := Ho1.out; have := Hgz.out; omega)))
  clear Og
  have Og := O'
  clear O'
  clear xn0 xn1 xn2
  clear hc
  have hc : Since Wm1 Wm1 := since_refl _
  clear hom hon On
  go_wp2_with fail
  refine (eqAsyncState_same _ _ _ _ _ _ _ _ _ _ rs _ (Og.out.read) (HQs.out _ hs)).mono ?_
  rintro e W20 ⟨rfl, hb⟩
  have O' := Lib.hid (OwnAs.keep Og.out hb)
  clear Og
  have Og := O'
  clear O'
  replace hs := Since.trans hs hb
  replace hc := Since.trans hc hb
  clear hb
  replace zg0 := lift_cell zg0 hc
  replace zg1 := lift_cell zg1 hc
  replace zg2 := lift_cell zg2 hc
  replace zg3 := lift_cell zg3 hc
  replace zg4 := lift_cell zg4 hc
  clear hc
  have hc : Since W20 W20 := since_refl _
  obtain ⟨km, hkm⟩ : ∃ z, z = 1 + cntAs rs := ⟨_, rfl⟩
  have Hkm := Lib.hid hkm
  have hkmx : ((km : Int) < 0) = False := by simp
  clear hkm
  go_wp2_with fail
  refine (markAsyncState_any _ _ _ _ _ rs 1 _ _ Sg Og.out (by have := Hlens.out; omega)).mono ?_
  rw [← Hkm.out]
  rintro e W21 ⟨rfl, hom, hon⟩
  replace hs : Since WBs W21 := Below.trans hs (Only.below hon _ (Since.below hs).size (fun j hj => by have := (HRg.out j hj).1; have := Ho0.out; have := Ho1.out; have := Hgz.out; omega))
  have HM := Lib.hid (show ∀ X, Since W21 X → AsIn X (.slice G0 rs.rounds.length zG0) (.slice G1 rs.before.length zG1) (.slice G2 rs.now.length zG2) (.slice G3 rs.slots.length zG3) (.slice G4 rs.flight.length zG4) (mkAs 1 rs) from fun X hX => by have := (hom.keep hX).read; exact this)
  have hnb : W6.heap.size ∉ Sg := fun hj => by have := (HRg.out _ hj).2; omega
  have y' := have_cell (hon.cell hnb (zg0 _ hc))
  clear zg0
  have zg0 := y'
  clear y'
  have y' := have_cell (hon.cell hnb (zg1 _ hc))
  clear zg1
  have zg1 := y'
  clear y'
  have y' := have_cell (hon.cell hnb (zg2 _ hc))
  clear zg2
  have zg2 := y'
  clear y'
  have y' := have_cell (hon.cell hnb (zg3 _ hc))
  clear zg3
  have zg3 := y'
  clear y'
  have y' := have_cell (hon.cell hnb (zg4 _ hc))
  clear zg4
  have zg4 := y'
  clear y'
  clear hnb
  have hm : Since W21 W21 := since_refl _
  clear hom hon Og hc
  go_wp2_with fail
  refine (heldAsyncState_any _ _ _ _ _ rs 1 _ (HM.out _ hm) (by have := Hlens.out; omega)).mono ?_
  rw [← Hkm.out]
  rintro e W22 ⟨rfl, hb⟩
  replace hs := Since.trans hs hb
  replace hm := Since.trans hm hb
  clear hb
  replace gm0 := lift_cell gm0 hs
  replace gm1 := lift_cell gm1 hs
  replace gm2 := lift_cell gm2 hs
  replace gm3 := lift_cell gm3 hs
  replace gm4 := lift_cell gm4 hs
  replace gm5 := lift_cell gm5 hs
  replace gm6 := lift_cell gm6 hs
  replace gn0 := lift_cell gn0 hs
  replace gn1 := lift_cell gn1 hs
  replace gn2 := lift_cell gn2 hs
  replace ys0 := lift_cell ys0 hs
  replace zg0 := lift_cell zg0 hm
  replace ys1 := lift_cell ys1 hs
  replace zg1 := lift_cell zg1 hm
  replace ys2 := lift_cell ys2 hs
  replace zg2 := lift_cell zg2 hm
  replace ys3 := lift_cell ys3 hs
  replace zg3 := lift_cell zg3 hm
  replace ys4 := lift_cell ys4 hs
  replace zg4 := lift_cell zg4 hm
  go_upto_region 31 with (fail)
  have Hs1 := Lib.hid hs
  have Hm1 := Lib.hid hm
  clear hs hm
  have hO : ∀ (i : Nat) (u : Value) (W W' : World) (lo hi : Nat), (oRs W22.heap.size rs rr1 4) i u W lo hi → Since W W' → (oRs W22.heap.size rs rr1 4) i u W' lo hi := fun i u W W' lo hi h hs => oRs.keep h hs
  refine wp_region_dstl (w0 := W22) [fun V W => V 0 = .agg #[.int .i64 m.degree, .int .i64 m.states, .int .i64 m.messages, .slice Ma0 m.start.length mza0, .slice Ma1 m.send.length mza1, .slice Ma2 m.clauses.length mza2, .slice Ma3 m.output.length mza3], fun V W => ∃ y0 y1 y2 y3, V 1 = .agg #[.int .i64 m.degree, .int .i64 m.states, .int .i64 m.messages, y0, y1, y2, y3] ∧ MacIn W y0 y1 y2 y3 m, fun V W => V 2 = .agg #[.slice Na0 n.ends.length nza0, .slice Na1 n.ids.length nza1, .slice Na2 n.inputs.length nza2], fun V W => ∃ y0 y1 y2, V 3 = .agg #[y0, y1, y2] ∧ NetIn W y0 y1 y2 n, fun V W => ∃ x, V 4 = .tuple #[x, .bool rr1] ∧ AsV rs x, fun V W => V 5 = V 4 ∧ ∃ x, V 5 = .tuple #[x, .bool rr1] ∧ AsV rs x, fun V W => V 5 = .tuple #[V 6, .bool rr1] ∧ AsV rs (V 6), fun V W => V 7 = .bool rr1, fun V W => ∃ b, V 8 = .pointer (some ⟨b, 0, none⟩) ∧ W.heap[b]? = some (.cells nil5 34 (0, 0)), fun V W => True] (GI [4, 8] (oRs W22.heap.size rs rr1 4)) 10 9 [7] (fun V W => stA5 (V 8) (V 6) W) ?_ ?_ (fun V W => trivial) (by kernel_rfl) (by kernel_rfl) (by kernel_rfl) (by kernel_rfl) (by kernel_rfl) (since_refl _) (fun V W _ => GI.none _ _ _ _) ?_ ?_ ?_ ?_
  · intro r hr V W W' h hs
    simp only [List.mem_cons, List.not_mem_nil, or_false] at hr
    rcases hr with rfl | rfl | rfl | rfl | rfl | rfl | rfl | rfl | rfl | rfl
    · exact h
    · exact (let ⟨y0, y1, y2, y3, h1, h2⟩ := h; ⟨y0, y1, y2, y3, h1, h2.keep hs.below⟩)
    · exact h
    · exact (let ⟨y0, y1, y2, h1, h2⟩ := h; ⟨y0, y1, y2, h1, h2.keep hs.below⟩)
    · exact (h)
    · exact (h)
    · exact (h)
    · exact h
    · exact (⟨h.choose, h.choose_spec.1, (hs.below.block _ (Array.getElem?_eq_some_iff.1 h.choose_spec.2).1).trans h.choose_spec.2⟩)
    · exact (trivial)
  · intro j r hj V V' W h1 h2 h
    match j, hj with
    | 0, hj =>
      obtain rfl := Option.some.inj hj
      have h3 : V 0 = .agg #[.int .i64 m.degree, .int .i64 m.states, .int .i64 m.messages, .slice Ma0 m.start.length mza0, .slice Ma1 m.send.length mza1, .slice Ma2 m.clauses.length mza2, .slice Ma3 m.output.length mza3] := h
      show V' 0 = .agg #[.int .i64 m.degree, .int .i64 m.states, .int .i64 m.messages, .slice Ma0 m.start.length mza0, .slice Ma1 m.send.length mza1, .slice Ma2 m.clauses.length mza2, .slice Ma3 m.output.length mza3]
      rw [← h1]
      exact h3
    | 1, hj =>
      obtain rfl := Option.some.inj hj
      have h3 : ∃ y0 y1 y2 y3, V 1 = .agg #[.int .i64 m.degree, .int .i64 m.states, .int .i64 m.messages, y0, y1, y2, y3] ∧ MacIn W y0 y1 y2 y3 m := h
      show ∃ y0 y1 y2 y3, V' 1 = .agg #[.int .i64 m.degree, .int .i64 m.states, .int .i64 m.messages, y0, y1, y2, y3] ∧ MacIn W y0 y1 y2 y3 m
      rw [← h1]
      exact h3
    | 2, hj =>
      obtain rfl := Option.some.inj hj
      have h3 : V 2 = .agg #[.slice Na0 n.ends.length nza0, .slice Na1 n.ids.length nza1, .slice Na2 n.inputs.length nza2] := h
      show V' 2 = .agg #[.slice Na0 n.ends.length nza0, .slice Na1 n.ids.length nza1, .slice Na2 n.inputs.length nza2]
      rw [← h1]
      exact h3
    | 3, hj =>
      obtain rfl := Option.some.inj hj
      have h3 : ∃ y0 y1 y2, V 3 = .agg #[y0, y1, y2] ∧ NetIn W y0 y1 y2 n := h
      show ∃ y0 y1 y2, V' 3 = .agg #[y0, y1, y2] ∧ NetIn W y0 y1 y2 n
      rw [← h1]
      exact h3
    | 4, hj =>
      obtain rfl := Option.some.inj hj
      have h3 : ∃ x, V 4 = .tuple #[x, .bool rr1] ∧ AsV rs x := h
      show ∃ x, V' 4 = .tuple #[x, .bool rr1] ∧ AsV rs x
      rw [← h1]
      exact h3
    | 5, hj =>
      obtain rfl := Option.some.inj hj
      have h24 := h2 _ rfl 4 (by decide +kernel)
      have h3 : V 5 = V 4 ∧ ∃ x, V 5 = .tuple #[x, .bool rr1] ∧ AsV rs x := h
      show V' 5 = V' 4 ∧ ∃ x, V' 5 = .tuple #[x, .bool rr1] ∧ AsV rs x
      rw [← h1, ← h24]
      exact h3
    | 6, hj =>
      obtain rfl := Option.some.inj hj
      have h25 := h2 _ rfl 5 (by decide +kernel)
      have h3 : V 5 = .tuple #[V 6, .bool rr1] ∧ AsV rs (V 6) := h
      show V' 5 = .tuple #[V' 6, .bool rr1] ∧ AsV rs (V' 6)
      rw [← h1, ← h25]
      exact h3
    | 7, hj =>
      obtain rfl := Option.some.inj hj
      have h3 : V 7 = .bool rr1 := h
      show V' 7 = .bool rr1
      rw [← h1]
      exact h3
    | 8, hj =>
      obtain rfl := Option.some.inj hj
      have h3 : ∃ b, V 8 = .pointer (some ⟨b, 0, none⟩) ∧ W.heap[b]? = some (.cells nil5 34 (0, 0)) := h
      show ∃ b, V' 8 = .pointer (some ⟨b, 0, none⟩) ∧ W.heap[b]? = some (.cells nil5 34 (0, 0))
      rw [← h1]
      exact h3
    | 9, hj =>
      obtain rfl := Option.some.inj hj
      trivial
    | j + 10, hj => simp at hj
  · intro i o hi his ho D V W hW hd hnD hGG
    match i, ho with
    | 0, ho =>
      cases ho
      clear hd hi his
      refine ⟨rfl, ?_⟩
      simp only [putAll, show List.range 10 = [0, 1, 2, 3, 4, 5, 6, 7, 8, 9] from rfl, List.getElem?_toArray, List.getElem?_cons_succ, List.getElem?_cons_zero]
      (try simp only [Act.put, List.setIfInBounds_toArray, List.set_cons_succ, List.set_cons_zero])
      refine dstep_val (u := .agg #[.int .i64 m.degree, .int .i64 m.states, .int .i64 m.messages, .slice Ma0 m.start.length mza0, .slice Ma1 m.send.length mza1, .slice Ma2 m.clauses.length mza2, .slice Ma3 m.output.length mza3]) (W' := W) (by go_simp) ⟨since_refl _, ?_, GI.skip hO hGG (since_refl _) (by decide) _⟩
      exact upd_self V 0 _
    | 1, ho =>
      cases ho
      have e0 : V 0 = .agg #[.int .i64 m.degree, .int .i64 m.states, .int .i64 m.messages, .slice Ma0 m.start.length mza0, .slice Ma1 m.send.length mza1, .slice Ma2 m.clauses.length mza2, .slice Ma3 m.output.length mza3] := hd 0 (by decide +kernel)
      clear hd hi his
      refine ⟨rfl, ?_⟩
      simp only [putAll, show List.range 10 = [0, 1, 2, 3, 4, 5, 6, 7, 8, 9] from rfl, List.getElem?_toArray, List.getElem?_cons_succ, List.getElem?_cons_zero]
      (try simp only [Act.put, List.setIfInBounds_toArray, List.set_cons_succ, List.set_cons_zero])
      have HG := Lib.hid hGG
      have HO := Lib.hid hO
      clear hGG hO
      unfold DStep
      go_simp
      (with_reducible refine (toMachine_ownM _ _ _ _ m _ (HBm.out W (Hs1.out.after hW)) Hszm.out).mono ?_)
      rintro e W1 ⟨u0, u1, u2, u3, S, rfl, ho, hb⟩
      refine ⟨_, rfl, hb, ⟨_, _, _, _, upd_self V 1 _, ho.read⟩, GI.skip HO.out HG.out hb (by decide) _⟩
    | 2, ho =>
      cases ho
      clear hd hi his
      refine ⟨rfl, ?_⟩
      simp only [putAll, show List.range 10 = [0, 1, 2, 3, 4, 5, 6, 7, 8, 9] from rfl, List.getElem?_toArray, List.getElem?_cons_succ, List.getElem?_cons_zero]
      (try simp only [Act.put, List.setIfInBounds_toArray, List.set_cons_succ, List.set_cons_zero])
      refine dstep_val (u := .agg #[.slice Na0 n.ends.length nza0, .slice Na1 n.ids.length nza1, .slice Na2 n.inputs.length nza2]) (W' := W) (by go_simp) ⟨since_refl _, ?_, GI.skip hO hGG (since_refl _) (by decide) _⟩
      exact upd_self V 2 _
    | 3, ho =>
      cases ho
      have e2 : V 2 = .agg #[.slice Na0 n.ends.length nza0, .slice Na1 n.ids.length nza1, .slice Na2 n.inputs.length nza2] := hd 2 (by decide +kernel)
      clear hd hi his
      refine ⟨rfl, ?_⟩
      simp only [putAll, show List.range 10 = [0, 1, 2, 3, 4, 5, 6, 7, 8, 9] from rfl, List.getElem?_toArray, List.getElem?_cons_succ, List.getElem?_cons_zero]
      (try simp only [Act.put, List.setIfInBounds_toArray, List.set_cons_succ, List.set_cons_zero])
      have HG := Lib.hid hGG
      have HO := Lib.hid hO
      clear hGG hO
      unfold DStep
      go_simp
      (with_reducible refine (toNetwork_any _ _ _ n _ (HBn.out W (Hs1.out.after hW)) Hszn.out).mono ?_)
      rintro e W1 ⟨u0, u1, u2, S, rfl, ho, hb⟩
      refine ⟨_, rfl, hb, ⟨_, _, _, upd_self V 3 _, ho.read⟩, GI.skip HO.out HG.out hb (by decide) _⟩
    | 4, ho =>
      cases ho
      have e1 : ∃ y0 y1 y2 y3, V 1 = .agg #[.int .i64 m.degree, .int .i64 m.states, .int .i64 m.messages, y0, y1, y2, y3] ∧ MacIn W y0 y1 y2 y3 m := hd 1 (by decide +kernel)
      have e3 : ∃ y0 y1 y2, V 3 = .agg #[y0, y1, y2] ∧ NetIn W y0 y1 y2 n := hd 3 (by decide +kernel)
      clear hd hi his
      refine ⟨rfl, ?_⟩
      simp only [putAll, show List.range 10 = [0, 1, 2, 3, 4, 5, 6, 7, 8, 9] from rfl, List.getElem?_toArray, List.getElem?_cons_succ, List.getElem?_cons_zero]
      (try simp only [Act.put, List.setIfInBounds_toArray, List.set_cons_succ, List.set_cons_zero])
      obtain ⟨my0, my1, my2, my3, hvm, him⟩ := e1
      obtain ⟨ny0, ny1, ny2, hvn, hin⟩ := e3
      have HG := Lib.hid hGG
      have HO := Lib.hid hO
      clear hGG hO
      unfold DStep
      go_simp
      (try rw [hvm, hvn])
      (with_reducible refine (Himpl.out Hszm.out Hszn.out _ _ _ _ _ him _ _ _ hin).mono ?_)
      rintro e W1 ⟨u0, u1, u2, u3, u4, S, rfl, ho, hb⟩
      refine ⟨_, rfl, hb, ⟨_, upd_self V 4 _, AsV.of ho.read⟩, GI.add HO.out HG.out hb hnD ?_⟩
      exact oRs.call hW.below.size ho
    | 5, ho =>
      cases ho
      have e4 : ∃ x, V 4 = .tuple #[x, .bool rr1] ∧ AsV rs x := hd 4 (by decide +kernel)
      clear hd hi his
      refine ⟨rfl, ?_⟩
      simp only [putAll, show List.range 10 = [0, 1, 2, 3, 4, 5, 6, 7, 8, 9] from rfl, List.getElem?_toArray, List.getElem?_cons_succ, List.getElem?_cons_zero]
      (try simp only [Act.put, List.setIfInBounds_toArray, List.set_cons_succ, List.set_cons_zero])
      obtain ⟨x, hx, hx2⟩ := e4
      refine dstep_val (u := .tuple #[x, .bool rr1]) (W' := W) (by clear hGG hO; rw [hx]; go_simp) ⟨since_refl _, ⟨?_, _, upd_self V 5 _, hx2⟩, GI.skip hO hGG (since_refl _) (by decide) _⟩
      show upd V 5 _ 5 = upd V 5 _ 4
      rw [upd_self, upd_ne V _ (show (4 : Nat) ≠ 5 by decide)]
      exact hx.symm
    | 6, ho =>
      cases ho
      have e5 : V 5 = V 4 ∧ ∃ x, V 5 = .tuple #[x, .bool rr1] ∧ AsV rs x := hd 5 (by decide +kernel)
      clear hd hi his
      refine ⟨rfl, ?_⟩
      simp only [putAll, show List.range 10 = [0, 1, 2, 3, 4, 5, 6, 7, 8, 9] from rfl, List.getElem?_toArray, List.getElem?_cons_succ, List.getElem?_cons_zero]
      (try simp only [Act.put, List.setIfInBounds_toArray, List.set_cons_succ, List.set_cons_zero])
      obtain ⟨_, x, hx, hx2⟩ := e5
      refine dstep_val (u := x) (W' := W) (by clear hGG hO; rw [hx]; go_simp) ⟨since_refl _, ⟨?_, ?_⟩, GI.skip hO hGG (since_refl _) (by decide) _⟩
      · (show upd V 6 _ 5 = .tuple #[upd V 6 _ 6, _]; rw [upd_self, upd_ne V _ (show (5 : Nat) ≠ 6 by decide)]; exact hx)
      · (rw [upd_self]; exact hx2)
    | 7, ho =>
      cases ho
      have e5 : V 5 = V 4 ∧ ∃ x, V 5 = .tuple #[x, .bool rr1] ∧ AsV rs x := hd 5 (by decide +kernel)
      clear hd hi his
      refine ⟨rfl, ?_⟩
      simp only [putAll, show List.range 10 = [0, 1, 2, 3, 4, 5, 6, 7, 8, 9] from rfl, List.getElem?_toArray, List.getElem?_cons_succ, List.getElem?_cons_zero]
      (try simp only [Act.put, List.setIfInBounds_toArray, List.set_cons_succ, List.set_cons_zero])
      obtain ⟨_, x, hx, hx2⟩ := e5
      rw [hx]
      refine dstep_val (u := .bool rr1) (W' := W) (by go_simp) ⟨since_refl _, ?_, GI.skip hO hGG (since_refl _) (by decide) _⟩
      exact upd_self V 7 _
    | 8, ho =>
      cases ho
      clear hd hi his
      refine ⟨rfl, ?_⟩
      simp only [putAll, show List.range 10 = [0, 1, 2, 3, 4, 5, 6, 7, 8, 9] from rfl, List.getElem?_toArray, List.getElem?_cons_succ, List.getElem?_cons_zero]
      (try simp only [Act.put, List.setIfInBounds_toArray, List.set_cons_succ, List.set_cons_zero])
      refine dstep_val (u := .pointer (some ⟨W.heap.size, 0, none⟩)) (W' := W.alloc (.cells nil5 34)) (by clear hGG hO; unfold nil5; go_simp) ⟨since_alloc _ (since_refl _), ⟨_, upd_self V 8 _, heap_alloc_new W _⟩, GI.add hO hGG (since_alloc _ (since_refl _)) hnD ?_⟩
      exact oRs.box W (by decide) hW.below.size
    | 9, ho =>
      exact absurd rfl his
    | i + 10, ho => omega
  · intro i o hi his hlate ho V W hW hd
    match i, ho with
    | 0, ho =>
      exact absurd hlate (by decide)
    | 1, ho =>
      exact absurd hlate (by decide)
    | 2, ho =>
      exact absurd hlate (by decide)
    | 3, ho =>
      exact absurd hlate (by decide)
    | 4, ho =>
      exact absurd hlate (by decide)
    | 5, ho =>
      exact absurd hlate (by decide)
    | 6, ho =>
      exact absurd hlate (by decide)
    | 7, ho =>
      cases ho
      have e5 : V 5 = V 4 ∧ ∃ x, V 5 = .tuple #[x, .bool rr1] ∧ AsV rs x := hd 5 (by decide +kernel)
      clear hd hi his hlate
      refine ⟨rfl, .bool rr1, fun X => ?_, upd_self V 7 _, fun X => by simp [upd], fun D hnD hGG => GI.skip hO hGG (since_refl _) (by decide) _⟩
      simp only [putAll, show List.range 10 = [0, 1, 2, 3, 4, 5, 6, 7, 8, 9] from rfl, List.getElem?_toArray, List.getElem?_cons_succ, List.getElem?_cons_zero]
      (try simp only [Act.put, List.setIfInBounds_toArray, List.set_cons_succ, List.set_cons_zero])
      obtain ⟨_, x, hx, hx2⟩ := e5
      rw [hx]
      go_simp
    | 8, ho =>
      exact absurd hlate (by decide)
    | 9, ho =>
      exact absurd hlate (by decide)
    | i + 10, ho => omega
  · intro o ho
    cases ho
    refine ⟨rfl, fun V W hW hd => ?_⟩
    have e6 : V 5 = .tuple #[V 6, .bool rr1] ∧ AsV rs (V 6) := hd 6 (by decide +kernel)
    have e8 : ∃ b, V 8 = .pointer (some ⟨b, 0, none⟩) ∧ W.heap[b]? = some (.cells nil5 34 (0, 0)) := hd 8 (by decide +kernel)
    clear hd
    refine ⟨rfl, ?_⟩
    simp only [putAll, show List.range 10 = [0, 1, 2, 3, 4, 5, 6, 7, 8, 9] from rfl, List.getElem?_toArray, List.getElem?_cons_succ, List.getElem?_cons_zero]
    (try simp only [Act.put, List.setIfInBounds_toArray, List.set_cons_succ, List.set_cons_zero])
    obtain ⟨b, hb, hh⟩ := e8
    obtain ⟨_, G0, g0, G1, g1, G2, g2, G3, g3, G4, g4, h6⟩ := e6
    have hbx : BoxA W b nil5 := ⟨_, hh⟩
    have c0 := (hbx.cell 0 _ rfl).1
    have f0 := (hbx.cell 0 _ rfl).2
    have c1 := (hbx.cell 1 _ rfl).1
    have f1 := (hbx.cell 1 _ rfl).2
    have c2 := (hbx.cell 2 _ rfl).1
    have f2 := (hbx.cell 2 _ rfl).2
    have c3 := (hbx.cell 3 _ rfl).1
    have f3 := (hbx.cell 3 _ rfl).2
    have c4 := (hbx.cell 4 _ rfl).1
    have f4 := (hbx.cell 4 _ rfl).2
    clear hh hbx
    rw [hb, h6, stA5_eq]
    clear hb h6
    go_simp
  intro V W hW hV hGG
  have e0 : V 0 = .agg #[.int .i64 m.degree, .int .i64 m.states, .int .i64 m.messages, .slice Ma0 m.start.length mza0, .slice Ma1 m.send.length mza1, .slice Ma2 m.clauses.length mza2, .slice Ma3 m.output.length mza3] := hV 0 (by decide) (by decide)
  have e1 : ∃ y0 y1 y2 y3, V 1 = .agg #[.int .i64 m.degree, .int .i64 m.states, .int .i64 m.messages, y0, y1, y2, y3] ∧ MacIn W y0 y1 y2 y3 m := hV 1 (by decide) (by decide)
  have e2 : V 2 = .agg #[.slice Na0 n.ends.length nza0, .slice Na1 n.ids.length nza1, .slice Na2 n.inputs.length nza2] := hV 2 (by decide) (by decide)
  have e3 : ∃ y0 y1 y2, V 3 = .agg #[y0, y1, y2] ∧ NetIn W y0 y1 y2 n := hV 3 (by decide) (by decide)
  have e4 : ∃ x, V 4 = .tuple #[x, .bool rr1] ∧ AsV rs x := hV 4 (by decide) (by decide)
  have e5 : V 5 = V 4 ∧ ∃ x, V 5 = .tuple #[x, .bool rr1] ∧ AsV rs x := hV 5 (by decide) (by decide)
  have e6 : V 5 = .tuple #[V 6, .bool rr1] ∧ AsV rs (V 6) := hV 6 (by decide) (by decide)
  have e7 : V 7 = .bool rr1 := hV 7 (by decide) (by decide)
  have e8 : ∃ b, V 8 = .pointer (some ⟨b, 0, none⟩) ∧ W.heap[b]? = some (.cells nil5 34 (0, 0)) := hV 8 (by decide) (by decide)
  clear hV
  simp only [putAll, show List.range 10 = [0, 1, 2, 3, 4, 5, 6, 7, 8, 9] from rfl, List.getElem?_toArray, List.getElem?_cons_succ, List.getElem?_cons_zero]
  (try simp only [Act.put, List.setIfInBounds_toArray, List.set_cons_succ, List.set_cons_zero])
  simp only [List.drop_succ_cons, List.drop_zero]
  obtain ⟨I, hI1, hI2⟩ := hGG
  have oc := (hI1 4 (by decide) ⟨by decide, by decide⟩).1
  have ob := (hI1 8 (by decide) ⟨by decide, by decide⟩).1
  obtain ⟨bxt, Qt0, zQt0, Qt1, zQt1, Qt2, zQt2, Qt3, zQt3, Qt4, zQt4, hp, hu, hSf, hIn, hBox⟩ := as_stored hW oc ob (by decide) (hI2 4 (by decide) 8 (by decide) (by decide) ⟨by decide, by decide⟩ ⟨by decide, by decide⟩)
  have hv6 := e6.1
  rw [e5.1, hu] at hv6
  have hv7 := (by simpa using hv6 : _ = V 6)
  rw [hp, ← hv7, e7]
  obtain ⟨WBt, hWB⟩ : ∃ z, z = stA5 (.pointer (some ⟨bxt, 0, none⟩)) (.agg #[.slice Qt0 rs.rounds.length zQt0, .slice Qt1 rs.before.length zQt1, .slice Qt2 rs.now.length zQt2, .slice Qt3 rs.slots.length zQt3, .slice Qt4 rs.flight.length zQt4]) W := ⟨_, rfl⟩
  rw [← hWB] at hSf hIn hBox ⊢
  have yt0 : ∀ X, Since WBt X → X.cell? ⟨bxt, 0, none⟩ = some (.slice Qt0 rs.rounds.length zQt0) := have_cell (hBox.cell 0 _ rfl).1
  have yt1 : ∀ X, Since WBt X → X.cell? ⟨bxt, 1, none⟩ = some (.slice Qt1 rs.before.length zQt1) := have_cell (hBox.cell 1 _ rfl).1
  have yt2 : ∀ X, Since WBt X → X.cell? ⟨bxt, 2, none⟩ = some (.slice Qt2 rs.now.length zQt2) := have_cell (hBox.cell 2 _ rfl).1
  have yt3 : ∀ X, Since WBt X → X.cell? ⟨bxt, 3, none⟩ = some (.slice Qt3 rs.slots.length zQt3) := have_cell (hBox.cell 3 _ rfl).1
  have yt4 : ∀ X, Since WBt X → X.cell? ⟨bxt, 4, none⟩ = some (.slice Qt4 rs.flight.length zQt4) := have_cell (hBox.cell 4 _ rfl).1
  have HQt := Lib.hid (show ∀ X, Since WBt X → AsIn X (.slice Qt0 rs.rounds.length zQt0) (.slice Qt1 rs.before.length zQt1) (.slice Qt2 rs.now.length zQt2) (.slice Qt3 rs.slots.length zQt3) (.slice Qt4 rs.flight.length zQt4) rs from fun X hX => hIn.keep hX.below)
  have HSf := Lib.hid hSf
  clear hSf hIn hBox hWB hv6 hv7 hp hu ob oc hI1 hI2 I e0 e1 e2 e3 e4 e5 e6 e7 e8 hW hO
  have ht : Since W22 WBt := HSf.out
  have hs := Hs1.out.after ht
  have hm := Hm1.out.after ht
  have hu : Since WBt WBt := since_refl _
  clear HSf Hs1 Hm1
  go_wp2_with fail
  refine (eqAsyncState_same _ _ _ _ _ _ _ _ _ _ rs _ (HQt.out _ hu) (HQs.out _ hs)).mono ?_
  rintro e W24 ⟨rfl, hb⟩
  replace hs := Since.trans hs hb
  replace hm := Since.trans hm hb
  replace ht := Since.trans ht hb
  clear hb
  clear hu
  go_wp2_with fail
  refine (heldAsyncState_any _ _ _ _ _ rs 1 _ (HM.out _ hm) (by have := Hlens.out; omega)).mono ?_
  rw [← Hkm.out]
  rintro e W25 ⟨rfl, hb⟩
  replace hs := Since.trans hs hb
  clear hb
  go_wp2_with fail
  go_ret
  exact ⟨rfl, Since.after Hb0.out (Hs0.out.after hs)⟩
end Go.Proofs.YtomnaabadohecaaGreat
