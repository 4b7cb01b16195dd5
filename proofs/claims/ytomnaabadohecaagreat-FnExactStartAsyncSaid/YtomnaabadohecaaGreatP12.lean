/- Parts of the proof: walks of functions and plain laws. -/
import Derived.Test.YtomnaabadohecaaGreatP8
import Derived.Test.YtomnaabadohecaaGreatP7
import Derived.Test.YtomnaabadohecaaGreatP9
import Derived.Test.YtomnaabadohecaaGreatP11
namespace Go.Proofs.YtomnaabadohecaaGreat
open Go.RowKit
/-! the search for labels as a machine: the labels, the place, the steps made -/
theorem getD_set (ls : List Int) (v j : Nat) (x : Int) (hj : j < ls.length) : (ls.set v x).getD j 0 = if v = j then x else ls.getD j 0 := by
  simp only [List.getD_eq_getElem?_getD, List.getElem?_set]
  split
  · rename_i e; subst e; simp [hj]
  · rfl
/-- what is so ahead of a round -/
structure St (N : Nat) (most : Int) (ls : List Int) (v : Nat) : Prop where
  len : ls.length = N
  lo : ∀ j, j < v → j < N → 0 ≤ ls.getD j 0 ∧ ls.getD j 0 ≤ most
  at_ : v < N → -1 ≤ ls.getD v 0 ∧ ls.getD v 0 ≤ most
  hi : ∀ j, v < j → j < N → ls.getD j 0 = -1
/-- what is so when a label has been raised -/
structure Up (N : Nat) (most : Int) (ls : List Int) (v : Nat) : Prop where
  len : ls.length = N
  lo : ∀ j, j ≤ v → j < N → 0 ≤ ls.getD j 0 ∧ ls.getD j 0 ≤ most
  hi : ∀ j, v < j → j < N → ls.getD j 0 = -1
theorem St.start (N : Nat) (most : Int) (hm : 0 ≤ most) : St N most (List.replicate N (-1)) 0 where
  len := by simp
  lo := fun j hj => by omega
  at_ := fun h => by simp [List.getD_eq_getElem?_getD, List.getElem?_replicate, h]; omega
  hi := fun j _ h => by simp [List.getD_eq_getElem?_getD, List.getElem?_replicate, h]
theorem St.back {N : Nat} {most : Int} {ls : List Int} {v : Nat} (h : St N most ls v) (h0 : ¬ v = 0) : St N most (ls.set v (-1)) (v - 1) where
  len := by simp [h.len]
  lo := fun j hj hn => by rw [getD_set _ _ _ _ (by rw [h.len]; exact hn), if_neg (by omega)]; exact h.lo j (by omega) hn
  at_ := fun hn => by rw [getD_set _ _ _ _ (by rw [h.len]; exact hn), if_neg (by omega)]; have := h.lo (v - 1) (by omega) hn; omega
  hi := fun j hj hn => by
    rw [getD_set _ _ _ _ (by rw [h.len]; exact hn)]
    split
    · rfl
    · exact h.hi j (by omega) hn
theorem St.up {N : Nat} {most : Int} {ls : List Int} {v : Nat} (h : St N most ls v) (hv : v < N) (hm : ¬ ls.getD v 0 = most) : Up N most (ls.set v (ls.getD v 0 + 1)) v where
  len := by simp [h.len]
  lo := fun j hj hn => by
    rw [getD_set _ _ _ _ (by rw [h.len]; exact hn)]
    have := h.at_ hv
    split
    · omega
    · exact h.lo j (by omega) hn
  hi := fun j hj hn => by rw [getD_set _ _ _ _ (by rw [h.len]; exact hn), if_neg (by omega)]; exact h.hi j hj hn
theorem Up.on {N : Nat} {most : Int} {ls : List Int} {v : Nat} (h : Up N most ls v) (hm : 0 ≤ most) : St N most ls (v + 1) where
  len := h.len
  lo := fun j hj hn => h.lo j (by omega) hn
  at_ := fun hn => by have := h.hi (v + 1) (by omega) hn; omega
  hi := fun j hj hn => h.hi j (by omega) hn
end Go.Proofs.YtomnaabadohecaaGreat
namespace Go.Proofs.YtomnaabadohecaaGreat
open Go.RowKit
/-! the reference's search -/
/-- the kinds of searches -/
def KindOk (s m most : Int) : Prop := (s = 0 ∧ 3 ≤ m ∧ m ≤ 40 ∧ most = m - 1) ∨ (1 ≤ s ∧ s ≤ 5 ∧ 0 ≤ most ∧ most ≤ 999999999999)
theorem KindOk.most {s m most : Int} (h : KindOk s m most) : 0 ≤ most ∧ most ≤ 999999999999 := by unfold KindOk at h; omega
section
variable {W W' : World} {B : Nat} {ve vi vn vl : Value} {s m most lim st : Int}
end
set_option maxHeartbeats 4000000 in
theorem roFree_any (N : Nat) (w : World) (hN : N ≤ 1000000) : Calls Tryz.prog 128 #[.int .i64 N] w fun e w' => ∃ u, e = .returned u ∧ Own w' w.heap.size u (List.replicate N (-1)) ∧ Below w.heap.size w w' := by
  go_enter Tryz.func128, Tryz.ntmps128
  go_wp2_with (at_make; refine mk_ints _ rfl _ _ rfl _ _ N rfl rfl rfl rfl (by omega) ?_; intro w1 ho1 hb1 hz1)
  obtain ⟨g, hg⟩ : ∃ g, g = w.heap.size := ⟨_, rfl⟩
  rw [← hg] at ho1 hz1 ⊢
  have Hg := Lib.hid hg
  clear hg hz1
  go_wp2
  go_loopw [9] (fun i wr => ∃ k : Nat, k ≤ N ∧ i = .int .i64 k ∧ Own wr w.heap.size (.slice (some ⟨g, 0, none⟩) N N) (List.replicate k (-1) ++ List.replicate (N - k) 0) ∧ Below w.heap.size w wr) (fun i _ => N - (intOf i).toNat)
  case atStart => exact ⟨0, Nat.zero_le _, rfl, by have := ho1; simpa [Hg.out] using this, hb1⟩
  case round =>
    obtain ⟨k, hk, rfl, ho, hb⟩ := hrel
    have Ho := Lib.hid ho
    have Hb := Lib.hid hb
    clear ho1 hb1 ho hb
    by_cases hlt : k < N
    · obtain ⟨y, hy⟩ := getx (List.replicate k (-1 : Int) ++ List.replicate (N - k) 0) k (by simp; omega)
      have cz := Ho.out.cell hy
      have fz := Ho.out.free k
      clear hy
      go_wp2
      go_roundw
      case rel =>
        refine ⟨k + 1, by omega, by go_num, ?_, Hb.out.setCell (by show w.heap.size ≤ g; rw [Hg.out]; exact Nat.le_refl _) _⟩
        have := Ho.out.set (k := k) (-1)
        have e : (List.replicate k (-1 : Int) ++ List.replicate (N - k) 0).set k (-1) = List.replicate (k + 1) (-1) ++ List.replicate (N - (k + 1)) 0 := by
          rw [List.set_append_right _ _ (by simp), List.length_replicate, Nat.sub_self, show N - k = (N - (k + 1)) + 1 by omega, List.replicate_succ, List.set_cons_zero, List.replicate_succ', List.append_assoc]
          rfl
        rwa [e] at this
      case measure => simp [intOf]; omega
    · obtain rfl : k = N := by omega
      go_wp2
      go_ret
      exact ⟨_, rfl, by have := Ho.out; rwa [Nat.sub_self, List.replicate_zero, List.append_nil] at this, Hb.out⟩
end Go.Proofs.YtomnaabadohecaaGreat
namespace Go.Proofs.YtomnaabadohecaaGreat
open Go.RowKit
end Go.Proofs.YtomnaabadohecaaGreat
namespace Go.Proofs.YtomnaabadohecaaGreat
open Go.RowKit
theorem getD_some {ls : List Int} {v : Nat} (h : v < ls.length) : ls[v]? = some (ls.getD v 0) := by rw [List.getD_eq_getElem?_getD, List.getElem?_eq_getElem h]; rfl
end Go.Proofs.YtomnaabadohecaaGreat
namespace Go.Proofs.YtomnaabadohecaaGreat
open Go.RowKit
/-! the state at the start of an asynchronous run: the reference -/
theorem ownAs_of2 {w : World} {B Bf : Nat} {v1 v2 v3 v4 v5 : Value} {x : ASt} {S1 S2 S3 S4 S5 : List Nat} {lo hi : Nat → Nat} (h1 : OwnI w B v1 x.rounds S1) (h2 : OwnI w B v2 x.before S2) (h3 : OwnI w B v3 x.now S3) (h4 : OwnII w Bf v4 x.slots S4) (h5 : OwnTTT w Bf v5 x.flight S5) (hB : B ≤ Bf) (h45 : ∀ j ∈ S4, j ∉ S5)
    (r1 : ∀ j ∈ S1, lo 1 ≤ j ∧ j < hi 1) (r2 : ∀ j ∈ S2, lo 2 ≤ j ∧ j < hi 2) (r3 : ∀ j ∈ S3, lo 3 ≤ j ∧ j < hi 3) (d : ∀ i j, i ∈ [1, 2, 3] → j ∈ [1, 2, 3] → i ≠ j → hi i ≤ lo j ∨ hi j ≤ lo i) (hf : ∀ i ∈ [1, 2, 3], hi i ≤ Bf) :
    OwnAs w B v1 v2 v3 v4 v5 x (S1 ++ (S2 ++ (S3 ++ (S4 ++ S5)))) := by
  refine ⟨S1, S2, S3, S4, S5, h1, h2, h3, lawII.mono h4 hB, lawTTT.mono h5 hB, rfl, ?_⟩
  have r4 := lawII.range h4
  have r5 := lawTTT.range h5
  have f1 := hf 1 (by simp)
  have f2 := hf 2 (by simp)
  have f3 := hf 3 (by simp)
  have d12 := d 1 2 (by simp) (by simp) (by decide)
  have d13 := d 1 3 (by simp) (by simp) (by decide)
  have d23 := d 2 3 (by simp) (by simp) (by decide)
  rw [List.nodup_append, List.nodup_append, List.nodup_append, List.nodup_append]
  refine ⟨lawI.nodup h1, ⟨lawI.nodup h2, ⟨lawI.nodup h3, ⟨lawII.nodup h4, lawTTT.nodup h5, ?_⟩, ?_⟩, ?_⟩, ?_⟩
  · rintro a ha b hb rfl
    exact h45 a ha hb
  · rintro a ha b hb rfl
    have := r3 a ha
    rcases List.mem_append.1 hb with hb | hb
    · have := r4 a hb; omega
    · have := r5 a hb; omega
  · rintro a ha b hb rfl
    have := r2 a ha
    rcases List.mem_append.1 hb with hb | hb
    · have := r3 a hb; omega
    · rcases List.mem_append.1 hb with hb | hb
      · have := r4 a hb; omega
      · have := r5 a hb; omega
  · rintro a ha b hb rfl
    have := r1 a ha
    rcases List.mem_append.1 hb with hb | hb
    · have := r2 a hb; omega
    · rcases List.mem_append.1 hb with hb | hb
      · have := r3 a hb; omega
      · rcases List.mem_append.1 hb with hb | hb
        · have := r4 a hb; omega
        · have := r5 a hb; omega
theorem ownII_nil0 (w : World) (base : Nat) : OwnII w base (.slice none 0 0) [] [] := ⟨[], [], World.ownsRow_nil w base _ _, rfl, fun k u x T h => by simp at h, by simp [Value.ownBlock], by simp⟩
set_option maxRecDepth 100000 in
set_option maxHeartbeats 16000000 in
theorem syStart_any (ma mb mc md ve vi vn : Value) (m : Mac) (n : Net) (w : World) (hMa : MacIn w ma mb mc md m) (h : NetIn w ve vi vn n) (hAs : Asked m n) :
    Calls Tryz.prog 65 #[.agg #[.int .i64 m.degree, .int .i64 m.states, .int .i64 m.messages, ma, mb, mc, md], .agg #[ve, vi, vn]] w fun e w' => ∃ v1 v2 v3 v4 v5 S, e = .returned (.agg #[v1, v2, v3, v4, v5]) ∧ OwnAs w' w.heap.size v1 v2 v3 v4 v5 (startAs m n) S ∧ Below w.heap.size w w' := by
  have hn40 := (netOk_len hAs.net).2
  have HAs := Lib.hid hAs
  have HRow : Hid (∀ (k : Nat) (es : List (Int × Int)), n.ends[k]? = some es → es.length ≤ 6) := fun (k : Nat) (es : List (Int × Int)) he => (netOk_row HAs.out.net he).1
  clear hAs
  obtain ⟨w0, hw0⟩ : ∃ w0, w0 = ((w).alloc (.cells #[.int .i64 m.degree, .int .i64 m.states, .int .i64 m.messages, ma, mb, mc, md] 39)).alloc (.cells #[ve, vi, vn] 43) := ⟨_, rfl⟩
  have hb0 : Below w.heap.size w w0 := by rw [hw0]; exact (((Below.refl _ _).alloc (by simp <;> omega) _).alloc (by simp <;> omega) _)
  have H := Lib.hid (h.keep hb0)
  obtain ⟨h1, h2, h3⟩ := h.keep hb0
  obtain ⟨A, c, rfl, hlc, hm, hA⟩ := h1
  obtain ⟨A2, c2, rfl, _, hm2, _⟩ := h2
  obtain ⟨A3, c3, rfl, _, hm3, _⟩ := h3
  unfold maxLen at hm hm2 hm3
  have hkM := hMa.keep hb0
  have HM := Lib.hid hkM
  obtain ⟨M0, mz0, rfl, hlM0, hmM0, hMe0⟩ := id hkM.1
  unfold maxLen at hmM0
  have HMe0 := Lib.hid hMe0
  clear hMe0
  obtain ⟨M1, mz1, rfl, hlM1, hmM1, hMe1⟩ := id hkM.2.1
  unfold maxLen at hmM1
  have HMe1 := Lib.hid hMe1
  clear hMe1
  obtain ⟨M2, mz2, rfl, hlM2, hmM2, hMe2⟩ := id hkM.2.2.1
  unfold maxLen at hmM2
  have HMe2 := Lib.hid hMe2
  clear hMe2
  obtain ⟨M3, mz3, rfl, hlM3, hmM3, hMe3⟩ := id hkM.2.2.2
  unfold maxLen at hmM3
  have HMe3 := Lib.hid hMe3
  clear hMe3
  clear hkM hMa
  have p00 : ∀ W, Since w0 W → W.cell? ⟨w.heap.size, 0, none⟩ = some (.int .i64 m.degree) := have_cell (by rw [hw0]; simp)
  have p01 : ∀ W, Since w0 W → W.cell? ⟨w.heap.size, 1, none⟩ = some (.int .i64 m.states) := have_cell (by rw [hw0]; simp)
  have p02 : ∀ W, Since w0 W → W.cell? ⟨w.heap.size, 2, none⟩ = some (.int .i64 m.messages) := have_cell (by rw [hw0]; simp)
  have p03 : ∀ W, Since w0 W → W.cell? ⟨w.heap.size, 3, none⟩ = some (.slice M0 m.start.length mz0) := have_cell (by rw [hw0]; simp)
  have p04 : ∀ W, Since w0 W → W.cell? ⟨w.heap.size, 4, none⟩ = some (.slice M1 m.send.length mz1) := have_cell (by rw [hw0]; simp)
  have p05 : ∀ W, Since w0 W → W.cell? ⟨w.heap.size, 5, none⟩ = some (.slice M2 m.clauses.length mz2) := have_cell (by rw [hw0]; simp)
  have p06 : ∀ W, Since w0 W → W.cell? ⟨w.heap.size, 6, none⟩ = some (.slice M3 m.output.length mz3) := have_cell (by rw [hw0]; simp)
  have p10 : ∀ W, Since w0 W → W.cell? ⟨w.heap.size + 1, 0, none⟩ = some (.slice A n.ends.length c) := have_cell (by rw [hw0]; simp)
  have p11 : ∀ W, Since w0 W → W.cell? ⟨w.heap.size + 1, 1, none⟩ = some (.slice A2 n.ids.length c2) := have_cell (by rw [hw0]; simp)
  have p12 : ∀ W, Since w0 W → W.cell? ⟨w.heap.size + 1, 2, none⟩ = some (.slice A3 n.inputs.length c3) := have_cell (by rw [hw0]; simp)
  have Hb0 := Lib.hid hb0
  have Hw0 := Lib.hid hw0
  have HA := Lib.hid hA
  clear hA h
  clear hb0 hw0
  obtain ⟨wz, hwz⟩ : ∃ wz, wz = w0.alloc (.cells nil5 34) := ⟨_, rfl⟩
  have hsz : Since w0 wz := by rw [hwz]; exact since_alloc _ (since_refl _)
  have HRz : Hid (∀ X, Since wz X → BoxA X w0.heap.size nil5) := fun X hX => by
    have h1 : BoxA wz w0.heap.size nil5 := by rw [hwz]; exact BoxA.new _ _ _
    exact h1.below hX h1.lt
  have Hza : Hid (w0.heap.size + 1 = wz.heap.size) := by show _ = _; rw [hwz]; simp
  have HMz := Lib.hid (show ∀ X, Since wz X → MacIn X _ _ _ _ m from fun X hX => HM.out.keep (hsz.after hX).below)
  have HNz := Lib.hid (show ∀ X, Since wz X → NetIn X (.slice A n.ends.length c) (.slice A2 n.ids.length c2) (.slice A3 n.inputs.length c3) n from fun X hX => H.out.keep (hsz.after hX).below)
  have z00 := lift_cell p00 hsz
  have z01 := lift_cell p01 hsz
  have z02 := lift_cell p02 hsz
  have z03 := lift_cell p03 hsz
  have z04 := lift_cell p04 hsz
  have z05 := lift_cell p05 hsz
  have z06 := lift_cell p06 hsz
  have z10 := lift_cell p10 hsz
  have z11 := lift_cell p11 hsz
  have z12 := lift_cell p12 hsz
  have Hwz := Lib.hid hwz
  have Hsz := Lib.hid hsz
  have mkI := run_mk_ints n.ends.length (by omega)
  clear hwz hsz p00 p01 p02 p03 p04 p05 p06 p10 p11 p12
  unfold nil5 at Hwz
  go_enter Tryz.func65, Tryz.ntmps65
  go_upto_region 1 with (fail)
  rw [← Hw0.out, ← Hwz.out]
  have hO : ∀ (i : Nat) (u : Value) (W W' : World) (lo hi : Nat), (oSt 99 11 wz.heap.size m n) i u W lo hi → Since W W' → (oSt 99 11 wz.heap.size m n) i u W' lo hi := fun i u W W' lo hi h hs => oSt.keep h hs
  refine wp_region_dstl (w0 := wz) [fun V W => V 0 = .pointer (some ⟨w.heap.size + 1, 0, none⟩), fun V W => V 1 = .slice A n.ends.length c, fun V W => V 2 = .int .i64 n.ends.length, fun V W => ∃ A n c, V 3 = .slice A n c, fun V W => V 4 = .agg #[.int .i64 m.degree, .int .i64 m.states, .int .i64 m.messages, .slice M0 m.start.length mz0, .slice M1 m.send.length mz1, .slice M2 m.clauses.length mz2, .slice M3 m.output.length mz3], fun V W => V 5 = .agg #[.slice A n.ends.length c, .slice A2 n.ids.length c2, .slice A3 n.inputs.length c3], fun V W => ∃ A n c, V 6 = .slice A n c, fun V W => V 7 = .agg #[.int .i64 m.degree, .int .i64 m.states, .int .i64 m.messages, .slice M0 m.start.length mz0, .slice M1 m.send.length mz1, .slice M2 m.clauses.length mz2, .slice M3 m.output.length mz3], fun V W => V 8 = .agg #[.slice A n.ends.length c, .slice A2 n.ids.length c2, .slice A3 n.inputs.length c3], fun V W => ∃ A n c, V 9 = .slice A n c, fun V W => V 10 = .agg #[V 3, V 6, V 9, .slice none 0 0, .slice none 0 0], fun V W => ∃ b, V 11 = .pointer (some ⟨b, 0, none⟩) ∧ W.heap[b]? = some (.cells nil5 34 (0, 0)) ∧ wz.heap.size ≤ b, fun V W => True] (GI [3, 6, 9, 11] (oSt 99 11 wz.heap.size m n)) 13 12 [] (fun V W => stA5 (V 11) (V 10) W) ?_ ?_ (fun V W => trivial) (by kernel_rfl) (by kernel_rfl) (by kernel_rfl) (by kernel_rfl) (by kernel_rfl) (since_refl _) (fun V W _ => GI.none _ _ _ _) ?_ ?_ ?_ ?_
  · intro r hr V W W' h hs
    simp only [List.mem_cons, List.not_mem_nil, or_false] at hr
    rcases hr with rfl | rfl | rfl | rfl | rfl | rfl | rfl | rfl | rfl | rfl | rfl | rfl | rfl
    · exact h
    · exact h
    · exact h
    · exact (h)
    · exact h
    · exact h
    · exact (h)
    · exact h
    · exact h
    · exact (h)
    · exact (h)
    · exact (⟨h.choose, h.choose_spec.1, (hs.below.block _ (Array.getElem?_eq_some_iff.1 h.choose_spec.2.1).1).trans h.choose_spec.2.1, h.choose_spec.2.2⟩)
    · exact (trivial)
  · intro j r hj V V' W h1 h2 h
    match j, hj with
    | 0, hj =>
      obtain rfl := Option.some.inj hj
      have h3 : V 0 = .pointer (some ⟨w.heap.size + 1, 0, none⟩) := h
      show V' 0 = .pointer (some ⟨w.heap.size + 1, 0, none⟩)
      rw [← h1]
      exact h3
    | 1, hj =>
      obtain rfl := Option.some.inj hj
      have h3 : V 1 = .slice A n.ends.length c := h
      show V' 1 = .slice A n.ends.length c
      rw [← h1]
      exact h3
    | 2, hj =>
      obtain rfl := Option.some.inj hj
      have h3 : V 2 = .int .i64 n.ends.length := h
      show V' 2 = .int .i64 n.ends.length
      rw [← h1]
      exact h3
    | 3, hj =>
      obtain rfl := Option.some.inj hj
      have h3 : ∃ A n c, V 3 = .slice A n c := h
      show ∃ A n c, V' 3 = .slice A n c
      rw [← h1]
      exact h3
    | 4, hj =>
      obtain rfl := Option.some.inj hj
      have h3 : V 4 = .agg #[.int .i64 m.degree, .int .i64 m.states, .int .i64 m.messages, .slice M0 m.start.length mz0, .slice M1 m.send.length mz1, .slice M2 m.clauses.length mz2, .slice M3 m.output.length mz3] := h
      show V' 4 = .agg #[.int .i64 m.degree, .int .i64 m.states, .int .i64 m.messages, .slice M0 m.start.length mz0, .slice M1 m.send.length mz1, .slice M2 m.clauses.length mz2, .slice M3 m.output.length mz3]
      rw [← h1]
      exact h3
    | 5, hj =>
      obtain rfl := Option.some.inj hj
      have h3 : V 5 = .agg #[.slice A n.ends.length c, .slice A2 n.ids.length c2, .slice A3 n.inputs.length c3] := h
      show V' 5 = .agg #[.slice A n.ends.length c, .slice A2 n.ids.length c2, .slice A3 n.inputs.length c3]
      rw [← h1]
      exact h3
    | 6, hj =>
      obtain rfl := Option.some.inj hj
      have h3 : ∃ A n c, V 6 = .slice A n c := h
      show ∃ A n c, V' 6 = .slice A n c
      rw [← h1]
      exact h3
    | 7, hj =>
      obtain rfl := Option.some.inj hj
      have h3 : V 7 = .agg #[.int .i64 m.degree, .int .i64 m.states, .int .i64 m.messages, .slice M0 m.start.length mz0, .slice M1 m.send.length mz1, .slice M2 m.clauses.length mz2, .slice M3 m.output.length mz3] := h
      show V' 7 = .agg #[.int .i64 m.degree, .int .i64 m.states, .int .i64 m.messages, .slice M0 m.start.length mz0, .slice M1 m.send.length mz1, .slice M2 m.clauses.length mz2, .slice M3 m.output.length mz3]
      rw [← h1]
      exact h3
    | 8, hj =>
      obtain rfl := Option.some.inj hj
      have h3 : V 8 = .agg #[.slice A n.ends.length c, .slice A2 n.ids.length c2, .slice A3 n.inputs.length c3] := h
      show V' 8 = .agg #[.slice A n.ends.length c, .slice A2 n.ids.length c2, .slice A3 n.inputs.length c3]
      rw [← h1]
      exact h3
    | 9, hj =>
      obtain rfl := Option.some.inj hj
      have h3 : ∃ A n c, V 9 = .slice A n c := h
      show ∃ A n c, V' 9 = .slice A n c
      rw [← h1]
      exact h3
    | 10, hj =>
      obtain rfl := Option.some.inj hj
      have h23 := h2 _ rfl 3 (by decide +kernel)
      have h26 := h2 _ rfl 6 (by decide +kernel)
      have h29 := h2 _ rfl 9 (by decide +kernel)
      have h3 : V 10 = .agg #[V 3, V 6, V 9, .slice none 0 0, .slice none 0 0] := h
      show V' 10 = .agg #[V' 3, V' 6, V' 9, .slice none 0 0, .slice none 0 0]
      rw [← h1, ← h23, ← h26, ← h29]
      exact h3
    | 11, hj =>
      obtain rfl := Option.some.inj hj
      have h3 : ∃ b, V 11 = .pointer (some ⟨b, 0, none⟩) ∧ W.heap[b]? = some (.cells nil5 34 (0, 0)) ∧ wz.heap.size ≤ b := h
      show ∃ b, V' 11 = .pointer (some ⟨b, 0, none⟩) ∧ W.heap[b]? = some (.cells nil5 34 (0, 0)) ∧ wz.heap.size ≤ b
      rw [← h1]
      exact h3
    | 12, hj =>
      obtain rfl := Option.some.inj hj
      trivial
    | j + 13, hj => simp at hj
  · intro i o hi his ho D V W hW hd hnD hGG
    match i, ho with
    | 0, ho =>
      cases ho
      clear hd hi his
      refine ⟨rfl, ?_⟩
      simp only [putAll, show List.range 13 = [0, 1, 2, 3, 4, 5, 6, 7, 8, 9, 10, 11, 12] from rfl, List.getElem?_toArray, List.getElem?_cons_succ, List.getElem?_cons_zero]
      (try simp only [Act.put, List.setIfInBounds_toArray, List.set_cons_succ, List.set_cons_zero])
      refine dstep_val (u := .pointer (some ⟨w.heap.size + 1, 0, none⟩)) (W' := W) (by go_simp) ⟨since_refl _, ?_, GI.skip hO hGG (since_refl _) (by decide) _⟩
      exact upd_self V 0 _
    | 1, ho =>
      cases ho
      have e0 : V 0 = .pointer (some ⟨w.heap.size + 1, 0, none⟩) := hd 0 (by decide +kernel)
      clear hd hi his
      refine ⟨rfl, ?_⟩
      simp only [putAll, show List.range 13 = [0, 1, 2, 3, 4, 5, 6, 7, 8, 9, 10, 11, 12] from rfl, List.getElem?_toArray, List.getElem?_cons_succ, List.getElem?_cons_zero]
      (try simp only [Act.put, List.setIfInBounds_toArray, List.set_cons_succ, List.set_cons_zero])
      refine dstep_val (u := .slice A n.ends.length c) (W' := W) (by go_simp) ⟨since_refl _, ?_, GI.skip hO hGG (since_refl _) (by decide) _⟩
      exact upd_self V 1 _
    | 2, ho =>
      cases ho
      have e1 : V 1 = .slice A n.ends.length c := hd 1 (by decide +kernel)
      clear hd hi his
      refine ⟨rfl, ?_⟩
      simp only [putAll, show List.range 13 = [0, 1, 2, 3, 4, 5, 6, 7, 8, 9, 10, 11, 12] from rfl, List.getElem?_toArray, List.getElem?_cons_succ, List.getElem?_cons_zero]
      (try simp only [Act.put, List.setIfInBounds_toArray, List.set_cons_succ, List.set_cons_zero])
      refine dstep_val (u := .int .i64 n.ends.length) (W' := W) (by go_simp) ⟨since_refl _, ?_, GI.skip hO hGG (since_refl _) (by decide) _⟩
      exact upd_self V 2 _
    | 3, ho =>
      cases ho
      have e2 : V 2 = .int .i64 n.ends.length := hd 2 (by decide +kernel)
      clear hd hi his
      refine ⟨rfl, ?_⟩
      simp only [putAll, show List.range 13 = [0, 1, 2, 3, 4, 5, 6, 7, 8, 9, 10, 11, 12] from rfl, List.getElem?_toArray, List.getElem?_cons_succ, List.getElem?_cons_zero]
      (try simp only [Act.put, List.setIfInBounds_toArray, List.set_cons_succ, List.set_cons_zero])
      refine dstep_val (u := .slice (some ⟨W.heap.size, 0, none⟩) n.ends.length n.ends.length) (W' := W.alloc (.cells (Array.replicate n.ends.length (Value.int .i64 0)) 3)) (by clear hGG hO; go_simp) ⟨since_alloc _ (since_refl _), ⟨_, _, _, upd_self V 3 _⟩, GI.add hO hGG (since_alloc _ (since_refl _)) hnD ?_⟩
      show oSt _ _ _ _ _ _ _ _ _ _
      unfold oSt
      rw [if_pos rfl]
      exact oI.zero W _ (by omega) hW.below.size
    | 4, ho =>
      cases ho
      clear hd hi his
      refine ⟨rfl, ?_⟩
      simp only [putAll, show List.range 13 = [0, 1, 2, 3, 4, 5, 6, 7, 8, 9, 10, 11, 12] from rfl, List.getElem?_toArray, List.getElem?_cons_succ, List.getElem?_cons_zero]
      (try simp only [Act.put, List.setIfInBounds_toArray, List.set_cons_succ, List.set_cons_zero])
      refine dstep_val (u := .agg #[.int .i64 m.degree, .int .i64 m.states, .int .i64 m.messages, .slice M0 m.start.length mz0, .slice M1 m.send.length mz1, .slice M2 m.clauses.length mz2, .slice M3 m.output.length mz3]) (W' := W) (by go_simp) ⟨since_refl _, ?_, GI.skip hO hGG (since_refl _) (by decide) _⟩
      exact upd_self V 4 _
    | 5, ho =>
      cases ho
      clear hd hi his
      refine ⟨rfl, ?_⟩
      simp only [putAll, show List.range 13 = [0, 1, 2, 3, 4, 5, 6, 7, 8, 9, 10, 11, 12] from rfl, List.getElem?_toArray, List.getElem?_cons_succ, List.getElem?_cons_zero]
      (try simp only [Act.put, List.setIfInBounds_toArray, List.set_cons_succ, List.set_cons_zero])
      refine dstep_val (u := .agg #[.slice A n.ends.length c, .slice A2 n.ids.length c2, .slice A3 n.inputs.length c3]) (W' := W) (by go_simp) ⟨since_refl _, ?_, GI.skip hO hGG (since_refl _) (by decide) _⟩
      exact upd_self V 5 _
    | 6, ho =>
      cases ho
      have e4 : V 4 = .agg #[.int .i64 m.degree, .int .i64 m.states, .int .i64 m.messages, .slice M0 m.start.length mz0, .slice M1 m.send.length mz1, .slice M2 m.clauses.length mz2, .slice M3 m.output.length mz3] := hd 4 (by decide +kernel)
      have e5 : V 5 = .agg #[.slice A n.ends.length c, .slice A2 n.ids.length c2, .slice A3 n.inputs.length c3] := hd 5 (by decide +kernel)
      clear hd hi his
      refine ⟨rfl, ?_⟩
      simp only [putAll, show List.range 13 = [0, 1, 2, 3, 4, 5, 6, 7, 8, 9, 10, 11, 12] from rfl, List.getElem?_toArray, List.getElem?_cons_succ, List.getElem?_cons_zero]
      (try simp only [Act.put, List.setIfInBounds_toArray, List.set_cons_succ, List.set_cons_zero])
      have HG := Lib.hid hGG
      have HO := Lib.hid hO
      clear hGG hO
      unfold DStep
      go_simp
      (with_reducible refine (maStart_any _ _ _ _ _ _ _ m n W (HMz.out W hW) (HNz.out W hW) HAs.out).mono ?_)
      rintro e W1 ⟨u, rfl, ho, hb⟩
      obtain ⟨A9, n9, c9, rfl⟩ := lawI.one (S := u.ownBlock.toList) ⟨ho, rfl⟩
      refine ⟨_, rfl, hb, ⟨_, _, _, upd_self V 6 _⟩, GI.add HO.out HG.out hb hnD ?_⟩
      show oSt _ _ _ _ _ _ _ _ _ _
      unfold oSt
      rw [if_neg (by decide), if_neg (by decide), if_neg (by decide)]
      exact oI.own hW.below.size ho
    | 7, ho =>
      cases ho
      clear hd hi his
      refine ⟨rfl, ?_⟩
      simp only [putAll, show List.range 13 = [0, 1, 2, 3, 4, 5, 6, 7, 8, 9, 10, 11, 12] from rfl, List.getElem?_toArray, List.getElem?_cons_succ, List.getElem?_cons_zero]
      (try simp only [Act.put, List.setIfInBounds_toArray, List.set_cons_succ, List.set_cons_zero])
      refine dstep_val (u := .agg #[.int .i64 m.degree, .int .i64 m.states, .int .i64 m.messages, .slice M0 m.start.length mz0, .slice M1 m.send.length mz1, .slice M2 m.clauses.length mz2, .slice M3 m.output.length mz3]) (W' := W) (by go_simp) ⟨since_refl _, ?_, GI.skip hO hGG (since_refl _) (by decide) _⟩
      exact upd_self V 7 _
    | 8, ho =>
      cases ho
      clear hd hi his
      refine ⟨rfl, ?_⟩
      simp only [putAll, show List.range 13 = [0, 1, 2, 3, 4, 5, 6, 7, 8, 9, 10, 11, 12] from rfl, List.getElem?_toArray, List.getElem?_cons_succ, List.getElem?_cons_zero]
      (try simp only [Act.put, List.setIfInBounds_toArray, List.set_cons_succ, List.set_cons_zero])
      refine dstep_val (u := .agg #[.slice A n.ends.length c, .slice A2 n.ids.length c2, .slice A3 n.inputs.length c3]) (W' := W) (by go_simp) ⟨since_refl _, ?_, GI.skip hO hGG (since_refl _) (by decide) _⟩
      exact upd_self V 8 _
    | 9, ho =>
      cases ho
      have e7 : V 7 = .agg #[.int .i64 m.degree, .int .i64 m.states, .int .i64 m.messages, .slice M0 m.start.length mz0, .slice M1 m.send.length mz1, .slice M2 m.clauses.length mz2, .slice M3 m.output.length mz3] := hd 7 (by decide +kernel)
      have e8 : V 8 = .agg #[.slice A n.ends.length c, .slice A2 n.ids.length c2, .slice A3 n.inputs.length c3] := hd 8 (by decide +kernel)
      clear hd hi his
      refine ⟨rfl, ?_⟩
      simp only [putAll, show List.range 13 = [0, 1, 2, 3, 4, 5, 6, 7, 8, 9, 10, 11, 12] from rfl, List.getElem?_toArray, List.getElem?_cons_succ, List.getElem?_cons_zero]
      (try simp only [Act.put, List.setIfInBounds_toArray, List.set_cons_succ, List.set_cons_zero])
      have HG := Lib.hid hGG
      have HO := Lib.hid hO
      clear hGG hO
      unfold DStep
      go_simp
      (with_reducible refine (maStart_any _ _ _ _ _ _ _ m n W (HMz.out W hW) (HNz.out W hW) HAs.out).mono ?_)
      rintro e W1 ⟨u, rfl, ho, hb⟩
      obtain ⟨A9, n9, c9, rfl⟩ := lawI.one (S := u.ownBlock.toList) ⟨ho, rfl⟩
      refine ⟨_, rfl, hb, ⟨_, _, _, upd_self V 9 _⟩, GI.add HO.out HG.out hb hnD ?_⟩
      show oSt _ _ _ _ _ _ _ _ _ _
      unfold oSt
      rw [if_neg (by decide), if_neg (by decide), if_neg (by decide)]
      exact oI.own hW.below.size ho
    | 10, ho =>
      cases ho
      have e3 : ∃ A n c, V 3 = .slice A n c := hd 3 (by decide +kernel)
      have e6 : ∃ A n c, V 6 = .slice A n c := hd 6 (by decide +kernel)
      have e9 : ∃ A n c, V 9 = .slice A n c := hd 9 (by decide +kernel)
      clear hd hi his
      refine ⟨rfl, ?_⟩
      simp only [putAll, show List.range 13 = [0, 1, 2, 3, 4, 5, 6, 7, 8, 9, 10, 11, 12] from rfl, List.getElem?_toArray, List.getElem?_cons_succ, List.getElem?_cons_zero]
      (try simp only [Act.put, List.setIfInBounds_toArray, List.set_cons_succ, List.set_cons_zero])
      obtain ⟨_, _, _, h3⟩ := e3
      obtain ⟨_, _, _, h6⟩ := e6
      obtain ⟨_, _, _, h9⟩ := e9
      refine dstep_val (u := .agg #[V 3, V 6, V 9, .slice none 0 0, .slice none 0 0]) (W' := W) (by clear hGG hO; rw [h3, h6, h9]; go_simp) ⟨since_refl _, ?_, GI.skip hO hGG (since_refl _) (by decide) _⟩
      show upd V 10 _ 10 = .agg #[upd V 10 _ 3, upd V 10 _ 6, upd V 10 _ 9, .slice none 0 0, .slice none 0 0]
      rw [upd_self, upd_ne V _ (show (3 : Nat) ≠ 10 by decide), upd_ne V _ (show (6 : Nat) ≠ 10 by decide), upd_ne V _ (show (9 : Nat) ≠ 10 by decide)]
    | 11, ho =>
      cases ho
      clear hd hi his
      refine ⟨rfl, ?_⟩
      simp only [putAll, show List.range 13 = [0, 1, 2, 3, 4, 5, 6, 7, 8, 9, 10, 11, 12] from rfl, List.getElem?_toArray, List.getElem?_cons_succ, List.getElem?_cons_zero]
      (try simp only [Act.put, List.setIfInBounds_toArray, List.set_cons_succ, List.set_cons_zero])
      refine dstep_val (u := .pointer (some ⟨W.heap.size, 0, none⟩)) (W' := W.alloc (.cells nil5 34)) (by clear hGG hO; unfold nil5; go_simp) ⟨since_alloc _ (since_refl _), ⟨_, upd_self V 11 _, heap_alloc_new W _, hW.below.size⟩, GI.add hO hGG (since_alloc _ (since_refl _)) hnD ?_⟩
      show oSt _ _ _ _ _ _ _ _ _ _
      unfold oSt
      rw [if_neg (by decide), if_neg (by decide), if_pos rfl]
      exact oBx.new W _ _ hW.below.size
    | 12, ho =>
      exact absurd rfl his
    | i + 13, ho => omega
  · intro i o hi his hlate ho V W hW hd
    match i, ho with
    | 0, ho =>
      exact absurd hlate (by decide)
    | 1, ho =>
      exact absurd hlate (by decide)
    | 2, ho =>
      exact absurd hlate (by decide)
    | 3, ho =>
      exact absurd hlate (by decide)
    | 4, ho =>
      exact absurd hlate (by decide)
    | 5, ho =>
      exact absurd hlate (by decide)
    | 6, ho =>
      exact absurd hlate (by decide)
    | 7, ho =>
      exact absurd hlate (by decide)
    | 8, ho =>
      exact absurd hlate (by decide)
    | 9, ho =>
      exact absurd hlate (by decide)
    | 10, ho =>
      exact absurd hlate (by decide)
    | 11, ho =>
      exact absurd hlate (by decide)
    | 12, ho =>
      exact absurd hlate (by decide)
    | i + 13, ho => omega
  · intro o ho
    cases ho
    refine ⟨rfl, fun V W hW hd => ?_⟩
    have e10 : V 10 = .agg #[V 3, V 6, V 9, .slice none 0 0, .slice none 0 0] := hd 10 (by decide +kernel)
    have e11 : ∃ b, V 11 = .pointer (some ⟨b, 0, none⟩) ∧ W.heap[b]? = some (.cells nil5 34 (0, 0)) ∧ wz.heap.size ≤ b := hd 11 (by decide +kernel)
    have e3 : ∃ A n c, V 3 = .slice A n c := hd 3 (by decide +kernel)
    have e6 : ∃ A n c, V 6 = .slice A n c := hd 6 (by decide +kernel)
    have e9 : ∃ A n c, V 9 = .slice A n c := hd 9 (by decide +kernel)
    clear hd
    refine ⟨rfl, ?_⟩
    simp only [putAll, show List.range 13 = [0, 1, 2, 3, 4, 5, 6, 7, 8, 9, 10, 11, 12] from rfl, List.getElem?_toArray, List.getElem?_cons_succ, List.getElem?_cons_zero]
    (try simp only [Act.put, List.setIfInBounds_toArray, List.set_cons_succ, List.set_cons_zero])
    obtain ⟨b, hb, hh, _⟩ := e11
    obtain ⟨_, _, _, h3⟩ := e3
    obtain ⟨_, _, _, h6⟩ := e6
    obtain ⟨_, _, _, h9⟩ := e9
    have hbx : BoxA W b nil5 := ⟨_, hh⟩
    have c0 := (hbx.cell 0 _ rfl).1
    have f0 := (hbx.cell 0 _ rfl).2
    have c1 := (hbx.cell 1 _ rfl).1
    have f1 := (hbx.cell 1 _ rfl).2
    have c2 := (hbx.cell 2 _ rfl).1
    have f2 := (hbx.cell 2 _ rfl).2
    have c3 := (hbx.cell 3 _ rfl).1
    have f3 := (hbx.cell 3 _ rfl).2
    have c4 := (hbx.cell 4 _ rfl).1
    have f4 := (hbx.cell 4 _ rfl).2
    clear hh hbx
    rw [hb, e10, h3, h6, h9, stA5_eq]
    clear e10 hb h3 h6 h9
    go_simp
  intro V W hW hV hGG
  have e0 : V 0 = .pointer (some ⟨w.heap.size + 1, 0, none⟩) := hV 0 (by decide) (by decide)
  have e1 : V 1 = .slice A n.ends.length c := hV 1 (by decide) (by decide)
  have e2 : V 2 = .int .i64 n.ends.length := hV 2 (by decide) (by decide)
  have e3 : ∃ A n c, V 3 = .slice A n c := hV 3 (by decide) (by decide)
  have e4 : V 4 = .agg #[.int .i64 m.degree, .int .i64 m.states, .int .i64 m.messages, .slice M0 m.start.length mz0, .slice M1 m.send.length mz1, .slice M2 m.clauses.length mz2, .slice M3 m.output.length mz3] := hV 4 (by decide) (by decide)
  have e5 : V 5 = .agg #[.slice A n.ends.length c, .slice A2 n.ids.length c2, .slice A3 n.inputs.length c3] := hV 5 (by decide) (by decide)
  have e6 : ∃ A n c, V 6 = .slice A n c := hV 6 (by decide) (by decide)
  have e7 : V 7 = .agg #[.int .i64 m.degree, .int .i64 m.states, .int .i64 m.messages, .slice M0 m.start.length mz0, .slice M1 m.send.length mz1, .slice M2 m.clauses.length mz2, .slice M3 m.output.length mz3] := hV 7 (by decide) (by decide)
  have e8 : V 8 = .agg #[.slice A n.ends.length c, .slice A2 n.ids.length c2, .slice A3 n.inputs.length c3] := hV 8 (by decide) (by decide)
  have e9 : ∃ A n c, V 9 = .slice A n c := hV 9 (by decide) (by decide)
  have e10 : V 10 = .agg #[V 3, V 6, V 9, .slice none 0 0, .slice none 0 0] := hV 10 (by decide) (by decide)
  have e11 : ∃ b, V 11 = .pointer (some ⟨b, 0, none⟩) ∧ W.heap[b]? = some (.cells nil5 34 (0, 0)) ∧ wz.heap.size ≤ b := hV 11 (by decide) (by decide)
  clear hV
  simp only [putAll, show List.range 13 = [0, 1, 2, 3, 4, 5, 6, 7, 8, 9, 10, 11, 12] from rfl, List.getElem?_toArray, List.getElem?_cons_succ, List.getElem?_cons_zero]
  (try simp only [Act.put, List.setIfInBounds_toArray, List.set_cons_succ, List.set_cons_zero])
  simp only [List.drop_succ_cons, List.drop_zero]
  obtain ⟨bx, hbx, hhx, hbz⟩ := e11
  obtain ⟨A3', n3', c3', h3⟩ := e3
  obtain ⟨A6', n6', c6', h6⟩ := e6
  obtain ⟨A9', n9', c9', h9⟩ := e9
  obtain ⟨I, hI1, hI2⟩ := hGG
  have o3 := (hI1 3 (by decide) ⟨by decide, by decide⟩)
  have o6 := (hI1 6 (by decide) ⟨by decide, by decide⟩)
  have o9 := (hI1 9 (by decide) ⟨by decide, by decide⟩)
  have o13 := (hI1 11 (by decide) ⟨by decide, by decide⟩)
  have d3_6 := hI2 3 (by decide) 6 (by decide) (by decide) ⟨by decide, by decide⟩ ⟨by decide, by decide⟩
  have d3_9 := hI2 3 (by decide) 9 (by decide) (by decide) ⟨by decide, by decide⟩ ⟨by decide, by decide⟩
  have d3_13 := hI2 3 (by decide) 11 (by decide) (by decide) ⟨by decide, by decide⟩ ⟨by decide, by decide⟩
  have d6_9 := hI2 6 (by decide) 9 (by decide) (by decide) ⟨by decide, by decide⟩ ⟨by decide, by decide⟩
  have d6_13 := hI2 6 (by decide) 11 (by decide) (by decide) ⟨by decide, by decide⟩ ⟨by decide, by decide⟩
  have d9_13 := hI2 9 (by decide) 11 (by decide) (by decide) ⟨by decide, by decide⟩ ⟨by decide, by decide⟩
  unfold oSt at o3 o6 o9 o13
  rw [if_pos rfl, h3] at o3
  rw [if_neg (by decide), if_neg (by decide), if_neg (by decide), h6] at o6
  rw [if_neg (by decide), if_neg (by decide), if_neg (by decide), h9] at o9
  rw [if_neg (by decide), if_neg (by decide), if_pos rfl, hbx] at o13
  obtain ⟨⟨l3, S3, O3, u3⟩, t3⟩ := o3
  obtain ⟨⟨l6, S6, O6, u6⟩, t6⟩ := o6
  obtain ⟨⟨l9, S9, O9, u9⟩, t9⟩ := o9
  obtain ⟨⟨l13, b13, x13, y13, z13, -⟩, t13⟩ := o13
  obtain rfl : bx = b13 := by simpa using x13
  rw [h3, h6, h9] at e10
  have hB0 : BoxA W bx nil5 := ⟨_, hhx⟩
  unfold nil5 at hB0
  obtain ⟨Wf, hWf⟩ : ∃ Wf, Wf = stA5 (.pointer (some ⟨bx, 0, none⟩)) (.agg #[.slice A3' n3' c3', .slice A6' n6' c6', .slice A9' n9' c9', .slice none 0 0, .slice none 0 0]) W := ⟨_, rfl⟩
  obtain ⟨k1, k2, k3⟩ := stA5_box (v0 := .slice A3' n3' c3') (v1 := .slice A6' n6' c6') (v2 := .slice A9' n9' c9') (v3 := .slice none 0 0) (v4 := .slice none 0 0) hB0
  have k4 : Below wz.heap.size wz Wf := by rw [hWf]; exact stA5_below hW.below hbz
  rw [← hWf] at k1 k2 k3
  rw [hbx, e10, h3, h6, h9, ← hWf]
  have r3 := fun j hj => (lawI.range O3 j hj)
  have r6 := fun j hj => (lawI.range O6 j hj)
  have r9 := fun j hj => (lawI.range O9 j hj)
  obtain ⟨Bf, hBf⟩ : ∃ Bf, Bf = Wf.heap.size := ⟨_, rfl⟩
  have hWB : W.heap.size = Bf := by rw [hBf, k3]
  have HAll : Hid (∀ X : World, (∀ j, j < Bf → j ≠ bx → X.heap[j]? = Wf.heap[j]?) → ∀ v4 v5 S4 S5, OwnII X Bf v4 (freeL n) S4 → OwnTTT X Bf v5 (flightL n) S5 → (∀ j ∈ S4, j ∉ S5) → ∃ S, OwnAs X wz.heap.size (.slice A3' n3' c3') (.slice A6' n6' c6') (.slice A9' n9' c9') v4 v5 (startAs m n) S) := fun X hX v4 v5 S4 S5 h4 h5 h45 => by
    have e : ∀ j, j < Bf → j ≠ bx → X.heap[j]? = W.heap[j]? := fun j hj hne => (hX j hj hne).trans (k2 j hne)
    have q3 : OwnI X wz.heap.size (.slice A3' n3' c3') (startAs m n).rounds S3 := lawI.mono (lawI.stable O3 fun j hj => e j (by have := r3 j hj; omega) (by have := r3 j hj; have := u3 j hj; omega)) l3
    have q6 : OwnI X wz.heap.size (.slice A6' n6' c6') (startAs m n).before S6 := lawI.mono (lawI.stable O6 fun j hj => e j (by have := r6 j hj; omega) (by have := r6 j hj; have := u6 j hj; omega)) l6
    have q9 : OwnI X wz.heap.size (.slice A9' n9' c9') (startAs m n).now S9 := lawI.mono (lawI.stable O9 fun j hj => e j (by have := r9 j hj; omega) (by have := r9 j hj; have := u9 j hj; omega)) l9
    refine ⟨_, ownAs_of2 (Bf := Bf) (lo := fun i => if i = 1 then (I 3).1 else if i = 2 then (I 6).1 else (I 9).1) (hi := fun i => if i = 1 then (I 3).2 else if i = 2 then (I 6).2 else (I 9).2) q3 q6 q9 h4 h5 (by omega) h45 (fun j hj => ?_) (fun j hj => ?_) (fun j hj => ?_) ?_ ?_⟩
    · exact ⟨(r3 j hj).1, u3 j hj⟩
    · exact ⟨(r6 j hj).1, u6 j hj⟩
    · exact ⟨(r9 j hj).1, u9 j hj⟩
    · intro i j hi hj hne
      simp only [List.mem_cons, List.not_mem_nil, or_false] at hi hj
      rcases hi with rfl | rfl | rfl <;> rcases hj with rfl | rfl | rfl <;> simp at hne ⊢ <;> omega
    · intro i hi
      simp only [List.mem_cons, List.not_mem_nil, or_false] at hi
      rcases hi with rfl | rfl | rfl <;> simp <;> omega
  have Hbx1 := Lib.hid k1
  have Hsf : Hid (Since wz Wf) := k4
  have Hbb : Hid (wz.heap.size ≤ bx ∧ bx < Bf) := ⟨hbz, by omega⟩
  have HBf : Hid (Bf ≤ Wf.heap.size) := by show _ ≤ _; rw [hBf]; exact Nat.le_refl _
  have hs4 := Hsf.out
  clear hI1 hI2 d3_6 d3_9 d3_13 d6_9 d6_13 d9_13 l3 S3 O3 u3 t3 l6 S6 O6 u6 t6 l9 S9 O9 u9 t9 l13 x13 y13 z13 t13 e10 hB0 hWf k1 k2 k3 k4 r3 r6 r9 hBf hWB hbx hhx hbz h3 h6 h9 hW e0 e1 e2 e4 e5 e7 e8 I
  go_wp2
  go_loopw [22] (fun i wr => ∃ (k : Nat) (v4 v5 : Value) (S4 S5 : List Nat), k ≤ n.ends.length ∧ i = .int .i64 k ∧ BoxA wr bx #[.slice A3' n3' c3', .slice A6' n6' c6', .slice A9' n9' c9', v4, v5] ∧ OwnII wr Bf v4 ((freeL n).take k) S4 ∧ OwnTTT wr Bf v5 ((flightL n).take k) S5 ∧ (∀ j ∈ S4, j ∉ S5) ∧ (∀ j, j < Bf → j ≠ bx → wr.heap[j]? = Wf.heap[j]?) ∧ Since wz wr ∧ Bf ≤ wr.heap.size) (fun i _ => n.ends.length - (intOf i).toNat)
  case atStart => exact ⟨0, _, _, [], [], Nat.zero_le _, rfl, Hbx1.out, ownII_nil0 _ _, ownTTT_nil _ _, by simp, fun j _ _ => rfl, Hsf.out, HBf.out⟩
  case round =>
    obtain ⟨k, v4, v5, S4, S5, hk, rfl, hbox, ho4, ho5, h45, hkeep, hsr, hBr⟩ := hrel
    obtain ⟨A4, n4, c4', rfl⟩ := lawII.one ho4
    obtain ⟨A5, n5, c5, rfl⟩ := lawTTT.one ho5
    have Hbox := Lib.hid hbox
    have Ho4 := Lib.hid ho4
    have Ho5 := Lib.hid ho5
    have H45 := Lib.hid h45
    have Hkeep := Lib.hid hkeep
    have HBr := Lib.hid hBr
    obtain ⟨F4, hF4⟩ : ∃ F, (freeL n).take k = F := ⟨_, rfl⟩
    obtain ⟨F5, hF5⟩ : ∃ F, (flightL n).take k = F := ⟨_, rfl⟩
    rw [hF4] at Ho4
    rw [hF5] at Ho5
    have HF4 := Lib.hid hF4
    have HF5 := Lib.hid hF5
    clear hs4 hbox ho4 ho5 h45 hkeep
    by_cases hlt : k < n.ends.length
    · obtain ⟨es, hes⟩ := getx n.ends k hlt
      obtain ⟨b, offr, cr, ur, hA1, hkr, hc1, hrow⟩ := row_at (HNz.out wz (since_refl _)).es hes
      cases hA1
      obtain ⟨A1, y1, rfl, hz1, hz2, -⟩ := hrow
      unfold maxLen at hz2
      have q5 := lift_cell (have_cell hc1) hsr
      have q55 := q5 wr (since_refl _)
      have hel := HRow.out k es hes
      have m4 : IntKind.i64.wrap ((k : Int) + 1) = (k : Int) + 1 := wr64 _ (by omega) (by omega)
      have Hfl := Lib.hid (flightL_get hes)
      have Hfr := Lib.hid (freeL_get hes)
      have Hl5 : Hid (F5.length + 1 ≤ 4000000) := by show _ ≤ _; rw [← hF5, List.length_take, flightL_len]; omega
      have Hl4 : Hid (F4.length + 1 ≤ 4000000) := by show _ ≤ _; rw [← hF4, List.length_take, freeL_len]; omega
      have mkT := run_mk_letrows es.length (by omega)
      obtain ⟨wT, hwT⟩ : ∃ wT, wT = trunc wr Bf := ⟨_, rfl⟩
      have hsT : Since wT wr := by rw [hwT]; exact trunc_since wr HBr.out
      have hTs : wT.heap.size = Bf := by rw [hwT]; exact trunc_size wr HBr.out
      have hTa : Since wz wT := by rw [hwT]; exact since_trunc hsr HBr.out (Nat.le_trans Hbb.out.1 (Nat.le_of_lt Hbb.out.2))
      have hTb : BoxA wT bx #[.slice A3' n3' c3', .slice A6' n6' c6', .slice A9' n9' c9', .slice A4 n4 c4', .slice A5 n5 c5] := by
        obtain ⟨r, hr⟩ := Hbox.out
        exact ⟨r, by rw [hwT, trunc_blk wr HBr.out Hbb.out.2]; exact hr⟩
      have t0 := have_cell (hTb.cell 3 _ rfl).1
      have HTs := Lib.hid hTs
      have HTa := Lib.hid hTa
      have Hsr := Lib.hid hsr
      have HsT := Lib.hid hsT
      clear hes hc1 hwT hTs hTb hTa hsr hBr q5 hF4 hF5
      go_upto_region 5 with (fail)
      clear q55
      refine wp_region_chain0 (w0 := wT) 7 [false, false, false, false, true, true, true] (by kernel_rfl) (by kernel_rfl) (HsT.out) ?_
      simp only [selF, selT, List.take_succ_cons, List.take_zero, List.drop_succ_cons, List.drop_zero]
      refine pflow_val (v := ?_) rfl ?_ ?_; rotate_left; (intro W hW; go_simp; with_reducible rfl)
      simp only [Act.put, List.setIfInBounds_toArray, List.set_cons_succ, List.set_cons_zero]
      refine pflow_val (v := ?_) rfl ?_ ?_; rotate_left; (intro W hW; go_simp; with_reducible rfl)
      simp only [Act.put, List.setIfInBounds_toArray, List.set_cons_succ, List.set_cons_zero]
      refine pflow_val (v := ?_) rfl ?_ ?_; rotate_left; (intro W hW; go_simp; with_reducible rfl)
      simp only [Act.put, List.setIfInBounds_toArray, List.set_cons_succ, List.set_cons_zero]
      refine pflow_val (v := ?_) rfl ?_ ?_; rotate_left; (intro W hW; go_simp; with_reducible rfl)
      simp only [Act.put, List.setIfInBounds_toArray, List.set_cons_succ, List.set_cons_zero]
      obtain ⟨W, hWd⟩ : ∃ W, W = World.drew wr := ⟨_, rfl⟩
      rw [← hWd]
      have hW : Since wT W := by rw [hWd]; exact since_drew (HsT.out)
      refine Or.inl ⟨rfl, ?_⟩
      go_simp
      (with_reducible refine (roFree_any es.length _ (by omega)).mono ?_)
      rintro e W' ⟨u4, rfl, hof, hbf⟩
      refine ⟨_, rfl, (Since.after (since_drew HsT.out) hbf), ?_⟩
      replace hW := (Since.after (since_drew HsT.out) hbf)
      have Hw2 : Hid (Since wr W') := (show Since _ _ from Since.after (since_drew (since_refl wr)) hbf)
      have Hof2 : Hid (Own W' wr.heap.size u4 (List.replicate es.length (-1))) := (show Own W' wr.heap.size u4 _ from hof)
      obtain ⟨AF, nF, cF, rfl⟩ := lawI.one (S := u4.ownBlock.toList) ⟨hof, rfl⟩
      clear hof hbf
      (try simp only [Act.put, List.setIfInBounds_toArray, List.set_cons_succ, List.set_cons_zero])
      (try have HWd := Lib.hid hWd)
      (try clear hWd)
      refine tflow_alloc (v := ?_) (ob := ?_) rfl ?_ hW ?_; rotate_left 2
      (go_simp; first | with_reducible rfl | (refine ⟨?_, ?_⟩ <;> with_reducible rfl))
      intro w3 hw3d hw3s
      replace hW := hw3s
      clear hw3s
      have Ho3 : Hid (Own w3 Bf (.slice AF nF cF) (List.replicate es.length (-1))) := by show Own _ _ _ _; rw [hw3d]; exact (Hof2.out.keep (below_alloc _ _)).mono HBr.out
      have Hc3 : Hid (w3.cell? ⟨W'.heap.size, 0, none⟩ = some (.slice AF nF cF)) := by show _ = _; rw [hw3d]; simp
      have Hw3 : Hid (Since wr w3) := by show Since _ _; rw [hw3d]; exact since_alloc _ Hw2.out
      have HO53 := Lib.hid (lawII.keep Ho4.out Hw3.out.below)
      have Hd3 := Lib.hid (show ∀ j, (Value.slice AF nF cF).ownBlock = some j → j ∉ S4 from fun j hj hS => by have := (lawII.range Ho4.out j hS).2; have := (World.ownsRow.lt Hof2.out j hj).1; omega)
      have HB3 : Hid (Bf ≤ w3.heap.size) := Nat.le_trans HBr.out Hw3.out.below.size
      clear hw3d
      (try simp only [Act.put, List.setIfInBounds_toArray, List.set_cons_succ, List.set_cons_zero])
      refine tflow_of_wp (fun Q' HQ => ?_)
      (refine app_rowIIg (v := .slice A4 n4 c4') rfl _ _ rfl rfl HO53.out W'.heap.size rfl Hc3.out Ho3.out Hd3.out Hl4.out HB3.out ?_); intro g cap w6 S6 ho6 hg6 hS6 hb6; have hs6 : Since wT w6 := (show Below _ _ _ from Below.trans hW.below (by rw [HTs.out]; exact hb6)); refine HQ _ _ hs6 ?_; have Ho6 := Lib.hid ho6; have Hg6 := Lib.hid hg6; have HS6 := Lib.hid hS6; have Hb6 := Lib.hid hb6; have Hs6 := Lib.hid hs6; replace hW := hs6; clear ho6 hg6 hS6 hb6 hs6
      (try simp only [Act.put, List.setIfInBounds_toArray, List.set_cons_succ, List.set_cons_zero])
      simp only [TFlow]
      have hbl : ∀ j, j < Bf → w6.heap[j]? = wr.heap[j]? := fun j hj => (Hb6.out.block j hj).trans (Hw3.out.below.block j (Nat.lt_of_lt_of_le hj HBr.out))
      have Hbl := Lib.hid hbl
      have Hbox6 : Hid (BoxA w6 bx #[.slice A3' n3' c3', .slice A6' n6' c6', .slice A9' n9' c9', .slice A4 n4 c4', .slice A5 n5 c5]) := by
        obtain ⟨r, hr⟩ := Hbox.out
        exact ⟨r, by rw [hbl bx Hbb.out.2]; exact hr⟩
      have c3 := (Hbox6.out.cell 3 _ rfl).1
      have f3 := (Hbox6.out.cell 3 _ rfl).2
      have Hwz6 : Hid (Since wz w6) := HTa.out.after Hs6.out
      obtain ⟨w7, hw7⟩ : ∃ w7, w7 = w6.setCell ⟨bx, 3, none⟩ (.slice (some ⟨g, 0, none⟩) (F4.length + 1) cap) := ⟨_, rfl⟩
      have hne6 : ∀ j ∈ S6, Bf ≤ j := fun j hj => (lawII.range Ho6.out j hj).1
      have Hbox7 : Hid (BoxA w7 bx #[.slice A3' n3' c3', .slice A6' n6' c6', .slice A9' n9' c9', .slice (some ⟨g, 0, none⟩) (F4.length + 1) cap, .slice A5 n5 c5]) := by rw [hw7]; exact Hbox6.out.put 3 _
      have Ho7 : Hid (OwnII w7 Bf (.slice (some ⟨g, 0, none⟩) (F4.length + 1) cap) (F4 ++ [List.replicate es.length (-1)]) S6) := lawII.stable Ho6.out (fun j hj => by rw [hw7]; exact Below.heap_setCell w6 _ _ j (by have := hne6 j hj; have := Hbb.out.2; show j ≠ bx; omega))
      have Ho57 : Hid (OwnTTT w7 Bf (.slice A5 n5 c5) F5 S5) := lawTTT.stable Ho5.out (fun j hj => by
        have h8 := lawTTT.range Ho5.out j hj
        have h9 := Hbb.out.2
        rw [hw7, Below.heap_setCell w6 _ _ j (by show j ≠ bx; omega), Hg6.out.block j (by have := Hw3.out.below.size; omega) (fun e => H45.out j (by
          obtain ⟨vs, Ss, r1, r2, r3, r4, r5⟩ := Ho4.out
          rw [r4, ← e]; simp) hj)]
        exact Hw3.out.below.block j h8.2)
      have H67 : Hid (∀ j ∈ S6, j ∉ S5) := fun j hj hj5 => by
        have h8 := (lawTTT.range Ho5.out j hj5).2
        rcases HS6.out j hj with h9 | h9 | h9
        · exact H45.out j h9 hj5
        · have := (World.ownsRow.lt Hof2.out j h9).1; omega
        · have := Hw3.out.below.size; omega
      have Hk7 : Hid (∀ j, j < Bf → j ≠ bx → w7.heap[j]? = Wf.heap[j]?) := fun j hj hne => by
        rw [hw7, Below.heap_setCell w6 _ _ j (by exact hne)]
        exact (hbl j hj).trans (Hkeep.out j hj hne)
      have hwz7 : Since wz w7 := by rw [hw7]; exact Below.setCell Hwz6.out Hbb.out.1 _
      have HB7 : Hid (Bf ≤ w7.heap.size) := by
        show _ ≤ _
        rw [hw7]
        have := Hb6.out.size
        have := HB3.out
        simp [sizeSet]
        omega
      have Hw7 := Lib.hid hw7
      clear hW t0 hbl hw7 hne6
      go_upto_region 6 with (fail)
      rw [← Hw7.out]
      clear c3 f3
      obtain ⟨wU, hwU⟩ : ∃ wU, wU = trunc w7 Bf := ⟨_, rfl⟩
      have hsU : Since wU w7 := by rw [hwU]; exact trunc_since w7 HB7.out
      have hUs : wU.heap.size = Bf := by rw [hwU]; exact trunc_size w7 HB7.out
      have hUa : Since wz wU := by rw [hwU]; exact since_trunc hwz7 HB7.out (Nat.le_trans Hbb.out.1 (Nat.le_of_lt Hbb.out.2))
      have hUb : BoxA wU bx #[.slice A3' n3' c3', .slice A6' n6' c6', .slice A9' n9' c9', .slice (some ⟨g, 0, none⟩) (F4.length + 1) cap, .slice A5 n5 c5] := by
        obtain ⟨r, hr⟩ := Hbox7.out
        exact ⟨r, by rw [hwU, trunc_blk w7 HB7.out Hbb.out.2]; exact hr⟩
      have t0 := have_cell (hUb.cell 4 _ rfl).1
      have HUs := Lib.hid hUs
      have HUa := Lib.hid hUa
      have HsU := Lib.hid hsU
      clear hwU hsU hUs hUb hUa hwz7
      refine wp_region_chain0 (w0 := wU) 7 [false, false, false, false, true, true, true] (by kernel_rfl) (by kernel_rfl) (HsU.out) ?_
      simp only [selF, selT, List.take_succ_cons, List.take_zero, List.drop_succ_cons, List.drop_zero]
      refine pflow_val (v := ?_) rfl ?_ ?_; rotate_left; (intro W hW; go_simp; with_reducible rfl)
      simp only [Act.put, List.setIfInBounds_toArray, List.set_cons_succ, List.set_cons_zero]
      refine pflow_val (v := ?_) rfl ?_ ?_; rotate_left; (intro W hW; go_simp; with_reducible rfl)
      simp only [Act.put, List.setIfInBounds_toArray, List.set_cons_succ, List.set_cons_zero]
      refine pflow_val (v := ?_) rfl ?_ ?_; rotate_left; (intro W hW; go_simp; with_reducible rfl)
      simp only [Act.put, List.setIfInBounds_toArray, List.set_cons_succ, List.set_cons_zero]
      refine pflow_val (v := ?_) rfl ?_ ?_; rotate_left; (intro W hW; go_simp; with_reducible rfl)
      simp only [Act.put, List.setIfInBounds_toArray, List.set_cons_succ, List.set_cons_zero]
      obtain ⟨W, hWd⟩ : ∃ W, W = World.drew w7 := ⟨_, rfl⟩
      rw [← hWd]
      have hW : Since wU W := by rw [hWd]; exact since_drew (HsU.out)
      (try have HWd := Lib.hid hWd)
      (try clear hWd)
      refine tflow_alloc (v := ?_) (ob := ?_) rfl ?_ hW ?_; rotate_left 2
      (go_simp; first | with_reducible rfl | (refine ⟨?_, ?_⟩ <;> with_reducible rfl))
      intro w2 hw2d hw2s
      replace hW := hw2s
      clear hw2s
      have Ho2 : Hid (OwnTT w2 w7.heap.size (.slice (some ⟨w7.heap.size, 0, none⟩) es.length es.length) (List.replicate es.length []) [w7.heap.size]) := by show OwnTT _ _ _ _ _; rw [hw2d, HWd.out]; exact ownTT_new (World.drew w7) _ (by omega)
      have Hv2 : Hid (Since w7 w2) := by show Since _ _; rw [hw2d, HWd.out]; exact since_alloc _ (since_drew (since_refl _))
      rw [show W.heap.size = w7.heap.size from by rw [HWd.out]; rfl]
      clear hw2d HWd
      (try simp only [Act.put, List.setIfInBounds_toArray, List.set_cons_succ, List.set_cons_zero])
      (try have HWd := Lib.hid hWd)
      (try clear hWd)
      refine tflow_alloc (v := ?_) (ob := ?_) rfl ?_ hW ?_; rotate_left 2
      (go_simp; first | with_reducible rfl | (refine ⟨?_, ?_⟩ <;> with_reducible rfl))
      intro w8 hw8d hw8s
      replace hW := hw8s
      clear hw8s
      have Ho8 : Hid (OwnTT w8 Bf (.slice (some ⟨w7.heap.size, 0, none⟩) es.length es.length) (List.replicate es.length []) [w7.heap.size]) := by show OwnTT _ _ _ _ _; rw [hw8d]; exact lawTT.mono (lawTT.keep Ho2.out (below_alloc _ _)) HB7.out
      have Hc8 : Hid (w8.cell? ⟨w2.heap.size, 0, none⟩ = some (.slice (some ⟨w7.heap.size, 0, none⟩) es.length es.length)) := by show _ = _; rw [hw8d]; simp
      have Hw8 : Hid (Since w7 w8) := by show Since _ _; rw [hw8d]; exact since_alloc _ Hv2.out
      have HO58 := Lib.hid (lawTTT.keep Ho57.out Hw8.out.below)
      have Hd8 := Lib.hid (show ∀ j ∈ [w7.heap.size], j ∉ S5 from fun j hj hS => by have := (lawTTT.range Ho57.out j hS).2; simp at hj; omega)
      have HB8 : Hid (Bf ≤ w8.heap.size) := Nat.le_trans HB7.out Hw8.out.below.size
      clear hw8d
      (try simp only [Act.put, List.setIfInBounds_toArray, List.set_cons_succ, List.set_cons_zero])
      refine tflow_of_wp (fun Q' HQ => ?_)
      (refine app_rowTTT (v := .slice A5 n5 c5) rfl _ _ rfl rfl HO58.out w2.heap.size rfl Hc8.out Ho8.out Hd8.out Hl5.out HB8.out ?_); intro g9 cap9 w9 S9' ho9 hg9 hS9 hb9; have hs9 : Since wU w9 := (show Below _ _ _ from Below.trans hW.below (by rw [HUs.out]; exact hb9)); refine HQ _ _ hs9 ?_; have Ho9 := Lib.hid ho9; have Hg9 := Lib.hid hg9; have HS9 := Lib.hid hS9; have Hb9 := Lib.hid hb9; have Hs9 := Lib.hid hs9; replace hW := hs9; clear ho9 hg9 hS9 hb9 hs9
      (try simp only [Act.put, List.setIfInBounds_toArray, List.set_cons_succ, List.set_cons_zero])
      simp only [TFlow]
      have hbl : ∀ j, j < Bf → w9.heap[j]? = w7.heap[j]? := fun j hj => (Hb9.out.block j hj).trans (Hw8.out.below.block j (Nat.lt_of_lt_of_le hj HB7.out))
      have Hbl9 := Lib.hid hbl
      have Hbox9 : Hid (BoxA w9 bx #[.slice A3' n3' c3', .slice A6' n6' c6', .slice A9' n9' c9', .slice (some ⟨g, 0, none⟩) (F4.length + 1) cap, .slice A5 n5 c5]) := by
        obtain ⟨r, hr⟩ := Hbox7.out
        exact ⟨r, by rw [hbl bx Hbb.out.2]; exact hr⟩
      have c4 := (Hbox9.out.cell 4 _ rfl).1
      have f4 := (Hbox9.out.cell 4 _ rfl).2
      have Hwz9 : Hid (Since wz w9) := HUa.out.after Hs9.out
      clear hW t0 hbl
      go_wp2
      go_roundw
      case rel =>
        refine ⟨k + 1, .slice (some ⟨g, 0, none⟩) (F4.length + 1) cap, .slice (some ⟨g9, 0, none⟩) (F5.length + 1) cap9, S6, S9', by omega, by go_num, Hbox9.out.put 4 _, ?_, ?_, fun j hj hj9 => ?_, fun j hj hne => ?_, ?_, ?_⟩
        · rw [take_snoc Hfr.out, HF4.out]
          exact lawII.stable Ho7.out (fun j hj => by
            have h8 := lawII.range Ho7.out j hj
            have h9 := Hbb.out.2
            rw [Below.heap_setCell w9 _ _ j (by show j ≠ bx; omega), Hg9.out.block j (by have := Hw8.out.below.size; omega) (fun e => H67.out j hj (by
              obtain ⟨vs, Ss, r1, r2, r3, r4, r5⟩ := Ho57.out
              rw [r4, ← e]; simp))]
            exact Hw8.out.below.block j h8.2)
        · rw [take_snoc Hfl.out, HF5.out]
          exact lawTTT.stable Ho9.out (fun j hj => Below.heap_setCell w9 _ _ j (by have := (lawTTT.range Ho9.out j hj).1; have := Hbb.out.2; show j ≠ bx; omega))
        · have h8 := (lawII.range Ho7.out j hj).2
          rcases HS9.out j hj9 with h9 | h9 | h9
          · exact H67.out j hj h9
          · simp at h9; omega
          · have := Hw8.out.below.size; omega
        · rw [Below.heap_setCell w9 _ _ j (by exact hne)]
          exact (Hbl9.out j hj).trans (Hk7.out j hj hne)
        · exact Below.setCell Hwz9.out Hbb.out.1 _
        · have := Hb9.out.size
          have := HB8.out
          simp [sizeSet]
          omega
      case measure => simp [intOf]; omega
    · obtain rfl : k = n.ends.length := by omega
      have h4 := Ho4.out
      have h5 := Ho5.out
      rw [← HF4.out, List.take_of_length_le (by rw [freeL_len]; exact Nat.le_refl _)] at h4
      rw [← HF5.out, List.take_of_length_le (by rw [flightL_len]; exact Nat.le_refl _)] at h5
      obtain ⟨S, hO⟩ := HAll.out wr Hkeep.out _ _ S4 S5 h4 h5 H45.out
      have HO := Lib.hid hO
      have h01 : w0.heap.size = w.heap.size + 1 + 1 := by rw [Hw0.out]; simp
      have HR := HRz.out wr hsr
      rw [h01] at HR
      unfold nil5 at HR
      have Hza1 : Hid (w.heap.size + 1 + 1 < wz.heap.size) := by show _ < _; have := Hza.out; omega
      have b0 := (Hbox.out.cell 0 _ rfl).1
      have b1 := (Hbox.out.cell 1 _ rfl).1
      have b2 := (Hbox.out.cell 2 _ rfl).1
      have b3 := (Hbox.out.cell 3 _ rfl).1
      have b4 := (Hbox.out.cell 4 _ rfl).1
      have g0 := (HR.cell 0 _ rfl).1
      have g1 := (HR.cell 1 _ rfl).1
      have g2 := (HR.cell 2 _ rfl).1
      have g3 := (HR.cell 3 _ rfl).1
      have g4 := (HR.cell 4 _ rfl).1
      have f0 := (HR.cell 0 _ rfl).2
      have f1 := (HR.cell 1 _ rfl).2
      have f2 := (HR.cell 2 _ rfl).2
      have f3 := (HR.cell 3 _ rfl).2
      have f4 := (HR.cell 4 _ rfl).2
      have Hsr := Lib.hid hsr
      have HR' := Lib.hid HR
      clear h4 h5 hO HR hF4 hF5 hsr hlt hk h01 hBr
      go_wp2
      refine bodyPost_ret (v := .agg #[.slice A3' n3' c3', .slice A6' n6' c6', .slice A9' n9' c9', .slice A4 n4 c4', .slice A5 n5 c5]) (by simp [results, Tryz.results65, go_sem, *]) rfl ?_
      refine ⟨_, _, _, _, _, S, rfl, ?_, ?_⟩
      · refine (HO.out.stable (fun j hj => ?_)).mono (Nat.le_trans Hb0.out.size Hsz.out.below.size)
        have hj1 := (HO.out.range j hj).1
        have hj2 := Hza1.out
        rw [Below.heap_setCell _ _ _ j (by simp; omega), Below.heap_setCell _ _ _ j (by simp; omega), Below.heap_setCell _ _ _ j (by simp; omega), Below.heap_setCell _ _ _ j (by simp; omega), Below.heap_setCell _ _ _ j (by simp; omega)]
      · exact (((((Below.trans Hb0.out ((Hsz.out.after Hsr.out).below.mono Hb0.out.size)).setCell (by simp; omega) _).setCell (by simp; omega) _).setCell (by simp; omega) _).setCell (by simp; omega) _).setCell (by simp; omega) _
end Go.Proofs.YtomnaabadohecaaGreat
