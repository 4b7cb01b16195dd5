/- Parts of the proof: walks of functions and plain laws. -/
import Derived.Test.YtomnaabadohecaaGreatP7
import Derived.Test.YtomnaabadohecaaGreatP11
import Derived.Test.YtomnaabadohecaaGreatP4
import Derived.Test.YtomnaabadohecaaGreatP0
import Derived.LoopN
namespace Go.Proofs.YtomnaabadohecaaGreat
open Go.RowKit
/-! problems (written by tools/probgen.py) -/
def PrIn (w : World) (a b : Value) (x : Prob) : Prop := IntSS w a x.nodes ∧ IntSS w b x.edges
theorem PrIn.keep {w w' : World} {a b : Value} {x : Prob} (h : PrIn w a b x) (hb : Below w.heap.size w w') : PrIn w' a b x := ⟨h.1.keep hb, h.2.keep hb⟩
def szPr (x : Prob) : Nat := szII x.nodes + szII x.edges
set_option maxHeartbeats 4000000 in
theorem szProblem_any (a b : Value) (x : Prob) (l : Int) (hl : 0 ≤ l) (hl2 : l ≤ 1048576) (w : World) (h : PrIn w a b x) : Calls Tryz.prog 36 #[.agg #[.int .i64 x.labels, .int .i64 x.degree, a, b], .int .i64 l] w fun e w' => e = .returned (.int .i64 (left l (szPr x))) ∧ Below w.heap.size w w' := by
  obtain ⟨A1, z1, hv1, _⟩ := id h.1
  obtain ⟨A2, z2, hv2, _⟩ := id h.2
  obtain ⟨w0, hw0⟩ : ∃ w0, w0 = w.alloc (.cells #[.int .i64 x.labels, .int .i64 x.degree, a, b] 70) := ⟨_, rfl⟩
  have hb0 : Below w.heap.size w w0 := by rw [hw0]; exact below_alloc _ _
  have p0 : ∀ W, Since w0 W → W.cell? ⟨w.heap.size, 2, none⟩ = some a := fun W hW => bc hW (by rw [hw0]; simp)
  have p1 : ∀ W, Since w0 W → W.cell? ⟨w.heap.size, 3, none⟩ = some b := fun W hW => bc hW (by rw [hw0]; simp)
  have HN := Lib.hid (h.keep hb0)
  have Hb0 := Lib.hid hb0
  have Hw0 := Lib.hid hw0
  clear h hb0 hw0
  subst hv1 hv2
  by_cases c1 : l - (szII x.nodes : Nat) < 0
  · have hr := Lib.hid (show left l (szPr x) = -1 from left_neg (n := szII x.nodes) (by omega) (by unfold szPr; omega))
    have e1 : left l (szII x.nodes) = -1 := left_neg c1 (Nat.le_refl _)
    go_enter Tryz.func36, Tryz.ntmps36
    go_wp2_with fail
    rw [← Hw0.out]
    have hs0 : Since w0 w0 := since_refl _
    refine (szIntSS_any _ x.nodes l hl hl2 _ (by exact (HN.out.keep hs0).1)).mono ?_
    rw [e1]
    rintro e w' ⟨rfl, rfl⟩
    have hs1 := hs0
    go_wp2
    go_ret
    exact ⟨ret_int hr.out.symm, Hb0.out.trans (hs1.mono Hb0.out.size)⟩
  · have e1 : left l (szII x.nodes) = l - (szII x.nodes : Nat) := left_pos c1
    obtain ⟨t1, ht1⟩ : ∃ t, t = l - (szII x.nodes : Nat) := ⟨_, rfl⟩
    rw [← ht1] at e1 c1
    have hp1 : 0 ≤ t1 := by omega
    have hq1 : t1 ≤ 1048576 := by omega
    obtain ⟨q, hq⟩ : ∃ q, q = left t1 (szII x.edges) := ⟨_, rfl⟩
    have hr := Lib.hid (show left l (szPr x) = q by rw [hq]; unfold left szPr; split <;> split <;> omega)
    by_cases c9 : q < 0
    · have hq1 : q = -1 := by rw [hq]; unfold left; split <;> (unfold left at hq; split at hq <;> omega)
      have Ht1 := Lib.hid ht1
      clear ht1
      have Hq := Lib.hid hq
      clear hq
      subst hq1
      go_enter Tryz.func36, Tryz.ntmps36
      go_wp2_with fail
      rw [← Hw0.out]
      have hs0 : Since w0 w0 := since_refl _
      refine (szIntSS_any _ x.nodes l hl hl2 _ (by exact (HN.out.keep hs0).1)).mono ?_
      rw [e1]
      rintro e w' ⟨rfl, rfl⟩
      have hs1 := hs0
      go_wp2_with fail
      refine (szIntSS_any _ x.edges t1 hp1 hq1 _ (by exact (HN.out.keep hs1).2)).mono ?_
      rw [← Hq.out]
      rintro e w' ⟨rfl, rfl⟩
      have hs2 := hs1
      go_wp2
      go_ret
      exact ⟨ret_int hr.out.symm, Hb0.out.trans (hs2.mono Hb0.out.size)⟩
    · skip
      have Ht1 := Lib.hid ht1
      clear ht1
      have Hq := Lib.hid hq
      clear hq
      go_enter Tryz.func36, Tryz.ntmps36
      go_wp2_with fail
      rw [← Hw0.out]
      have hs0 : Since w0 w0 := since_refl _
      refine (szIntSS_any _ x.nodes l hl hl2 _ (by exact (HN.out.keep hs0).1)).mono ?_
      rw [e1]
      rintro e w' ⟨rfl, rfl⟩
      have hs1 := hs0
      go_wp2_with fail
      refine (szIntSS_any _ x.edges t1 hp1 hq1 _ (by exact (HN.out.keep hs1).2)).mono ?_
      rw [← Hq.out]
      rintro e w' ⟨rfl, rfl⟩
      have hs2 := hs1
      go_wp2
      go_ret
      exact ⟨ret_int hr.out.symm, Hb0.out.trans (hs2.mono Hb0.out.size)⟩
set_option maxHeartbeats 4000000 in
theorem eqProblem_same (a b a' b' : Value) (x : Prob) (w : World) (h : PrIn w a b x) (h' : PrIn w a' b' x) : Calls Tryz.prog 40 #[.agg #[.int .i64 x.labels, .int .i64 x.degree, a, b], .agg #[.int .i64 x.labels, .int .i64 x.degree, a', b']] w fun e w' => e = .returned (.bool true) ∧ Below w.heap.size w w' := by
  obtain ⟨A1, z1, hv1, _⟩ := id h.1
  obtain ⟨A2, z2, hv2, _⟩ := id h.2
  obtain ⟨C1, y1, hu1, _⟩ := id h'.1
  obtain ⟨C2, y2, hu2, _⟩ := id h'.2
  obtain ⟨w0, hw0⟩ : ∃ w0, w0 = (w.alloc (.cells #[.int .i64 x.labels, .int .i64 x.degree, a, b] 74)).alloc (.cells #[.int .i64 x.labels, .int .i64 x.degree, a', b'] 74) := ⟨_, rfl⟩
  have hb0 : Below w.heap.size w w0 := by rw [hw0]; exact ((Below.refl _ _).alloc (Nat.le_refl _) _).alloc (by simp) _
  have p0 : ∀ W, Since w0 W → W.cell? ⟨w.heap.size, 2, none⟩ = some a := fun W hW => bc hW (by rw [hw0]; simp)
  have q0 : ∀ W, Since w0 W → W.cell? ⟨w.heap.size + 1, 2, none⟩ = some a' := fun W hW => bc hW (by rw [hw0]; simp)
  have p1 : ∀ W, Since w0 W → W.cell? ⟨w.heap.size, 3, none⟩ = some b := fun W hW => bc hW (by rw [hw0]; simp)
  have q1 : ∀ W, Since w0 W → W.cell? ⟨w.heap.size + 1, 3, none⟩ = some b' := fun W hW => bc hW (by rw [hw0]; simp)
  have HN := Lib.hid (h.keep hb0)
  have HN' := Lib.hid (h'.keep hb0)
  have Hw0 := Lib.hid hw0
  have Hb0 := Lib.hid hb0
  clear h h' hb0 hw0
  subst hv1 hu1 hv2 hu2
  go_enter Tryz.func40, Tryz.ntmps40
  go_wp2_with fail
  rw [← Hw0.out]
  have hs0 : Since w0 w0 := since_refl _
  refine (eqIntSS_any _ _ x.nodes x.nodes _ (by exact (HN.out.keep hs0).1) (by exact (HN'.out.keep hs0).1)).mono ?_
  rw [decide_eq_true rfl]
  rintro e w1 ⟨rfl, hb1⟩
  have hs1 : Since w0 w1 := Since.trans hs0 hb1
  clear hb1
  go_wp2_with fail
  refine (eqIntSS_any _ _ x.edges x.edges _ (by exact (HN.out.keep hs1).2) (by exact (HN'.out.keep hs1).2)).mono ?_
  rw [decide_eq_true rfl]
  rintro e w2 ⟨rfl, hb2⟩
  have hs2 : Since w0 w2 := Since.trans hs1 hb2
  clear hb2
  go_wp2
  go_ret
  exact ⟨rfl, Hb0.out.trans (hs2.mono Hb0.out.size)⟩
end Go.Proofs.YtomnaabadohecaaGreat
namespace Go.Proofs.YtomnaabadohecaaGreat
open Go.ChangeShapes Go.WideShapes Go.ChangeAt Go.RowKit Go.Joins Go.Deep
/-! problems and lists of lists, opened -/
section
variable {H : Type} {enc : TypeId × Value → H} {W : World}
set_option maxRecDepth 100000 in
theorem open_ss2 {n : Nat} {v : Value} {y : DataW H × List MemPlace} (h : DataW.trod enc Tryz.prog W 0 (fun _ => true) true n 22 [v] = some y) : ∃ ess, IntSS W v ess ∧ ∀ es ∈ ess, I64s es := by
  rcases open_slice Tryz.underlying22 h with ⟨hcs, _⟩ | ⟨a, len, cap, m, n', D, Pl, hcs, _, hl, hm, hmm, _, hall⟩
  · simp at hcs; subst hcs
    exact ⟨[], ⟨none, 0, rfl, Nat.le_refl _, Nat.zero_le _, fun k e hk => by simp at hk⟩, by simp⟩
  · simp at hcs; subst hcs
    simp only [if_true] at hmm
    subst hmm
    have hc1 : Tryz.prog.cellsOf 24 = 1 := by kernel_rfl
    have each : ∀ i, ∃ u es, i < m → W.cell? (a.add i) = some u ∧ IntS W u es ∧ I64s es := fun i => by
      by_cases hi : i < m
      · obtain ⟨cs', h1, h2⟩ := hall i hi
        rw [hc1, Nat.mul_one] at h1
        obtain ⟨_, hlen, hcell⟩ := World.cells?_some h1
        match cs', hlen with
        | [u], _ =>
          have := hcell 0 (by omega)
          obtain ⟨es, h3, h4⟩ := open_ints1 h2
          refine ⟨u, es, fun _ => ⟨?_, h3, h4⟩⟩
          simpa [Addr.add] using this
      · exact ⟨.bool true, [], fun h => absurd h hi⟩
    obtain ⟨U, hU⟩ := Classical.axiomOfChoice each
    obtain ⟨E, hE⟩ := Classical.axiomOfChoice hU
    refine ⟨(List.range len).map E, ⟨some a, m, by simp, by simpa using hl, hm, fun k e hk => ?_⟩, fun e he => ?_⟩
    · have hk' : k < len := by have := lt_of_get hk; simpa using this
      obtain ⟨h1, h2, _⟩ := hE k (by omega)
      obtain ⟨b, off, rfl⟩ := plain_of_cell (hE 0 (by omega)).1
      rw [add_plain] at h1
      simp [hk'] at hk
      subst hk
      exact ⟨b, off, U k, rfl, h1, h2⟩
    · obtain ⟨k, hk, rfl⟩ := List.mem_map.1 he
      exact (hE k (by have := List.mem_range.1 hk; omega)).2.2
theorem array4p {α : Type} {cs : Array α} (h : cs.size = 4) : ∃ c0 c1 c2 c3, cs = #[c0, c1, c2, c3] := by
  obtain ⟨l⟩ := cs
  match l, h with
  | [c0, c1, c2, c3], _ => exact ⟨c0, c1, c2, c3, rfl⟩
theorem open_agg4p {P : Program} {r : Reach} {b0 base : Nat} {spare : Nat → Bool} {held : Bool} {t : TypeId} {f0 f1 f2 f3 : Field} {v : Value} {d : DataW H} {p : List MemPlace} (hs : P.underlying t = some (.struct #[f0, f1, f2, f3])) (hone : oneCellFields P #[f0, f1, f2, f3] = true) (hC : P.cellsOf t = 4)
    (hv : Value.okWide P W r b0 t v) (h : DataW.Trod enc P W base spare held t v d p) :
    ∃ (v0 v1 v2 v3 : Value) (y0 y1 y2 y3 : DataW H × List MemPlace) (n : Nat), v = .agg #[v0, v1, v2, v3] ∧ DataW.trod enc P W base spare held n f0.type [v0] = some y0 ∧ DataW.trod enc P W base spare held n f1.type [v1] = some y1 ∧ DataW.trod enc P W base spare held n f2.type [v2] = some y2 ∧ DataW.trod enc P W base spare held n f3.type [v3] = some y3 := by
  obtain ⟨cs, rfl, hsz⟩ := okWide_struct hs hv
  obtain ⟨c0, c1, c2, c3, rfl⟩ := array4p (hsz.trans hC)
  obtain ⟨fuel, hf⟩ := h
  obtain ⟨xs, n, _, _, hl, hlen, hf⟩ := DataW.trod_struct hs hf
  obtain ⟨o0, k0⟩ := hone_of hone 0 f0 rfl
  obtain ⟨o1, k1⟩ := hone_of hone 1 f1 rfl
  obtain ⟨o2, k2⟩ := hone_of hone 2 f2 rfl
  obtain ⟨o3, k3⟩ := hone_of hone 3 f3 rfl
  match xs, hlen with
  | [y0, y1, y2, y3], _ =>
    exact ⟨c0, c1, c2, c3, y0, y1, y2, y3, n, rfl, by simpa [Value.cells, o0, k0] using hf 0 f0 rfl, by simpa [Value.cells, o1, k1] using hf 1 f1 rfl, by simpa [Value.cells, o2, k2] using hf 2 f2 rfl, by simpa [Value.cells, o3, k3] using hf 3 f3 rfl⟩
def Int64SS (xss : List (List Int)) : Prop := ∀ xs ∈ xss, I64s xs
def Pr64 (p : Prob) : Prop := (-9223372036854775808 ≤ p.labels ∧ p.labels ≤ 9223372036854775807) ∧ (-9223372036854775808 ≤ p.degree ∧ p.degree ≤ 9223372036854775807) ∧ Int64SS p.nodes ∧ Int64SS p.edges
set_option maxRecDepth 100000 in
theorem open_prob {r : Reach} {b0 : Nat} {v : Value} {d : DataW H} {p : List MemPlace}
    (hv : Value.okWide Tryz.prog W r b0 70 v) (h : DataW.Trod enc Tryz.prog W 0 (fun _ => true) true 70 v d p) : ∃ a b x, v = .agg #[.int .i64 x.labels, .int .i64 x.degree, a, b] ∧ PrIn W a b x ∧ Pr64 x := by
  obtain ⟨v0, v1, v2, v3, y0, y1, y2, y3, m, rfl, h0, h1, h2, h3⟩ := open_agg4p Tryz.underlying70 (by kernel_rfl) (by kernel_rfl) hv h
  obtain ⟨s0, e0, _, b0⟩ := DataW.trod_int Tryz.underlying3 h0
  obtain ⟨s1, e1, _, b1⟩ := DataW.trod_int Tryz.underlying3 h1
  simp at e0 e1
  subst e0 e1
  obtain ⟨s2, e2, b2⟩ := open_ss2 h2
  obtain ⟨s3, e3, b3⟩ := open_ss2 h3
  exact ⟨v2, v3, ⟨s0, s1, s2, s3⟩, rfl, ⟨e2, e3⟩, wf_i64 b0, wf_i64 b1, b2, b3⟩
set_option maxRecDepth 100000 in
theorem open_intSS {r : Reach} {b0 : Nat} {v : Value} {d : DataW H} {p : List MemPlace}
    (hv : Value.okWide Tryz.prog W r b0 22 v) (h : DataW.Trod enc Tryz.prog W 0 (fun _ => true) true 22 v d p) : ∃ xs, IntSS W v xs ∧ Int64SS xs := by
  obtain ⟨a0, len0, cap0, rfl⟩ := okWide_slice Tryz.underlying22 hv
  obtain ⟨fuel, hf⟩ := h
  exact open_ss2 (by simpa [Value.cells] using hf)
end
end Go.Proofs.YtomnaabadohecaaGreat
namespace Go.Proofs.YtomnaabadohecaaGreat
open Go.RowKit
/-! marks (written by tools/markgen.py) -/
def cntPr (x : Prob) : Nat := (szR x.nodes : Nat) + (szR x.edges : Nat)
def mkPr (k : Nat) (x : Prob) : Prob := { labels := x.labels, degree := x.degree, nodes := mkII (k) x.nodes, edges := mkII (k + (szR x.nodes : Nat)) x.edges }
def OwnPr (w : World) (base : Nat) (v1 v2 : Value) (x : Prob) (S : List Nat) : Prop := ∃ S1 S2 : List Nat, OwnII w base v1 x.nodes S1 ∧ OwnII w base v2 x.edges S2 ∧ S = S1 ++ S2 ∧ S.Nodup
theorem OwnPr.read {w : World} {base : Nat} {v1 v2 : Value} {x : Prob} {S : List Nat} (h : OwnPr w base v1 v2 x S) : PrIn w v1 v2 x := by
  obtain ⟨S1, S2, h1, h2, _, _⟩ := h
  exact ⟨h1.read, h2.read⟩
theorem OwnPr.range {w : World} {base : Nat} {v1 v2 : Value} {x : Prob} {S : List Nat} (h : OwnPr w base v1 v2 x S) : ∀ k ∈ S, base ≤ k ∧ k < w.heap.size := by
  obtain ⟨S1, S2, h1, h2, rfl, _⟩ := h
  intro k hk
  simp only [List.mem_append] at hk
  rcases hk with hk | hk
  · exact lawII.range h1 k hk
  · exact lawII.range h2 k hk
theorem OwnPr.stable {w' : World} {w : World} {base : Nat} {v1 v2 : Value} {x : Prob} {S : List Nat} (h : OwnPr w base v1 v2 x S) (hs : ∀ k ∈ S, w'.heap[k]? = w.heap[k]?) : OwnPr w' base v1 v2 x S := by
  obtain ⟨S1, S2, h1, h2, h8, h9⟩ := h
  refine ⟨S1, S2, lawII.stable h1 fun k hk => hs k (by rw [h8]; simp [hk]), lawII.stable h2 fun k hk => hs k (by rw [h8]; simp [hk]), h8, h9⟩
theorem OwnPr.keep {w' : World} {w : World} {base : Nat} {v1 v2 : Value} {x : Prob} {S : List Nat} (h : OwnPr w base v1 v2 x S) (hb : Below w.heap.size w w') : OwnPr w' base v1 v2 x S := h.stable fun k hk => hb.block k (h.range k hk).2
theorem OwnPr.mono {base' : Nat} {w : World} {base : Nat} {v1 v2 : Value} {x : Prob} {S : List Nat} (h : OwnPr w base v1 v2 x S) (hb : base' ≤ base) : OwnPr w base' v1 v2 x S := by
  obtain ⟨S1, S2, h1, h2, h8, h9⟩ := h
  exact ⟨S1, S2, lawII.mono h1 hb, lawII.mono h2 hb, h8, h9⟩
set_option maxHeartbeats 8000000 in
theorem markProblem_any (v1 v2 : Value) (x : Prob) (k : Nat) (w : World) (base : Nat) (S : List Nat) (h : OwnPr w base v1 v2 x S) (hl : k + cntPr x ≤ 4611686018427387904) :
    Calls Tryz.prog 46 #[.agg #[.int .i64 x.labels, .int .i64 x.degree, v1, v2], .int .i64 k] w fun e w' => e = .returned (.int .i64 ((k + cntPr x : Nat) : Int)) ∧ OwnPr w' base v1 v2 (mkPr k x) S ∧ Only S w w' := by
  have hr := h.range
  obtain ⟨S1, S2, h1, h2, h8, h9⟩ := h
  unfold cntPr at hl ⊢
  have hnd := h9
  rw [h8] at hnd
  have d1_2 : ∀ j ∈ S1, j ∉ S2 := fun j a b => (List.nodup_append.1 hnd).2.2 j a j b rfl
  have b1 := fun j hj => (lawII.range h1 j hj).2
  have b2 := fun j hj => (lawII.range h2 j hj).2
  have hb0 : Below w.heap.size w (w.alloc (.cells #[.int .i64 x.labels, .int .i64 x.degree, v1, v2] 74)) := (Below.refl _ _).alloc (Nat.le_refl _) _
  have H1 := Lib.hid (lawII.keep h1 hb0)
  have B1 := Lib.hid b1
  have H2 := Lib.hid (lawII.keep h2 hb0)
  have B2 := Lib.hid b2
  obtain ⟨A1, n1, z1, rfl⟩ := lawII.one h1
  obtain ⟨A2, n2, z2, rfl⟩ := lawII.one h2
  have D1_2 := Lib.hid d1_2
  have H8 := Lib.hid h8
  have H9 := Lib.hid h9
  have Hb0 := Lib.hid hb0
  clear h8 h9 hnd hr hb0 h1 b1 h2 b2 d1_2
  go_enter Tryz.func46, Tryz.ntmps46
  go_wp2_with fail
  refine (markIntSS_any _ x.nodes (k) _ base S1 H1.out (by omega)).mono ?_
  rintro e w1 ⟨rfl, o, t⟩
  have c1 : w1.cell? ⟨w.heap.size, 3, none⟩ = some (.slice A2 n2 z2) := t.cell (fun hh => by have := B1.out _ hh; simp at this) (by simp)
  have H1' := Lib.hid o
  clear H1 o
  have H1 := H1'
  clear H1'
  have H2' := Lib.hid (lawII.only H2.out t (fun j a b => D1_2.out j b a))
  clear H2
  have H2 := H2'
  clear H2'
  have T1 := Lib.hid t
  clear t
  go_wp2_with fail
  refine (markIntSS_any _ x.edges (k + (szR x.nodes : Nat)) _ base S2 H2.out (by omega)).mono ?_
  rintro e w2 ⟨rfl, o, t⟩
  clear c1
  have H2' := Lib.hid o
  clear H2 o
  have H2 := H2'
  clear H2'
  have H1' := Lib.hid (lawII.only H1.out t D1_2.out)
  clear H1
  have H1 := H1'
  clear H1'
  have T2 := Lib.hid t
  clear t
  go_wp2_with fail
  go_ret
  refine ⟨ret_int (by omega), ⟨S1, S2, H1.out, H2.out, H8.out, H9.out⟩, ?_⟩
  have m1 : ∀ j ∈ S1, j ∈ S := fun j hj => by rw [H8.out]; simp [hj]
  have m2 : ∀ j ∈ S2, j ∈ S := fun j hj => by rw [H8.out]; simp [hj]
  exact (((Only.of_below Hb0.out).trans (T1.out.mono m1)).trans (T2.out.mono m2))
end Go.Proofs.YtomnaabadohecaaGreat
namespace Go.Proofs.YtomnaabadohecaaGreat
open Go.RowKit
set_option maxHeartbeats 8000000 in
theorem toProblem_own (a b : Value) (x : Prob) (w : World) (h : PrIn w a b x) (hl : szPr x ≤ 1048576) : Calls Tryz.prog 38 #[.agg #[.int .i64 x.labels, .int .i64 x.degree, a, b]] w fun e w' => ∃ a b S, e = .returned (.agg #[.int .i64 x.labels, .int .i64 x.degree, a, b]) ∧ OwnPr w' w.heap.size a b x S ∧ Below w.heap.size w w' := by
  unfold szPr at hl
  have hl1 : szII x.nodes ≤ 1048576 := by omega
  have hl2 : szII x.edges ≤ 1048576 := by omega
  obtain ⟨A1, z1, hv1, _⟩ := id h.1
  obtain ⟨A2, z2, hv2, _⟩ := id h.2
  subst hv1 hv2
  obtain ⟨wa, hwa⟩ : ∃ wa, wa = ((w.alloc (.cells #[.int .i64 x.labels, .int .i64 x.degree, .slice A1 x.nodes.length z1, .slice A2 x.edges.length z2] 70)).alloc (.cells #[.int .i64 0, .int .i64 0, .slice none 0 0, .slice none 0 0] 74)).alloc (.cells #[.int .i64 x.labels, .int .i64 x.degree, .slice none 0 0, .slice none 0 0] 74) := ⟨_, rfl⟩
  have hba : Below w.heap.size w wa := by rw [hwa]; exact below3 _ _ _ _
  have hsa : wa.heap.size = w.heap.size + 3 := by rw [hwa]; simp
  have b1 : BoxA wa w.heap.size #[.int .i64 x.labels, .int .i64 x.degree, .slice A1 x.nodes.length z1, .slice A2 x.edges.length z2] := by rw [hwa]; exact ((BoxA.new _ _ _).alloc _).alloc _
  have b2 : BoxA wa (w.heap.size + 1) #[.int .i64 0, .int .i64 0, .slice none 0 0, .slice none 0 0] := by
    rw [hwa]
    have := (BoxA.new (w.alloc (.cells #[.int .i64 x.labels, .int .i64 x.degree, .slice A1 x.nodes.length z1, .slice A2 x.edges.length z2] 70)) #[.int .i64 0, .int .i64 0, .slice none 0 0, .slice none 0 0] 74).alloc (.cells #[.int .i64 x.labels, .int .i64 x.degree, .slice none 0 0, .slice none 0 0] 74)
    simpa using this
  have b3 : BoxA wa (w.heap.size + 2) #[.int .i64 x.labels, .int .i64 x.degree, .slice none 0 0, .slice none 0 0] := by
    rw [hwa]
    have := BoxA.new ((w.alloc (.cells #[.int .i64 x.labels, .int .i64 x.degree, .slice A1 x.nodes.length z1, .slice A2 x.edges.length z2] 70)).alloc (.cells #[.int .i64 0, .int .i64 0, .slice none 0 0, .slice none 0 0] 74)) #[.int .i64 x.labels, .int .i64 x.degree, .slice none 0 0, .slice none 0 0] 74
    simpa using this
  have H0 := Lib.hid h
  have Ha := Lib.hid hwa
  have X0 := Lib.hid b1
  have Y0 := Lib.hid b2
  have Z0 := Lib.hid b3
  have HB0 := Lib.hid hba
  clear h hba hwa b1 b2 b3 hl
  go_enter Tryz.func38, Tryz.ntmps38
  go_wp2_with fail
  rw [← Ha.out]
  refine (toIntSS_any _ x.nodes _ (by exact (H0.out.keep HB0.out).1) hl1).mono ?_
  rintro e w1 ⟨g1, S1, rfl, ko1, hb1⟩
  have hz1 := hb1.size
  have hsz1 : wa.heap.size ≤ wa.heap.size := Nat.le_refl _
  obtain ⟨W1, hW1⟩ : ∃ W1, W1 = w1.setCell ⟨w.heap.size + 2, 2, none⟩ (.slice (some ⟨g1, 0, none⟩) x.nodes.length x.nodes.length) := ⟨_, rfl⟩
  obtain ⟨q1, f1⟩ := (Z0.out.below hb1 (by omega)).cell 2 _ rfl
  have b1 : BoxA W1 w.heap.size #[.int .i64 x.labels, .int .i64 x.degree, .slice A1 x.nodes.length z1, .slice A2 x.edges.length z2] := by rw [hW1]; exact (X0.out.below hb1 (by omega)).set (by simp)
  have b2 : BoxA W1 (w.heap.size + 1) #[.int .i64 0, .int .i64 0, .slice none 0 0, .slice none 0 0] := by rw [hW1]; exact (Y0.out.below hb1 (by omega)).set (by simp)
  have b3 : BoxA W1 (w.heap.size + 2) #[.int .i64 x.labels, .int .i64 x.degree, .slice (some ⟨g1, 0, none⟩) x.nodes.length x.nodes.length, .slice none 0 0] := by rw [hW1]; obtain ⟨r, hr⟩ := Z0.out.below hb1 (by omega); exact ⟨r, by simp [World.setCell, Array.getElem?_modify, hr]⟩
  have hB1 : Below w.heap.size w W1 := by rw [hW1]; exact (HB0.out.trans (hb1.mono (by omega))).setCell (by simp) _
  have hsW1 : wa.heap.size ≤ W1.heap.size := by rw [hW1, sizeSet]; omega
  have k1 : OwnII W1 wa.heap.size (.slice (some ⟨g1, 0, none⟩) x.nodes.length x.nodes.length) x.nodes S1 := by rw [hW1]; exact (RowLaw.put lawII ko1 (p := ⟨w.heap.size + 2, 2, none⟩) (by show w.heap.size + 2 < _; omega) _)
  have U1 : Hid (∀ k ∈ S1, k < W1.heap.size) := fun k hk => (lawII.range k1 k hk).2
  have K1_1 := Lib.hid k1
  clear k1
  have hle1 : wa.heap.size ≤ W1.heap.size := by rw [hW1, sizeSet]; exact hb1.size
  have HB1 := Lib.hid hB1
  have HW1 := Lib.hid hW1
  have X1 := Lib.hid b1
  have p1 := (b1.cell 3 _ rfl).1
  rw [hW1] at p1
  have Y1 := Lib.hid b2
  have Z1 := Lib.hid b3
  clear b1
  clear b2 b3 hB1 hb1 ko1
  clear hW1
  go_wp2_with fail
  clear p1 q1 f1
  rw [← HW1.out]
  refine (toIntSS_any _ x.edges _ (by exact (H0.out.keep HB1.out).2) hl2).mono ?_
  rintro e w2 ⟨g2, S2, rfl, ko2, hb2⟩
  have hz2 := hb2.size
  have hsz2 : wa.heap.size ≤ W1.heap.size := hsW1
  obtain ⟨W2, hW2⟩ : ∃ W2, W2 = w2.setCell ⟨w.heap.size + 2, 3, none⟩ (.slice (some ⟨g2, 0, none⟩) x.edges.length x.edges.length) := ⟨_, rfl⟩
  obtain ⟨q2, f2⟩ := (Z1.out.below hb2 (by omega)).cell 3 _ rfl
  have b2 : BoxA W2 (w.heap.size + 1) #[.int .i64 0, .int .i64 0, .slice none 0 0, .slice none 0 0] := by rw [hW2]; exact (Y1.out.below hb2 (by omega)).set (by simp)
  have b3 : BoxA W2 (w.heap.size + 2) #[.int .i64 x.labels, .int .i64 x.degree, .slice (some ⟨g1, 0, none⟩) x.nodes.length x.nodes.length, .slice (some ⟨g2, 0, none⟩) x.edges.length x.edges.length] := by rw [hW2]; obtain ⟨r, hr⟩ := Z1.out.below hb2 (by omega); exact ⟨r, by simp [World.setCell, Array.getElem?_modify, hr]⟩
  have hB2 : Below w.heap.size w W2 := by rw [hW2]; exact (HB1.out.trans (hb2.mono (by omega))).setCell (by simp) _
  have hsW2 : wa.heap.size ≤ W2.heap.size := by rw [hW2, sizeSet]; omega
  have k1 : OwnII W2 wa.heap.size (.slice (some ⟨g1, 0, none⟩) x.nodes.length x.nodes.length) x.nodes S1 := by rw [hW2]; exact (RowLaw.put lawII (lawII.keep K1_1.out hb2) (p := ⟨w.heap.size + 2, 3, none⟩) (by show w.heap.size + 2 < _; omega) _)
  have K1_2 := Lib.hid k1
  have k2 : OwnII W2 W1.heap.size (.slice (some ⟨g2, 0, none⟩) x.edges.length x.edges.length) x.edges S2 := by rw [hW2]; exact (RowLaw.put lawII ko2 (p := ⟨w.heap.size + 2, 3, none⟩) (by show w.heap.size + 2 < _; omega) _)
  have U2 : Hid (∀ k ∈ S2, k < W2.heap.size) := fun k hk => (lawII.range k2 k hk).2
  have K2_2 := Lib.hid k2
  clear k1 k2
  have hle2 : W1.heap.size ≤ W2.heap.size := by rw [hW2, sizeSet]; exact hb2.size
  have HB2 := Lib.hid hB2
  have HW2 := Lib.hid hW2
  have Y2 := Lib.hid b2
  have Z2 := Lib.hid b3
  have hfin : Hid (∀ y0 y1 y2 y3, OwnPr ((((W2.setCell ⟨w.heap.size + 1, 0, none⟩ y0).setCell ⟨w.heap.size + 1, 1, none⟩ y1).setCell ⟨w.heap.size + 1, 2, none⟩ y2).setCell ⟨w.heap.size + 1, 3, none⟩ y3) w.heap.size (.slice (some ⟨g1, 0, none⟩) x.nodes.length x.nodes.length) (.slice (some ⟨g2, 0, none⟩) x.edges.length x.edges.length) x (S1 ++ S2) ∧ Below w.heap.size w ((((W2.setCell ⟨w.heap.size + 1, 0, none⟩ y0).setCell ⟨w.heap.size + 1, 1, none⟩ y1).setCell ⟨w.heap.size + 1, 2, none⟩ y2).setCell ⟨w.heap.size + 1, 3, none⟩ y3)) := fun y0 y1 y2 y3 => by
    have r1 := (RowLaw.put lawII (RowLaw.put lawII (RowLaw.put lawII (RowLaw.put lawII K1_2.out (p := ⟨w.heap.size + 1, 0, none⟩) (by show w.heap.size + 1 < _; omega) y0) (p := ⟨w.heap.size + 1, 1, none⟩) (by show w.heap.size + 1 < _; omega) y1) (p := ⟨w.heap.size + 1, 2, none⟩) (by show w.heap.size + 1 < _; omega) y2) (p := ⟨w.heap.size + 1, 3, none⟩) (by show w.heap.size + 1 < _; omega) y3)
    have r2 := (RowLaw.put lawII (RowLaw.put lawII (RowLaw.put lawII (RowLaw.put lawII K2_2.out (p := ⟨w.heap.size + 1, 0, none⟩) (by show w.heap.size + 1 < _; omega) y0) (p := ⟨w.heap.size + 1, 1, none⟩) (by show w.heap.size + 1 < _; omega) y1) (p := ⟨w.heap.size + 1, 2, none⟩) (by show w.heap.size + 1 < _; omega) y2) (p := ⟨w.heap.size + 1, 3, none⟩) (by show w.heap.size + 1 < _; omega) y3)
    have hnd : (S1 ++ S2).Nodup := List.nodup_append.2 ⟨lawII.nodup r1, lawII.nodup r2, fun a ha b hb e => by have h1 := U1.out a ha; have h2 := (lawII.range r2 b hb).1; omega⟩
    exact ⟨⟨S1, S2, lawII.mono r1 (by omega), lawII.mono r2 (by omega), rfl, hnd⟩, ((((hB2.setCell (p := ⟨w.heap.size + 1, 0, none⟩) (by show w.heap.size ≤ w.heap.size + 1; omega) _).setCell (p := ⟨w.heap.size + 1, 1, none⟩) (by show w.heap.size ≤ w.heap.size + 1; omega) _).setCell (p := ⟨w.heap.size + 1, 2, none⟩) (by show w.heap.size ≤ w.heap.size + 1; omega) _).setCell (p := ⟨w.heap.size + 1, 3, none⟩) (by show w.heap.size ≤ w.heap.size + 1; omega) _)⟩
  rw [hW2] at hfin
  obtain ⟨t0, u0⟩ := b3.cell 0 _ rfl
  obtain ⟨m0, n0⟩ := b2.cell 0 _ rfl
  obtain ⟨t1, u1⟩ := b3.cell 1 _ rfl
  obtain ⟨m1, n1⟩ := b2.cell 1 _ rfl
  obtain ⟨t2, u2⟩ := b3.cell 2 _ rfl
  obtain ⟨m2, n2⟩ := b2.cell 2 _ rfl
  obtain ⟨t3, u3⟩ := b3.cell 3 _ rfl
  obtain ⟨m3, n3⟩ := b2.cell 3 _ rfl
  rw [hW2] at t0 m0 n0 t1 m1 n1 t2 m2 n2 t3 m3 n3
  clear u0 u1 u2 u3
  clear b2 b3 hB2 hb2 ko2 hW2
  go_wp2
  refine bodyPost_ret (v := .agg #[.int .i64 x.labels, .int .i64 x.degree, .slice (some ⟨g1, 0, none⟩) x.nodes.length x.nodes.length, .slice (some ⟨g2, 0, none⟩) x.edges.length x.edges.length]) (by simp [results, Tryz.results38, go_sem, *]) rfl ?_
  exact ⟨_, _, _, rfl, (hfin.out _ _ _ _).1, (hfin.out _ _ _ _).2⟩
end Go.Proofs.YtomnaabadohecaaGreat
namespace Go.Proofs.YtomnaabadohecaaGreat
open Go.RowKit
/-- the ranges of a scheme -/
def rangesL (s : Int) : List Int := if s = 4 then [100] else if s = 5 then [100, 10, 2] else []
theorem plRanges_any (s : Int) (w : World) :
    Calls Tryz.prog 240 #[.int .i64 s] w fun e w' => ∃ u, e = .returned u ∧ Own w' w.heap.size u (rangesL s) ∧ Below w.heap.size w w' := by
  unfold rangesL
  by_cases h4 : s = 4
  · subst h4
    go_enter Tryz.func240, Tryz.ntmps240
    go_wp2
    go_ret
    exact ⟨_, rfl, own_lit w [100] (by simp [maxLen]), below_alloc _ _⟩
  · by_cases h5 : s = 5
    · subst h5
      go_enter Tryz.func240, Tryz.ntmps240
      go_wp2
      go_ret
      exact ⟨_, rfl, own_lit w [100, 10, 2] (by simp [maxLen]), below_alloc _ _⟩
    · have h4' : (s == 4) = false := by simpa using h4
      have h5' : (s == 5) = false := by simpa using h5
      rw [if_neg h4, if_neg h5]
      clear h4 h5
      go_enter Tryz.func240, Tryz.ntmps240
      go_wp2
      go_ret
      exact ⟨_, rfl, own_nil _ _, Below.refl _ _⟩
theorem rangesOf_any (s : Int) (w : World) :
    Calls Tryz.prog 282 #[.int .i64 s] w fun e w' => ∃ u, e = .returned u ∧ Own w' w.heap.size u (rangesL s) ∧ Below w.heap.size w w' := by
  unfold rangesL
  by_cases h4 : s = 4
  · subst h4
    go_enter Tryz.func282, Tryz.ntmps282
    go_wp2
    go_ret
    exact ⟨_, rfl, own_lit w [100] (by simp [maxLen]), below_alloc _ _⟩
  · by_cases h5 : s = 5
    · subst h5
      go_enter Tryz.func282, Tryz.ntmps282
      go_wp2
      go_ret
      exact ⟨_, rfl, own_lit w [100, 10, 2] (by simp [maxLen]), below_alloc _ _⟩
    · have h4' : (s == 4) = false := by simpa using h4
      have h5' : (s == 5) = false := by simpa using h5
      rw [if_neg h4, if_neg h5]
      clear h4 h5
      go_enter Tryz.func282, Tryz.ntmps282
      go_wp2
      go_ret
      exact ⟨_, rfl, own_nil _ _, Below.refl _ _⟩
end Go.Proofs.YtomnaabadohecaaGreat
namespace Go.Proofs.YtomnaabadohecaaGreat
open Go.RowKit
theorem Own.lit {w : World} {base : Nat} {v : Value} {x : Int} {xs : List Int} (h : Own w base v (x :: xs)) : ∃ g c, v = .slice (some ⟨g, 0, none⟩) (xs.length + 1) c ∧ base ≤ g ∧ g < w.heap.size ∧ xs.length + 1 ≤ c ∧ ∀ k y, (x :: xs)[k]? = some y → w.cell? ⟨g, k, none⟩ = some (.int .i64 y) := by
  rcases h.2 with ⟨rfl, h0⟩ | ⟨g, cap, cur, rfl, hb, hg, hnc, hm, hcs, htake⟩
  · simp at h0
  · exact ⟨g, cap, rfl, hb, (Array.getElem?_eq_some_iff.1 hg).1, hnc, fun k y hy => Own.cell h hy⟩
theorem Own.lit0 {w : World} {base : Nat} {v : Value} (h : Own w base v []) : ∃ A c, v = .slice A 0 c := by
  rcases h.2 with ⟨rfl, h0⟩ | ⟨g, cap, cur, rfl, _⟩
  · exact ⟨_, _, rfl⟩
  · exact ⟨_, _, rfl⟩
theorem IntS.lit {w : World} {v : Value} {x : Int} {xs : List Int} (h : IntS w v (x :: xs)) : ∃ b off c, v = .slice (some ⟨b, off, none⟩) (xs.length + 1) c ∧ b < w.heap.size ∧ ∀ k y, (x :: xs)[k]? = some y → w.cell? ⟨b, off + k, none⟩ = some (.int .i64 y) := by
  obtain ⟨A, c, rfl, hlc, hm, hA⟩ := h
  obtain ⟨b, off, rfl, h0⟩ := hA 0 x rfl
  refine ⟨b, off, c, rfl, World.block_lt_of_cell? w _ h0, fun k y hy => ?_⟩
  obtain ⟨b', off', he, hc⟩ := hA k y hy
  injection he with he
  injection he with h1 h2
  subst h1 h2
  exact hc
theorem plJoin5 (v : Value) (a b c d : Int) (w : World) (h : IntS w v [a, b, c, d]) (ha : 0 ≤ a) (ha' : a ≤ 999999999999) (hb : 0 ≤ b) (hb' : b ≤ 99) (hc : 0 ≤ c) (hc' : c ≤ 9) (hd : 0 ≤ d) (hd' : d ≤ 1) :
    Calls Tryz.prog 179 #[.int .i64 5, v] w fun e w' => e = .returned (.int .i64 (((a * 100 + b) * 10 + c) * 2 + d)) ∧ Below w.heap.size w w' := by
  obtain ⟨B, off, cp, rfl, hB, hcl⟩ := h.lit
  have c0 := hcl 0 a rfl
  have c1 := hcl 1 b rfl
  have c2 := hcl 2 c rfl
  have c3 := hcl 3 d rfl
  clear hcl h
  simp only [Nat.add_zero] at c0
  go_enter Tryz.func179, Tryz.ntmps179
  go_wp2_with fail
  refine (plRanges_any _ _).mono ?_
  rintro e w1 ⟨u, rfl, ho, hb1⟩
  obtain ⟨g, cc, rfl, hg, hg2, hcc, hcl⟩ := Own.lit (show Own w1 _ u (100 :: [10, 2]) from ho)
  have r0 := hcl 0 100 rfl
  have r1 := hcl 1 10 rfl
  have r2 := hcl 2 2 rfl
  clear hcl
  have d0 := (hb1.cell (p := ⟨B, off, none⟩) hB).trans c0
  have d1 := (hb1.cell (p := ⟨B, off + 1, none⟩) hB).trans c1
  have d2 := (hb1.cell (p := ⟨B, off + 2, none⟩) hB).trans c2
  have d3 := (hb1.cell (p := ⟨B, off + 3, none⟩) hB).trans c3
  have Hb1 := Lib.hid hb1
  clear ho hb1 c0 c1 c2 c3
  go_wp2
  refine wp_loop_rounds 4 ?_
  iterate 4
    rw [rounds_succ]
    go_wp2
  go_ret
  exact ⟨rfl, Hb1.out⟩
theorem plJoin4 (v : Value) (a b : Int) (w : World) (h : IntS w v [a, b]) (ha : 0 ≤ a) (ha' : a ≤ 999999999999) (hb : 0 ≤ b) (hb' : b ≤ 99) :
    Calls Tryz.prog 179 #[.int .i64 4, v] w fun e w' => e = .returned (.int .i64 (a * 100 + b)) ∧ Below w.heap.size w w' := by
  obtain ⟨B, off, cp, rfl, hB, hcl⟩ := h.lit
  have c0 := hcl 0 a rfl
  have c1 := hcl 1 b rfl
  clear hcl h
  simp only [Nat.add_zero] at c0
  go_enter Tryz.func179, Tryz.ntmps179
  go_wp2_with fail
  refine (plRanges_any _ _).mono ?_
  rintro e w1 ⟨u, rfl, ho, hb1⟩
  obtain ⟨g, cc, rfl, hg, hg2, hcc, hcl⟩ := Own.lit (show Own w1 _ u (100 :: []) from ho)
  have r0 := hcl 0 100 rfl
  clear hcl
  have d0 := (hb1.cell (p := ⟨B, off, none⟩) hB).trans c0
  have d1 := (hb1.cell (p := ⟨B, off + 1, none⟩) hB).trans c1
  have Hb1 := Lib.hid hb1
  clear ho hb1 c0 c1
  go_wp2
  refine wp_loop_rounds 2 ?_
  iterate 2
    rw [rounds_succ]
    go_wp2
  go_ret
  exact ⟨rfl, Hb1.out⟩
theorem plJoin1 (v : Value) (a : Int) (s : Int) (hs : s ≠ 4) (hs2 : s ≠ 5) (w : World) (h : IntS w v [a]) (ha : 0 ≤ a) (ha' : a ≤ 999999999999) :
    Calls Tryz.prog 179 #[.int .i64 s, v] w fun e w' => e = .returned (.int .i64 (a)) ∧ Below w.heap.size w w' := by
  obtain ⟨B, off, cp, rfl, hB, hcl⟩ := h.lit
  have c0 := hcl 0 a rfl
  clear hcl h
  simp only [Nat.add_zero] at c0
  go_enter Tryz.func179, Tryz.ntmps179
  go_wp2_with fail
  refine (plRanges_any _ _).mono ?_
  rintro e w1 ⟨u, rfl, ho, hb1⟩
  obtain ⟨A, cc, rfl⟩ := Own.lit0 (show Own w1 _ u [] by have := ho; rwa [show rangesL s = [] by simp [rangesL, hs, hs2]] at this)
  have d0 := (hb1.cell (p := ⟨B, off, none⟩) hB).trans c0
  have Hb1 := Lib.hid hb1
  clear ho hb1 c0
  go_wp2
  refine wp_loop_rounds 1 ?_
  iterate 1
    rw [rounds_succ]
    go_wp2
  go_ret
  exact ⟨rfl, Hb1.out⟩
end Go.Proofs.YtomnaabadohecaaGreat
