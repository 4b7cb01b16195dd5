import Derived.Test.YthgbobikbdklhaaNetMark
import Derived.Test.YthgbobikbdklhaaW3
namespace Go.Proofs.Ythgbobikbdklhaa
open Go.RowKit
/-- a network of the call's own -/
def OwnNet (w : World) (base : Nat) (ve vi vn : Value) (n : Net) (S : List Nat) : Prop :=
  ∃ S1 S2 S3, OwnEE w base ve n.ends S1 ∧ OwnI w base vi n.ids S2 ∧ OwnI w base vn n.inputs S3 ∧ S = S1 ++ (S2 ++ S3) ∧ S.Nodup
theorem OwnNet.read {w : World} {base : Nat} {ve vi vn : Value} {n : Net} {S : List Nat} (h : OwnNet w base ve vi vn n S) : NetIn w ve vi vn n := by
  obtain ⟨S1, S2, S3, h1, h2, h3, _⟩ := h
  exact ⟨OwnEE.read h1, h2.1.ints, h3.1.ints⟩
theorem OwnNet.range {w : World} {base : Nat} {ve vi vn : Value} {n : Net} {S : List Nat} (h : OwnNet w base ve vi vn n S) : ∀ k ∈ S, base ≤ k ∧ k < w.heap.size := by
  obtain ⟨S1, S2, S3, h1, h2, h3, h4, _⟩ := h
  intro k hk
  rw [h4] at hk
  rcases List.mem_append.1 hk with hk | hk
  · exact lawEE.range h1 k hk
  · rcases List.mem_append.1 hk with hk | hk
    · exact lawI.range h2 k hk
    · exact lawI.range h3 k hk
theorem OwnNet.stable {w w' : World} {base : Nat} {ve vi vn : Value} {n : Net} {S : List Nat} (h : OwnNet w base ve vi vn n S) (hs : ∀ k ∈ S, w'.heap[k]? = w.heap[k]?) : OwnNet w' base ve vi vn n S := by
  obtain ⟨S1, S2, S3, h1, h2, h3, h4, h5⟩ := h
  exact ⟨S1, S2, S3, lawEE.stable h1 (fun k hk => hs k (by rw [h4]; simp [hk])), lawI.stable h2 (fun k hk => hs k (by rw [h4]; simp [hk])), lawI.stable h3 (fun k hk => hs k (by rw [h4]; simp [hk])), h4, h5⟩
theorem OwnNet.keep {w w' : World} {base : Nat} {ve vi vn : Value} {n : Net} {S : List Nat} (h : OwnNet w base ve vi vn n S) (hb : Below w.heap.size w w') : OwnNet w' base ve vi vn n S :=
  h.stable fun k hk => hb.block k (h.range k hk).2
theorem OwnNet.mono {w : World} {base base' : Nat} {ve vi vn : Value} {n : Net} {S : List Nat} (h : OwnNet w base ve vi vn n S) (hb : base' ≤ base) : OwnNet w base' ve vi vn n S := by
  obtain ⟨S1, S2, S3, h1, h2, h3, h4, h5⟩ := h
  exact ⟨S1, S2, S3, lawEE.mono h1 hb, lawI.mono h2 hb, lawI.mono h3 hb, h4, h5⟩
def cntNet (n : Net) : Nat := cntEE n.ends + n.ids.length + n.inputs.length
/-- the marks of a network -/
def mkNet (k : Nat) (n : Net) : Net := { ends := mkEE k n.ends, ids := marks (k + cntEE n.ends) n.ids.length, inputs := marks (k + cntEE n.ends + n.ids.length) n.inputs.length }
theorem vne {S : List Nat} {w : World} {base : Nat} {v : Value} {xs : List Int} (h : OwnI w base v xs S) : S = v.ownBlock.toList := h.2
set_option maxHeartbeats 1000000 in
theorem markNetwork_any (ve vi vn : Value) (n : Net) (k : Nat) (w : World) (base : Nat) (S : List Nat) (h : OwnNet w base ve vi vn n S) (hl : k + cntNet n ≤ 4611686018427387904) :
    Calls Try.prog 14 #[.agg #[ve, vi, vn], .int .i64 k] w fun e w' => e = .returned (.int .i64 ((k + cntNet n : Nat) : Int)) ∧ OwnNet w' base ve vi vn (mkNet k n) S ∧ Only S w w' := by
  have hr := h.range
  obtain ⟨S1, S2, S3, h1, h2, h3, h4, h5⟩ := h
  unfold cntNet at hl ⊢
  have hnd := h5
  rw [h4, List.nodup_append] at hnd
  have hnd2 := hnd.2.1
  rw [List.nodup_append] at hnd2
  have d12 : ∀ j ∈ S1, j ∉ S2 := fun j a b => hnd.2.2 j a j (List.mem_append_left _ b) rfl
  have d13 : ∀ j ∈ S1, j ∉ S3 := fun j a b => hnd.2.2 j a j (List.mem_append_right _ b) rfl
  have d23 : ∀ j ∈ S2, j ∉ S3 := fun j a b => hnd2.2.2 j a j b rfl
  have b1 := fun j hj => (lawEE.range h1 j hj).2
  have b2 := fun j hj => (lawI.range h2 j hj).2
  have b3 := fun j hj => (lawI.range h3 j hj).2
  have hb0 : Below w.heap.size w (w.alloc (.cells #[ve, vi, vn] 32)) := (Below.refl _ _).alloc (Nat.le_refl _) _
  have h1' := lawEE.keep h1 hb0
  have h2' := lawI.keep h2 hb0
  have h3' := lawI.keep h3 hb0
  obtain ⟨A1, n1, z1, rfl⟩ := lawEE.one h1
  obtain ⟨A2, n2, z2, rfl⟩ := lawI.one h2
  obtain ⟨A3, n3, z3, rfl⟩ := lawI.one h3
  have H1 := Lib.hid h1'
  have H2 := Lib.hid h2'
  have H3 := Lib.hid h3'
  have D12 := Lib.hid d12
  have D13 := Lib.hid d13
  have D23 := Lib.hid d23
  have B1 := Lib.hid b1
  have B2 := Lib.hid b2
  have B3 := Lib.hid b3
  have H4 := Lib.hid h4
  have H5 := Lib.hid h5
  have Hb0 := Lib.hid hb0
  clear h1 h2 h3 h1' h2' h3' h4 h5 hnd hnd2 d12 d13 d23 b1 b2 b3 hr hb0
  go_enter Try.func14, Try.ntmps14
  go_wp2_with fail
  refine (markEndSS_any _ n.ends k _ base S1 H1.out (by omega)).mono ?_
  rintro e w1 ⟨rfl, o1, t1⟩
  have c1 : w1.cell? ⟨w.heap.size, 1, none⟩ = some (.slice A2 n2 z2) := t1.cell (fun hh => by have := B1.out _ hh; simp at this) (by simp)
  have c2 : w1.cell? ⟨w.heap.size, 2, none⟩ = some (.slice A3 n3 z3) := t1.cell (fun hh => by have := B1.out _ hh; simp at this) (by simp)
  have sz1 : w.heap.size < w1.heap.size := by have := t1.size; simp at this; omega
  have O1 := Lib.hid o1
  have T1 := Lib.hid t1
  have H2a := Lib.hid (lawI.only H2.out t1 (fun j a b => D12.out j b a))
  have H3a := Lib.hid (lawI.only H3.out t1 (fun j a b => D13.out j b a))
  clear o1 t1 H2 H3
  go_wp2_with fail
  refine (markIntS_any _ n.ids (k + cntEE n.ends) _ base H2a.out.1 (by omega)).mono ?_
  rintro e w2 ⟨rfl, o2, g2⟩
  have t2 := Only.of_grown g2
  rw [← H2a.out.2] at t2
  have c3 : w2.cell? ⟨w.heap.size, 2, none⟩ = some (.slice A3 n3 z3) := t2.cell (fun hh => by have := B2.out _ hh; simp at this) c2
  have O2 := Lib.hid (show OwnI w2 base _ _ S2 from ⟨o2, H2a.out.2⟩)
  have T2 := Lib.hid t2
  have O1a := Lib.hid (lawEE.only O1.out t2 D12.out)
  have H3b := Lib.hid (lawI.only H3a.out t2 (fun j a b => D23.out j b a))
  clear o2 g2 t2 O1 H3a c1 c2
  go_wp2_with fail
  refine (markIntS_any _ n.inputs (k + cntEE n.ends + n.ids.length) _ base H3b.out.1 (by omega)).mono ?_
  rintro e w3 ⟨rfl, o3, g3⟩
  have t3 := Only.of_grown g3
  rw [← H3b.out.2] at t3
  have O3 := Lib.hid (show OwnI w3 base _ _ S3 from ⟨o3, H3b.out.2⟩)
  have T3 := Lib.hid t3
  have O1b := Lib.hid (lawEE.only O1a.out t3 D13.out)
  have O2b := Lib.hid (lawI.only O2.out t3 D23.out)
  clear o3 g3 t3 c3
  go_wp2_with fail
  go_ret
  refine ⟨ret_int (by omega), ⟨S1, S2, S3, O1b.out, O2b.out, O3.out, H4.out, H5.out⟩, ?_⟩
  have m1 : ∀ j ∈ S1, j ∈ S := fun j hj => by rw [H4.out]; simp [hj]
  have m2 : ∀ j ∈ S2, j ∈ S := fun j hj => by rw [H4.out]; simp [hj]
  have m3 : ∀ j ∈ S3, j ∈ S := fun j hj => by rw [H4.out]; simp [hj]
  exact (((Only.of_below Hb0.out).trans (T1.out.mono m1)).trans (T2.out.mono m2)).trans (T3.out.mono m3)
set_option maxHeartbeats 1000000 in
theorem heldNetwork_any (ve vi vn : Value) (n : Net) (k : Nat) (w : World) (h : NetIn w ve vi vn (mkNet k n)) (hl : k + cntNet n ≤ 4611686018427387904) :
    Calls Try.prog 25 #[.agg #[ve, vi, vn], .int .i64 k] w fun e w' => e = .returned (.int .i64 ((k + cntNet n : Nat) : Int)) ∧ Below w.heap.size w w' := by
  unfold cntNet at hl ⊢
  have hb0 : Below w.heap.size w (w.alloc (.cells #[ve, vi, vn] 32)) := (Below.refl _ _).alloc (Nat.le_refl _) _
  obtain ⟨h1, h2, h3⟩ := h.keep hb0
  have H1 := Lib.hid h1
  have H2 := Lib.hid h2
  have H3 := Lib.hid h3
  have Hb0 := Lib.hid hb0
  obtain ⟨A1, z1, rfl, _⟩ := h1
  obtain ⟨A2, z2, rfl, _⟩ := h2
  obtain ⟨A3, z3, rfl, _⟩ := h3
  clear h hb0
  go_enter Try.func25, Try.ntmps25
  go_wp2_with fail
  refine (heldEndSS_any _ n.ends k _ (by exact H1.out) (by omega)).mono ?_
  rintro e w1 ⟨rfl, rfl⟩
  go_wp2_with fail
  refine (heldIntS_any _ (k + cntEE n.ends) n.ids.length _ (by exact H2.out) (by omega)).mono ?_
  rintro e w1 ⟨rfl, rfl⟩
  go_wp2_with fail
  refine (heldIntS_any _ (k + cntEE n.ends + n.ids.length) n.inputs.length _ (by exact H3.out) (by omega)).mono ?_
  rintro e w1 ⟨rfl, rfl⟩
  go_wp2_with fail
  go_ret
  exact ⟨ret_int (by omega), Hb0.out⟩
def eqEE (x y : List (List (Int × Int))) : Bool := decide (x = y)
theorem eqEndSS_b (v u : Value) (xs ys : List (List (Int × Int))) (w : World) (h : EndSS w v xs) (h' : EndSS w u ys) :
    Calls Try.prog 33 #[v, u] w fun e w' => e = .returned (.bool (eqEE xs ys)) ∧ Below w.heap.size w w' := eqEndSS_any v u xs ys w h h'
def eqIs (x y : List Int) : Bool := decide (x = y)
theorem eqIntS_b (v u : Value) (xs ys : List Int) (w : World) (h : IntS w v xs) (h' : IntS w u ys) :
    Calls Try.prog 13 #[v, u] w fun e w' => e = .returned (.bool (eqIs xs ys)) ∧ Below w.heap.size w w' := (eqIntS_any v u xs ys w h h').mono fun _ _ ⟨he, m, hm⟩ => ⟨he, by rw [hm]; exact below_drewN (Below.refl _ _) m⟩
set_option maxHeartbeats 1000000 in
theorem eqNetwork_same (ve vi vn ue ui un : Value) (n : Net) (w : World) (h : NetIn w ve vi vn n) (h' : NetIn w ue ui un n) :
    Calls Try.prog 12 #[.agg #[ve, vi, vn], .agg #[ue, ui, un]] w fun e w' => e = .returned (.bool true) ∧ Below w.heap.size w w' := by
  have hb0 : Below w.heap.size w ((w.alloc (.cells #[ve, vi, vn] 32)).alloc (.cells #[ue, ui, un] 32)) := ((Below.refl _ _).alloc (Nat.le_refl _) _).alloc (by simp) _
  have e1 : eqEE n.ends n.ends = true := by simp [eqEE]
  have e2 : eqIs n.ids n.ids = true := by simp [eqIs]
  have e3 : eqIs n.inputs n.inputs = true := by simp [eqIs]
  have g := h.keep hb0
  have g' := h'.keep hb0
  have HN := Lib.hid g
  have HN' := Lib.hid g'
  obtain ⟨⟨A1, z1, rfl, _⟩, ⟨A2, z2, rfl, _⟩, ⟨A3, z3, rfl, _⟩⟩ := g
  obtain ⟨⟨C1, y1, rfl, _⟩, ⟨C2, y2, rfl, _⟩, ⟨C3, y3, rfl, _⟩⟩ := g'
  have Hb0 := Lib.hid hb0
  clear h h' hb0
  go_enter Try.func12, Try.ntmps12
  go_wp2_with fail
  refine (eqEndSS_b _ _ n.ends n.ends _ (by exact HN.out.1) (by exact HN'.out.1)).mono ?_
  rintro e w1 ⟨rfl, hb1⟩
  have c1 : w1.cell? ⟨w.heap.size, 1, none⟩ = some (.slice A2 n.ids.length z2) := bc hb1 (by simp)
  have c2 : w1.cell? ⟨w.heap.size, 2, none⟩ = some (.slice A3 n.inputs.length z3) := bc hb1 (by simp)
  have c3 : w1.cell? ⟨w.heap.size + 1, 1, none⟩ = some (.slice C2 n.ids.length y2) := bc hb1 (by simp)
  have c4 : w1.cell? ⟨w.heap.size + 1, 2, none⟩ = some (.slice C3 n.inputs.length y3) := bc hb1 (by simp)
  have Hb1 := Lib.hid hb1
  have HN1 := Lib.hid (HN.out.keep hb1)
  have HN1' := Lib.hid (HN'.out.keep hb1)
  clear hb1 HN HN'
  go_wp2_with fail
  refine (eqIntS_b _ _ n.ids n.ids _ (by exact HN1.out.2.1) (by exact HN1'.out.2.1)).mono ?_
  rintro e w2 ⟨rfl, hb2⟩
  have c5 := bc hb2 c2
  have c6 := bc hb2 c4
  have Hb2 := Lib.hid hb2
  have HN2 := Lib.hid (HN1.out.keep hb2)
  have HN2' := Lib.hid (HN1'.out.keep hb2)
  clear hb2 HN1 HN1' c1 c2 c3 c4
  go_wp2_with fail
  refine (eqIntS_b _ _ n.inputs n.inputs _ (by exact HN2.out.2.2) (by exact HN2'.out.2.2)).mono ?_
  rintro e w3 ⟨rfl, hb3⟩
  have Hb3 := Lib.hid hb3
  clear hb3 c5 c6
  go_wp2_with fail
  go_ret
  have k1 := Hb0.out.trans (Hb1.out.mono Hb0.out.size)
  have k2 := k1.trans (Hb2.out.mono k1.size)
  exact ⟨rfl, k2.trans (Hb3.out.mono k2.size)⟩
end Go.Proofs.Ythgbobikbdklhaa
