/- Parts of the proof: walks of functions and plain laws. -/
import Derived.Test.YtgmdpppljkmabaaGreatP0
import Derived.Test.YtgmdpppljkmabaaGreatP22
import Derived.Test.YtgmdpppljkmabaaGreatP12
import Derived.Test.YtgmdpppljkmabaaGreatP15
namespace Go.Proofs.YtgmdpppljkmabaaGreat
open Go Go.RowKit
/-! coLift: a network of two sheets -/
structure Ob (bo : Nat) (wa W : World) (ve vi vn : Value) (N : Net) (S : List Nat) : Prop where
 own : OwnNet W wa.heap.size ve vi vn N S
 box : Box3 W bo ve vi vn
 nb : bo ∉ S
 bb : wa.heap.size ≤ bo
 since : Since wa W
section
variable {bo : Nat} {wa W : World} {ve vi vn : Value} {N : Net} {S : List Nat}
theorem Ob.keep {W' : World} (h : Ob bo wa W ve vi vn N S) (hs : Since W W') : Ob bo wa W' ve vi vn N S :=
 ⟨h.own.keep hs.below, h.box.below hs h.box.lt, h.nb, h.bb, h.since.after hs⟩
theorem Ob.change {W' : World} {N' : Net} {S' : List Nat} (h : Ob bo wa W ve vi vn N S) (ho : OwnNet W' wa.heap.size ve vi vn N' S') (hS : ∀ j ∈ S', j ∈ S ∨ W.heap.size ≤ j) (hon : Only S W W') : Ob bo wa W' ve vi vn N' S' :=
 ⟨ho, h.box.blk (hon.block _ h.box.lt h.nb), fun hj => by
  rcases hS _ hj with h1 | h1
  ·exact h.nb h1
  ·have := h.box.lt; omega, h.bb, Only.since h.since hon (fun j hj => (h.own.range j hj).1)⟩
theorem Ob.row {g m c k : Nat} {W8 : World} {u : Value} {x : List (Int × Int)} {T : List Nat} (h : Ob bo wa W (.slice (some ⟨g, 0, none⟩) m c) vi vn N S) (hs : Since W W8) (ho : OwnE W8 W.heap.size u x T) (hk : k < N.ends.length) :
  W8.frozen? ⟨g, k, none⟩ = false ∧ (∃ z, W8.cell? ⟨g, k, none⟩ = some z) ∧ ∃ S', Ob bo wa (W8.setCell ⟨g, k, none⟩ u) (.slice (some ⟨g, 0, none⟩) m c) vi vn { N with ends := N.ends.set k x } S' := by
 have h8 := h.keep hs
 obtain ⟨x0, hx0⟩ := getx N.ends k hk
 obtain ⟨u0, T0, hu, hf, -, -, -, hgS, -⟩ := h8.own.growRow hx0
 have hr := fun j hj => lawE.range ho j hj
 obtain ⟨S', h1, h2⟩ := h8.own.storeRow k (lawE.mono ho h.since.below.size) (fun j hj hjS => by have := (hr j hj).1; have := (h.own.range j hjS).2; omega)
 refine ⟨hf, ⟨_, hu⟩, S', h.change h1 (fun j hj => ?_) ((Only.of_below hs.below).setCell (.inl hgS) _)⟩
 rcases h2 j hj with h3 | h3
 ·exact .inl h3
 ·exact .inr (hr j h3).1
theorem Ob.setIn {g m c k : Nat} (h : Ob bo wa W ve vi (.slice (some ⟨g, 0, none⟩) m c) N S) (x : Int) (hk : k < N.inputs.length) :
  W.frozen? ⟨g, k, none⟩ = false ∧ (∃ z, W.cell? ⟨g, k, none⟩ = some z) ∧ Ob bo wa (W.setCell ⟨g, k, none⟩ (.int .i64 x)) ve vi (.slice (some ⟨g, 0, none⟩) m c) { N with inputs := N.inputs.set k x } S := by
 obtain ⟨h1, h2, h3⟩ := h.own.setIn x hk
 exact ⟨h2, h.own.inCell hk, h.change h3 (fun j hj => .inl hj) ((Only.refl _ _).setCell (.inl h1) _)⟩
theorem Ob.setEnd {g m c k j : Nat} {es : List (Int × Int)} (h : Ob bo wa W (.slice (some ⟨g, 0, none⟩) m c) vi vn N S) (hx : N.ends[k]? = some es) (hj : j < es.length) :
  ∃ gr cr, W.cell? ⟨g, k, none⟩ = some (.slice (some ⟨gr, 0, none⟩) es.length cr) ∧ es.length ≤ cr ∧ cr ≤ maxLen ∧ W.frozen? ⟨gr, j * 2, none⟩ = false ∧ W.frozen? ⟨gr, j * 2 + 1, none⟩ = false ∧ (∃ z, W.cell? ⟨gr, j * 2, none⟩ = some z) ∧ (∃ z, W.cell? ⟨gr, j * 2 + 1, none⟩ = some z) ∧
   ∀ y : Int × Int, Ob bo wa ((W.setCell ⟨gr, j * 2, none⟩ (.int .i64 y.1)).setCell ⟨gr, j * 2 + 1, none⟩ (.int .i64 y.2)) (.slice (some ⟨g, 0, none⟩) m c) vi vn { N with ends := N.ends.set k (es.set j y) } S ∧ Only S W ((W.setCell ⟨gr, j * 2, none⟩ (.int .i64 y.1)).setCell ⟨gr, j * 2 + 1, none⟩ (.int .i64 y.2)) := by
 obtain ⟨gr, cr, h1, h2, h3, -, h4, -, ⟨f0, f1⟩, c0, c1, hall⟩ := h.own.setEnd hx hj
 exact ⟨gr, cr, h1, h2, h3, f0, f1, c0, c1, fun y => ⟨h.change (hall y) (fun q hq => .inl hq) (((Only.refl _ _).setCell (.inl h4) _).setCell (.inl h4) _), ((Only.refl _ _).setCell (.inl h4) _).setCell (.inl h4) _⟩⟩
end
structure LiftA (n : Net) (t : Nat) (N : Net) : Prop where
 ends : N.ends.length = 2 * n.ends.length
 inputs : N.inputs.length = 2 * n.ends.length
 ids : N.ids.length = 0
 row : ∀ (j : Nat) (fs : List (Int × Int)), N.ends[j]? = some fs → fs.length ≤ 100 ∧ (j < t → fs.length = (rowN n (j / 2)).length)
theorem LiftA.empty (n : Net) : LiftA n 0 (emptyNet (2 * n.ends.length)) := by
 refine ⟨by simp [emptyNet], by simp [emptyNet], rfl, fun j fs hf => ?_⟩
 have h1 := List.mem_of_getElem? hf
 have h2 : fs = [] := by simp [emptyNet] at h1; exact h1.2
 rw [h2]
 exact ⟨by simp, fun h => by omega⟩
theorem LiftA.step {n N : Net} {t : Nat} (h : LiftA n t N) {x : List (Int × Int)} (hx : x.length = (rowN n (t / 2)).length) (h100 : x.length ≤ 100) : LiftA n (t + 1) { N with ends := N.ends.set t x } := by
 refine ⟨by simp; exact h.ends, h.inputs, h.ids, fun j fs hf => ?_⟩
 have hf : (N.ends.set t x)[j]? = some fs := hf
 rw [List.getElem?_set] at hf
 by_cases e : t = j
 ·subst e
  rw [if_pos rfl] at hf
  split at hf
  ·cases hf; exact ⟨h100, fun _ => hx⟩
  ·cases hf
 ·rw [if_neg e] at hf
  obtain ⟨h1, h2⟩ := h.row j fs hf
  exact ⟨h1, fun hj => h2 (by omega)⟩
theorem LiftA.inp {n N : Net} {t k : Nat} (h : LiftA n t N) (x : Int) : LiftA n t { N with inputs := N.inputs.set k x } := ⟨h.ends, by simp; exact h.inputs, h.ids, h.row⟩
theorem LiftA.put {n N : Net} {t k : Nat} (h : LiftA n t N) {es fs : List (Int × Int)} (he : N.ends[k]? = some es) (hl : fs.length = es.length) : LiftA n t { N with ends := N.ends.set k fs } := by
 refine ⟨by simp; exact h.ends, h.inputs, h.ids, fun j gs hf => ?_⟩
 have hf : (N.ends.set k fs)[j]? = some gs := hf
 rw [List.getElem?_set] at hf
 by_cases e : k = j
 ·subst e
  rw [if_pos rfl] at hf
  split at hf
  ·cases hf; rw [hl]; exact h.row k es he
  ·cases hf
 ·rw [if_neg e] at hf
  exact h.row j gs hf
theorem LiftA.bd {n N : Net} {t : Nat} (h : LiftA n t N) (hn : n.ends.length ≤ 50) : Bd N := ⟨by have := h.ends; omega, fun k es he => by have := (h.row k es he).1; omega, by have := h.ids; omega, by have := h.inputs; omega⟩
def Sheets (n : Net) (ps : List (List Int)) : Prop := ps.length = (edgesB n).length ∧ ∀ p ∈ ps, p.length = 2 ∧ ∀ t ∈ p, 0 ≤ t ∧ t < 2
def NewB0 (w : World) (T : Net → Prop) (e : Ending) (w' : World) : Prop := ∃ ve vi vn N S, e = .returned (.agg #[ve, vi, vn]) ∧ OwnNet w' w.heap.size ve vi vn N S ∧ T N ∧ Below w.heap.size w w'
theorem OwnL.blk {W : World} {base g m c : Nat} {L : List Ed} (h : OwnL W base (.slice (some ⟨g, 0, none⟩) m c) L) : base ≤ g := by
 obtain ⟨bs, -, h2, -⟩ := h
 exact (World.ownsRow.lt h2 g (by simp [Value.ownBlock])).1
set_option maxRecDepth 100000 in
set_option maxHeartbeats 8000000 in
theorem coLift_two (ve vi vn vp : Value) (n : Net) (ps : List (List Int)) (w : World) (h : NetIn w ve vi vn n) (hg : Gd 100 40 n) (hn0 : 0 < n.ends.length) (hp : IntSS w vp ps) (hps : Sheets n ps) :
  Calls Tryz.prog 195 #[.agg #[ve, vi, vn], .int .i64 2, vp] w (NewB0 w Bd) := by
 have hn40 := hg.ends
 have Hin : Hid (n.inputs.length = n.ends.length) := hg.inputs
 have Hrow : Hid (∀ (k : Nat) (es : List (Int × Int)), n.ends[k]? = some es → es.length ≤ 100) := hg.row
 obtain ⟨m, hm⟩ : ∃ m, m = 2 * n.ends.length := ⟨_, rfl⟩
 have Hm := Lib.hid hm
 have m1 : IntKind.i64.wrap (2 * (n.ends.length : Int)) = (m : Int) := by rw [hm, wr64 _ (by omega) (by omega)]; omega
 have hm80 : m ≤ 80 := by omega
 clear hm
 obtain ⟨AP, cP, hvp, hlP, hmP, hP⟩ := id hp
 subst hvp
 have Hg := Lib.hid hg
 have Hps := Lib.hid hps
 have HP := Lib.hid hP
 clear hg hps hP
 obtain ⟨w0, hw0⟩ : ∃ w0, w0 = (w).alloc (.cells #[ve, vi, vn] 27) := ⟨_, rfl⟩
 have hb0 : Below w.heap.size w w0 := by rw [hw0]; exact ((Below.refl _ _).alloc (by simp) _)
 have H := Lib.hid (h.keep hb0)
 obtain ⟨h1, h2, h3⟩ := h.keep hb0
 obtain ⟨A, c, rfl, hlc, hm, hA⟩ := h1
 obtain ⟨A2, c2, rfl, _, hm2, _⟩ := h2
 obtain ⟨A3, c3, rfl, _, hm3, _⟩ := h3
 unfold maxLen at hm hm2 hm3
 have p00 : ∀ W, Since w0 W → W.cell? ⟨w.heap.size, 0, none⟩ = some (.slice A n.ends.length c) := have_cell (by rw [hw0]; simp)
 have p01 : ∀ W, Since w0 W → W.cell? ⟨w.heap.size, 1, none⟩ = some (.slice A2 n.ids.length c2) := have_cell (by rw [hw0]; simp)
 have p02 : ∀ W, Since w0 W → W.cell? ⟨w.heap.size, 2, none⟩ = some (.slice A3 n.inputs.length c3) := have_cell (by rw [hw0]; simp)
 have Hb0 := Lib.hid hb0
 have Hw0 := Lib.hid hw0
 have HA := Lib.hid hA
 clear hA h
 clear hb0 hw0
 obtain ⟨wa, hwa⟩ : ∃ wa, wa = w0.alloc (.cells #[.slice none 0 0, .slice none 0 0, .slice none 0 0] 27) := ⟨_, rfl⟩
 have hsa : Since w0 wa := by rw [hwa]; exact since_alloc _ (since_refl _)
 have h01 : w0.heap.size = w.heap.size + 1 := by rw [Hw0.out]; simp
 have Hza : Hid (wa.heap.size = w.heap.size + 1 + 1) := by show _ = _; rw [hwa, ← h01]; simp
 have HRb : Hid (BoxN wa (w.heap.size + 1) (.slice none 0 0) (.slice none 0 0) (.slice none 0 0)) := by
  show BoxN _ _ _ _ _
  rw [hwa, ← h01]
  show (w0.heap.push _)[w0.heap.size]? = _
  rw [Array.getElem?_push_size]
 have q00 := lift_cell p00 hsa
 have q01 := lift_cell p01 hsa
 have q02 := lift_cell p02 hsa
 have Hwa := Lib.hid hwa
 have Hsa := Lib.hid hsa
 clear hwa hsa h01 p00 p01 p02
 go_enter Tryz.func195, Tryz.ntmps195
 go_upto_region 1 with (fail)
 rw [← Hw0.out, ← Hwa.out]
 have hs : Since wa wa := since_refl _
 go_wp2_with fail
 refine (neEmpty_any m (by omega) wa).mono ?_
 rintro e w1 ⟨we, wi, wn, S0, rfl, ho, hb1⟩
 obtain ⟨A1, c1, rfl⟩ : ∃ A c, we = .slice A m c := by obtain ⟨A, c, h, -⟩ := ho.read.1; exact ⟨A, c, by rw [h]; simp [emptyNet]⟩
 obtain ⟨AI, cI, rfl⟩ : ∃ A c, wi = .slice A 0 c := by obtain ⟨A, c, h, -⟩ := ho.read.2.1; exact ⟨A, c, by rw [h]; simp [emptyNet]⟩
 obtain ⟨AN, cN, rfl⟩ : ∃ A c, wn = .slice A m c := by obtain ⟨A, c, h, -⟩ := ho.read.2.2; exact ⟨A, c, by rw [h]; simp [emptyNet]⟩
 rw [Hm.out] at ho
 have hla := LiftA.empty n
 have hs1 : Since wa w1 := hb1
 obtain ⟨w2, hw2⟩ : ∃ z, z = w1.alloc (.cells #[.slice A1 m c1, .slice AI 0 cI, .slice AN m cN] 27) := ⟨_, rfl⟩
 obtain ⟨bo, hbo⟩ : ∃ z, z = w1.heap.size := ⟨_, rfl⟩
 have h12 : Since w1 w2 := by rw [hw2]; exact since_alloc _ (since_refl _)
 have hob : Ob bo wa w2 (.slice A1 m c1) (.slice AI 0 cI) (.slice AN m cN) (emptyNet (2 * n.ends.length)) S0 :=
  ⟨by rw [Hm.out]; exact ho.keep h12.below, by rw [hw2, hbo]; exact Box3.new _ _ _ _ _, fun hj => by have := (ho.range _ hj).2; omega, by rw [hbo]; exact hs1.below.size, hs1.after h12⟩
 obtain ⟨g, rfl, -⟩ := hob.own.head (by simp [emptyNet]; omega)
 obtain ⟨gN, rfl⟩ := hob.own.headIn (by simp [emptyNet]; omega)
 have Hob := Lib.hid hob
 have Hla := Lib.hid hla
 have Hw2 := Lib.hid hw2
 have Hbo := Lib.hid hbo
 clear hob hla hw2 hbo ho h12 hb1 hs
 go_upto_region 2 with (fail)
 rw [← Hw2.out, ← Hbo.out]
 have hs2 := Hob.out.since
 clear hs1
 go_upto_region 3 with (fail)
 go_loopw [24] (fun i wr => ∃ (v : Nat) (N : Net) (S : List Nat), v ≤ n.ends.length ∧ i = .int .i64 v ∧ LiftA n (2 * v) N ∧ Ob bo wa wr (.slice (some ⟨g, 0, none⟩) m c1) (.slice AI 0 cI) (.slice (some ⟨gN, 0, none⟩) m cN) N S) (fun i _ => n.ends.length - (intOf i).toNat)
 case atStart => exact ⟨0, _, S0, Nat.zero_le _, rfl, Hla.out, Hob.out⟩
 case round =>
  obtain ⟨v, N, S, hv, rfl, hla, hob⟩ := hrel
  have HlaN := Lib.hid hla
  have HobN := Lib.hid hob
  have hsr := hob.since
  clear hla hob hs2
  by_cases hlt : v < n.ends.length
  ·have m3 : IntKind.i64.wrap ((v : Int) + 1) = (v : Int) + 1 := wr64 _ (by omega) (by omega)
   obtain ⟨es, hes⟩ := getx n.ends v hlt
   obtain ⟨bE, oE, cE, uE, hAE, -, hc1, hrow⟩ := row_at H.out.es hes
   obtain ⟨A9, y9, rfl, hz1, hz2, -⟩ := hrow
   unfold maxLen at hz2
   have d1 := have_cell hc1 wr (Hsa.out.after hsr)
   cases hAE
   have hel : es.length ≤ 100 := Hrow.out v es hes
   have Hes : Hid (es.length = (rowN n v).length) := by show _ = _; unfold rowN; rw [getD_of hes]
   obtain ⟨x, hx⟩ := getx n.inputs v (by have := Hin.out; omega)
   obtain ⟨A8, c8, e8, -, -, hA8⟩ := H.out.ns
   cases e8
   obtain ⟨b8, off8, e7, hc8⟩ := hA8 v x hx
   subst e7
   have hc8' := bc Hsa.out.below hc8
   have HcI := Lib.hid hc8'
   have hvi : v < n.inputs.length := by have := Hin.out; omega
   clear hc1 hes hA8 hc8 hc8' hx
   go_wp2
   go_loopw [10] (fun i wr => ∃ (s : Nat) (N : Net) (S : List Nat), s ≤ 2 ∧ i = .int .i64 s ∧ LiftA n (2 * v + s) N ∧ Ob bo wa wr (.slice (some ⟨g, 0, none⟩) m c1) (.slice AI 0 cI) (.slice (some ⟨gN, 0, none⟩) m cN) N S) (fun i _ => 2 - (intOf i).toNat)
   case atStart => exact ⟨0, N, S, by omega, rfl, HlaN.out, HobN.out⟩
   case round =>
    obtain ⟨s, N1, S1, hs2, rfl, hla1, hob1⟩ := hrel
    obtain ⟨wo, rfl⟩ : ∃ z, z = wr := ⟨_, rfl⟩
    have HobL := Lib.hid hob1
    clear d1 hsr hob1
    by_cases hlt2 : s < 2
    ·obtain ⟨j, hj⟩ : ∃ j, j = 2 * v + s := ⟨_, rfl⟩
     rw [← hj] at hla1
     have m4 : IntKind.i64.wrap ((v : Int) * 2) = (v : Int) * 2 := wr64 _ (by omega) (by omega)
     have m5 : IntKind.i64.wrap ((v : Int) * 2 + (s : Int)) = (j : Int) := by rw [wr64 _ (by omega) (by omega)]; omega
     have m6 : IntKind.i64.wrap ((s : Int) + 1) = (s : Int) + 1 := wr64 _ (by omega) (by omega)
     have hjm : j < m := by have := Hm.out; omega
     have hj2 : j / 2 = v := by omega
     have Hj : Hid (j = 2 * v + s ∧ j / 2 = v) := ⟨hj, hj2⟩
     have HlaL := Lib.hid hla1
     have HS0 := Lib.hid HobL.out.box.cells.1
     clear hj hj2 hla1
     go_upto_region 8 with (fail)
     refine wp_region_chainS (fun W => W.cell? ⟨bo, 0, none⟩ = some (.slice (some ⟨g, 0, none⟩) m c1)) 10 [false, false, false, false, false, false, false, false, false, true] (by kernel_rfl) (by kernel_rfl) (show (World.drew wo).cell? ⟨bo, 0, none⟩ = some (.slice (some ⟨g, 0, none⟩) m c1) from HS0.out) ?_
     simp only [selF, selT, List.take_succ_cons, List.take_zero, List.drop_succ_cons, List.drop_zero]
     refine pflowS_val (v := ?_) rfl ?_ ?_; rotate_left; (intro W hW; (have k0 := hW); go_simp; with_reducible rfl)
     simp only [zA]
     refine pflowS_val (v := ?_) rfl ?_ ?_; rotate_left; (intro W hW; (have k0 := hW); go_simp; with_reducible rfl)
     simp only [zA]
     refine pflowS_val (v := ?_) rfl ?_ ?_; rotate_left; (intro W hW; (have k0 := hW); go_simp; with_reducible rfl)
     simp only [zA]
     refine pflowS_val (v := ?_) rfl ?_ ?_; rotate_left; (intro W hW; (have k0 := hW); go_simp; with_reducible rfl)
     simp only [zA]
     refine pflowS_val (v := ?_) rfl ?_ ?_; rotate_left; (intro W hW; (have k0 := hW); go_simp; with_reducible rfl)
     simp only [zA]
     refine pflowS_val (v := ?_) rfl ?_ ?_; rotate_left; (intro W hW; (have k0 := hW); go_simp; with_reducible rfl)
     simp only [zA]
     refine pflowS_val (v := ?_) rfl ?_ ?_; rotate_left; (intro W hW; (have k0 := hW); go_simp; with_reducible rfl)
     simp only [zA]
     refine pflowS_val (v := ?_) rfl ?_ ?_; rotate_left; (intro W hW; (have k0 := hW); go_simp; with_reducible rfl)
     simp only [zA]
     refine pflowS_val (v := ?_) rfl ?_ ?_; rotate_left; (intro W hW; (have k0 := hW); go_simp; with_reducible rfl)
     simp only [zA]
     obtain ⟨W, hWd⟩ : ∃ W, W = World.drew wo := ⟨_, rfl⟩
     rw [← hWd]
     have hW := (show (World.drew wo).cell? ⟨bo, 0, none⟩ = some (.slice (some ⟨g, 0, none⟩) m c1) from HS0.out)
     rw [← hWd] at hW
     have HWd := Lib.hid hWd
     clear hWd
     refine tflow_of_wp (fun Q' HQ => ?_)
     (refine mk_ends _ rfl _ _ rfl _ _ es.length rfl rfl rfl rfl (by omega) ?_); intro w8 ho8 hb8; refine HQ _ _ (bc hb8 hW) ?_; have hs8 : Since wo w8 := (by have h1 : Since wo W := (by rw [HWd.out]; exact since_drew (since_refl _)); exact h1.after hb8); rw [show W.heap.size = wo.heap.size from by rw [HWd.out]; rfl] at ho8 ⊢; have Ho8 := Lib.hid ho8; have Hs8 := Lib.hid hs8; have hq := bc hb8 hW; clear ho8 hb8 hs8 hW
     (try simp only [zA])
     simp only [TFlow]
     obtain ⟨f9, ⟨z9, c9⟩, S9, hob9⟩ := HobL.out.row Hs8.out Ho8.out (k := j) (by have := HlaL.out.ends; have := Hm.out; omega)
     have Hob9 := Lib.hid hob9
     have hst := HlaL.out.step (x := List.replicate es.length ((0 : Int), (0 : Int))) (by rw [Hj.out.2, List.length_replicate]; exact Hes.out) (by rw [List.length_replicate]; exact hel)
     have Hst := Lib.hid hst
     clear hob9 hst
     go_upto_region 9 with (fail)
     obtain ⟨w9, hw9⟩ : ∃ z, z = w8.setCell ⟨g, j, none⟩ (.slice (some ⟨wo.heap.size, 0, none⟩) es.length es.length) := ⟨_, rfl⟩
     rw [← hw9]
     rw [← hw9] at Hob9
     have E0 := have_cell Hob9.out.box.cells.2.2.1
     have E1 : ∀ W, Since w9 W → W.cell? ⟨w.heap.size, 2, none⟩ = _ := fun W hW => q02 W (Hob9.out.since.after hW)
     have E2 := have_cell (bc Hob9.out.since.below HcI.out)
     clear hw9 hq f9 c9
     refine wp_region_flow 13 (Since w9) (by kernel_rfl) (by kernel_rfl) (by simp) (since_drew (since_refl _)) ?_
     simp only [List.take_succ_cons, List.take_zero, List.drop_succ_cons, List.drop_zero]
     refine flow_val (v := ?_) rfl ?_ ?_; rotate_left; (intro W hW; go_simp; with_reducible rfl)
     simp only [zA]
     refine flow_val (v := ?_) rfl ?_ ?_; rotate_left; (intro W hW; have k1 := E0 W hW; go_simp; with_reducible rfl)
     simp only [zA]
     refine flow_val (v := ?_) rfl ?_ ?_; rotate_left; (intro W hW; go_simp; with_reducible rfl)
     simp only [zA]
     refine flow_val (v := ?_) rfl ?_ ?_; rotate_left; (intro W hW; go_simp; with_reducible rfl)
     simp only [zA]
     refine flow_val (v := ?_) rfl ?_ ?_; rotate_left; (intro W hW; go_simp; with_reducible rfl)
     simp only [zA]
     refine flow_val (v := ?_) rfl ?_ ?_; rotate_left; (intro W hW; go_simp; with_reducible rfl)
     simp only [zA]
     refine flow_val (v := ?_) rfl ?_ ?_; rotate_left; (intro W hW; go_simp; with_reducible rfl)
     simp only [zA]
     refine flow_val (v := ?_) rfl ?_ ?_; rotate_left; (intro W hW; go_simp; with_reducible rfl)
     simp only [zA]
     refine flow_val (v := ?_) rfl ?_ ?_; rotate_left; (intro W hW; have k1 := E1 W hW; go_simp; with_reducible rfl)
     simp only [zA]
     refine flow_val (v := ?_) rfl ?_ ?_; rotate_left; (intro W hW; go_simp; with_reducible rfl)
     simp only [zA]
     refine flow_val (v := ?_) rfl ?_ ?_; rotate_left; (intro W hW; go_simp; with_reducible rfl)
     simp only [zA]
     refine flow_val (v := ?_) rfl ?_ ?_; rotate_left; (intro W hW; have k1 := E2 W hW; go_simp; with_reducible rfl)
     simp only [zA]
     refine flow_val (v := ?_) rfl ?_ ?_; rotate_left; (intro W hW; go_simp; with_reducible rfl)
     simp only [zA]
     intro W hW
     obtain ⟨f10, ⟨z10, c10⟩, hob10⟩ := (Hob9.out.keep hW).setIn (k := j) x (by have := HlaL.out.inputs; have := Hm.out; show j < N1.inputs.length; omega)
     have Hob10 := Lib.hid hob10
     have Hla10 := Lib.hid (Hst.out.inp (k := j) x)
     clear E0 E1 E2 hob10 hW
     go_wp2
     go_roundw
     case rel => exact ⟨s + 1, _, S9, by omega, by first | rfl | go_num, by have h7 := Hla10.out; rw [show 2 * v + (s + 1) = j + 1 from by have := Hj.out.1; omega]; exact h7, Hob10.out⟩
     case measure => simp [intOf]; omega
    ·obtain rfl : s = 2 := by omega
     have HlaL := Lib.hid hla1
     clear hla1 hlt2
     go_wp2
     go_roundw
     case rel => exact ⟨v + 1, N1, S1, by omega, by first | rfl | go_num, HlaL.out, HobL.out⟩
     case measure => simp [intOf]; omega
  ·obtain rfl : v = n.ends.length := by omega
   obtain ⟨wo, rfl⟩ : ∃ z, z = wr := ⟨_, rfl⟩
   have a0 := q00 wo hsr
   have a1 := q01 wo hsr
   have a2 := q02 wo hsr
   clear hlt hv
   go_wp2_with fail
   refine (neEdges_g _ _ _ n wo (H.out.keep (Hsa.out.after hsr).below) (Hg.out.mono (Nat.le_refl _) (by omega))).mono ?_
   rintro e w3 ⟨uL, rfl, hoL, hb3⟩
   have hLl := edgesTo_leng (Hg.out.mono (Nat.le_refl _) (show 40 ≤ 100 by omega)) n.ends.length
   obtain ⟨LL, hLL⟩ : ∃ LL, LL = edgesB n := ⟨_, rfl⟩
   have hLl2 : LL.length ≤ 4000 := by rw [hLL]; unfold edgesB; omega
   have HLL := Lib.hid hLL
   rw [← hLL] at hoL
   obtain ⟨⟨AL, cL, hval, hlL, hmL⟩, hat⟩ := hoL.at
   subst hval
   have hob3 := HobN.out.keep (show Since wo w3 from hb3)
   have Hob3 := Lib.hid hob3
   have HS3 : Hid (∀ j ∈ S, j < wo.heap.size) := fun j hj => (HobN.out.own.range j hj).2
   have Hat := Lib.hid hat
   have HoL := Lib.hid hoL
   have hs3 := hob3.since
   unfold maxLen at hmL
   clear a0 a1 a2 hob3 hat hoL hb3 hLl hLL hsr
   go_wp2
   go_loopw [62] (fun i wr => ∃ (x : Nat) (N : Net), x ≤ LL.length ∧ i = .int .i64 x ∧ LiftA n (2 * n.ends.length) N ∧ Ob bo wa wr (.slice (some ⟨g, 0, none⟩) m c1) (.slice AI 0 cI) (.slice (some ⟨gN, 0, none⟩) m cN) N S ∧ Only S w3 wr) (fun i _ => LL.length - (intOf i).toNat)
   case atStart => exact ⟨0, N, Nat.zero_le _, rfl, HlaN.out, Hob3.out, Only.refl _ _⟩
   case round =>
    obtain ⟨x, N1, hx, rfl, hla, hob, hon⟩ := hrel
    have HlaX := Lib.hid hla
    have HobX := Lib.hid hob
    have HonX := Lib.hid hon
    have hsr := hob.since
    clear hla hob hon hs3
    by_cases hlt : x < LL.length
    ·have m3 : IntKind.i64.wrap ((x : Int) + 1) = (x : Int) + 1 := wr64 _ (by omega) (by omega)
     obtain ⟨e, he⟩ := getx LL x hlt
     obtain ⟨a, i, b, j, fa, fb, hee, hfa, hi, hfb, hj⟩ := edge_in Hg.out (show e ∈ edgesB n by rw [← HLL.out]; exact List.mem_of_getElem? he)
     subst hee
     obtain ⟨gL, cL', bR, hu, k0, hbR, k1, k2, k3, k4⟩ := Hat.out x _ he
     cases hu
     have hgL : wo.heap.size ≤ gL := HoL.out.blk
     unfold rowV at k0
     have c0 := HonX.out.cell (p := ⟨gL, x, none⟩) (fun hm => by have := HS3.out _ hm; simp at this; omega) k0
     have hnb : bR ∉ S := fun hm => by have := HS3.out _ hm; omega
     have Hk : Hid (∀ W, Only S w3 W → W.cell? ⟨bR, 0, none⟩ = some (.int .i64 a) ∧ W.cell? ⟨bR, 1, none⟩ = some (.int .i64 i) ∧ W.cell? ⟨bR, 2, none⟩ = some (.int .i64 b) ∧ W.cell? ⟨bR, 3, none⟩ = some (.int .i64 j)) := fun W hW => ⟨hW.cell (p := ⟨bR, 0, none⟩) hnb k1, hW.cell (p := ⟨bR, 1, none⟩) hnb k2, hW.cell (p := ⟨bR, 2, none⟩) hnb k3, hW.cell (p := ⟨bR, 3, none⟩) hnb k4⟩
     have hpl : x < ps.length := by rw [Hps.out.1, ← HLL.out]; exact hlt
     obtain ⟨p, hp⟩ := getx ps x hpl
     obtain ⟨hp2, hpt⟩ := Hps.out.2 p (List.mem_of_getElem? hp)
     obtain ⟨bP, oP, uP, hAP, hcP, hiP⟩ := HP.out x p hp
     cases hAP
     have hcw : Below w.heap.size w wr := Below.trans Hb0.out ((Hsa.out.after hsr).below.mono Hb0.out.size)
     have d0 := bc hcw hcP
     obtain ⟨A7, c7, rfl, hz1, hz2, hA7⟩ := hiP
     rw [hp2] at hz1 d0
     have HA7 := Lib.hid hA7
     have Hpt := Lib.hid hpt
     have Hp2 := Lib.hid hp2
     have Hfa : Hid (fa.length = (rowN n a).length ∧ i < fa.length ∧ a < n.ends.length) := ⟨by unfold rowN; rw [getD_of hfa], hi, lt_of_get hfa⟩
     have Hfb : Hid (fb.length = (rowN n b).length ∧ j < fb.length ∧ b < n.ends.length) := ⟨by unfold rowN; rw [getD_of hfb], hj, lt_of_get hfb⟩
     unfold maxLen at hz2
     clear k0 hbR k1 k2 k3 k4 hgL he hfa hi hfb hj hp hpt hcP hA7 hcw
     clear hp2
     go_upto_region 15 with (fail)
     clear c0 d0
     go_loopw [72] (fun t wr => ∃ (s : Nat) (N : Net), s ≤ 2 ∧ t = .int .i64 s ∧ LiftA n (2 * n.ends.length) N ∧ Ob bo wa wr (.slice (some ⟨g, 0, none⟩) m c1) (.slice AI 0 cI) (.slice (some ⟨gN, 0, none⟩) m cN) N S ∧ Only S w3 wr) (fun t _ => 2 - (intOf t).toNat)
     case atStart => exact ⟨0, N1, by omega, rfl, HlaX.out, HobX.out, HonX.out⟩
     case round =>
      obtain ⟨s, N2, hs2, rfl, hla2, hob2, hon2⟩ := hrel
      obtain ⟨wo2, rfl⟩ : ∃ z, z = wr := ⟨_, rfl⟩
      have HlaY := Lib.hid hla2
      have HobY := Lib.hid hob2
      have HonY := Lib.hid hon2
      clear hsr hla2 hob2 hon2
      by_cases hlt2 : s < 2
      ·obtain ⟨t, ht⟩ := getx p s (by rw [Hp2.out]; exact hlt2)
       have htr := Hpt.out t (List.mem_of_getElem? ht)
       obtain ⟨tt, rfl⟩ := Int.eq_ofNat_of_zero_le htr.1
       obtain ⟨bT, oT, hA7e, hct⟩ := HA7.out s _ ht
       subst hA7e
       have hcw2 : Below w.heap.size w wo2 := Below.trans Hb0.out ((Hsa.out.after HobY.out.since).below.mono Hb0.out.size)
       have dt := bc hcw2 hct
       have hab := Hfa.out.2.2
       have hbb := Hfb.out.2.2
       obtain ⟨j1, hj1⟩ : ∃ z, z = 2 * a + s := ⟨_, rfl⟩
       obtain ⟨j2, hj2⟩ : ∃ z, z = 2 * b + tt := ⟨_, rfl⟩
       have m4 : IntKind.i64.wrap ((a : Int) * 2) = (a : Int) * 2 := wr64 _ (by omega) (by omega)
       have m5 : IntKind.i64.wrap ((a : Int) * 2 + (s : Int)) = (j1 : Int) := by rw [wr64 _ (by omega) (by omega)]; omega
       have m6 : IntKind.i64.wrap ((b : Int) * 2) = (b : Int) * 2 := wr64 _ (by omega) (by omega)
       have m7 : IntKind.i64.wrap ((b : Int) * 2 + (tt : Int)) = (j2 : Int) := by rw [wr64 _ (by omega) (by omega)]; omega
       have m8 : IntKind.i64.wrap ((s : Int) + 1) = (s : Int) + 1 := wr64 _ (by omega) (by omega)
       have Hj : Hid (j1 = 2 * a + s ∧ j2 = 2 * b + tt ∧ a < n.ends.length ∧ b < n.ends.length ∧ s < 2 ∧ tt < 2) := ⟨hj1, hj2, hab, hbb, hlt2, by omega⟩
       have hjm1 : j1 < m := by have := Hm.out; omega
       have hjm2 : j2 < m := by have := Hm.out; omega
       clear ht htr hct hcw2 hj1 hj2 hab hbb
       go_upto_region 17 with (fail)
       clear dt
       obtain ⟨fs1, hf_fs1⟩ := getx N2.ends j1 (by have := HlaY.out.ends; have := Hj.out; omega)
       have hl_fs1 := (HlaY.out.row j1 fs1 hf_fs1).2 (by have := Hj.out; omega)
       rw [show j1 / 2 = a from by have := Hj.out; omega, ← (Hfa.out).1] at hl_fs1
       obtain ⟨gr_fs1, cr_fs1, h1_fs1, h2_fs1, h3_fs1, -, -, -, -, -⟩ := HobY.out.setEnd hf_fs1 (j := i) (by rw [hl_fs1]; exact (Hfa.out).2.1)
       unfold maxLen at h3_fs1
       have hpl_fs1 : i < fs1.length := by rw [hl_fs1]; exact (Hfa.out).2.1
       obtain ⟨K0, K1, K2, K3⟩ := Hk.out wo2 HonY.out
       have E0 := have_cell HobY.out.box.cells.1
       have E1 := have_cell K0
       have E2 := have_cell h1_fs1
       have E3 := have_cell K1
       have E4 := have_cell K2
       have E5 := have_cell K3
       have Hf_fs1 := Lib.hid hf_fs1
       clear K0 K1 K2 K3 hl_fs1 hf_fs1 h1_fs1
       refine wp_region_flow 26 (Since wo2) (by kernel_rfl) (by kernel_rfl) (by simp) (since_drew (since_refl _)) ?_
       simp only [List.take_succ_cons, List.take_zero, List.drop_succ_cons, List.drop_zero]
       refine flow_val (v := ?_) rfl ?_ ?_; rotate_left; (intro W hW; go_simp; with_reducible rfl)
       simp only [zA]
       refine flow_val (v := ?_) rfl ?_ ?_; rotate_left; (intro W hW; have k1 := E0 W hW; go_simp; with_reducible rfl)
       simp only [zA]
       refine flow_val (v := ?_) rfl ?_ ?_; rotate_left; (intro W hW; go_simp; with_reducible rfl)
       simp only [zA]
       refine flow_val (v := ?_) rfl ?_ ?_; rotate_left; (intro W hW; go_simp; with_reducible rfl)
       simp only [zA]
       refine flow_val (v := ?_) rfl ?_ ?_; rotate_left; (intro W hW; have k1 := E1 W hW; go_simp; with_reducible rfl)
       simp only [zA]
       refine flow_val (v := ?_) rfl ?_ ?_; rotate_left; (intro W hW; go_simp; with_reducible rfl)
       simp only [zA]
       refine flow_val (v := ?_) rfl ?_ ?_; rotate_left; (intro W hW; go_simp; with_reducible rfl)
       simp only [zA]
       refine flow_val (v := ?_) rfl ?_ ?_; rotate_left; (intro W hW; go_simp; with_reducible rfl)
       simp only [zA]
       refine flow_val (v := ?_) rfl ?_ ?_; rotate_left; (intro W hW; go_simp; with_reducible rfl)
       simp only [zA]
       refine flow_val (v := ?_) rfl ?_ ?_; rotate_left; (intro W hW; go_simp; with_reducible rfl)
       simp only [zA]
       refine flow_val (v := ?_) rfl ?_ ?_; rotate_left; (intro W hW; have k1 := E2 W hW; go_simp; with_reducible rfl)
       simp only [zA]
       refine flow_val (v := ?_) rfl ?_ ?_; rotate_left; (intro W hW; go_simp; with_reducible rfl)
       simp only [zA]
       refine flow_val (v := ?_) rfl ?_ ?_; rotate_left; (intro W hW; go_simp; with_reducible rfl)
       simp only [zA]
       refine flow_val (v := ?_) rfl ?_ ?_; rotate_left; (intro W hW; have k1 := E3 W hW; go_simp; with_reducible rfl)
       simp only [zA]
       refine flow_val (v := ?_) rfl ?_ ?_; rotate_left; (intro W hW; go_simp; with_reducible rfl)
       simp only [zA]
       refine flow_val (v := ?_) rfl ?_ ?_; rotate_left; (intro W hW; go_simp; with_reducible rfl)
       simp only [zA]
       refine flow_val (v := ?_) rfl ?_ ?_; rotate_left; (intro W hW; have k1 := E4 W hW; go_simp; with_reducible rfl)
       simp only [zA]
       refine flow_val (v := ?_) rfl ?_ ?_; rotate_left; (intro W hW; go_simp; with_reducible rfl)
       simp only [zA]
       refine flow_val (v := ?_) rfl ?_ ?_; rotate_left; (intro W hW; go_simp; with_reducible rfl)
       simp only [zA]
       refine flow_val (v := ?_) rfl ?_ ?_; rotate_left; (intro W hW; go_simp; with_reducible rfl)
       simp only [zA]
       refine flow_val (v := ?_) rfl ?_ ?_; rotate_left; (intro W hW; go_simp; with_reducible rfl)
       simp only [zA]
       refine flow_val (v := ?_) rfl ?_ ?_; rotate_left; (intro W hW; go_simp; with_reducible rfl)
       simp only [zA]
       refine flow_val (v := ?_) rfl ?_ ?_; rotate_left; (intro W hW; go_simp; with_reducible rfl)
       simp only [zA]
       refine flow_val (v := ?_) rfl ?_ ?_; rotate_left; (intro W hW; have k1 := E5 W hW; go_simp; with_reducible rfl)
       simp only [zA]
       refine flow_val (v := ?_) rfl ?_ ?_; rotate_left; (intro W hW; go_simp; with_reducible rfl)
       simp only [zA]
       refine flow_val (v := ?_) rfl ?_ ?_; rotate_left; (intro W hW; go_simp; with_reducible rfl)
       simp only [zA]
       intro W hW
       obtain ⟨gq, cq, h1, -, -, f0, f1, ⟨z0, c0⟩, ⟨z1, c1'⟩, hall⟩ := (HobY.out.keep hW).setEnd Hf_fs1.out (j := i) hpl_fs1
       rw [E2 W hW] at h1
       injection h1 with h1
       injection h1 with h1 _ _
       injection h1 with h1
       injection h1 with h1
       subst h1
       obtain ⟨hob_fs1, hon_fs1⟩ := hall (((j2 : Nat) : Int), ((j : Nat) : Int))
       have Hob_fs1 := Lib.hid hob_fs1
       have Hon_fs1 := Lib.hid (HonY.out.trans ((Only.of_below hW.below).trans hon_fs1))
       have Hla_fs1 := Lib.hid (HlaY.out.put Hf_fs1.out (fs := fs1.set i (((j2 : Nat) : Int), ((j : Nat) : Int))) (by rw [List.length_set]))
       clear hob_fs1 hon_fs1 hall E0 E1 E2 E3 E4 E5 hW
       go_upto_region 18 with (fail)
       obtain ⟨w17, hw17⟩ : ∃ z, z = (W.setCell ⟨gr_fs1, i * 2, none⟩ (.int .i64 (j2 : Int))).setCell ⟨gr_fs1, i * 2 + 1, none⟩ (.int .i64 (j : Int)) := ⟨_, rfl⟩
       rw [← hw17]
       rw [← hw17] at Hob_fs1 Hon_fs1
       clear hw17 c0 c1' f0 f1
       obtain ⟨N3, hN3⟩ : ∃ z, z = ({ N2 with ends := N2.ends.set j1 (fs1.set i (((j2 : Nat) : Int), ((j : Nat) : Int))) } : Net) := ⟨_, rfl⟩
       have HobZ : Hid (Ob bo wa w17 (.slice (some ⟨g, 0, none⟩) m c1) (.slice AI 0 cI) (.slice (some ⟨gN, 0, none⟩) m cN) N3 S) := by rw [hN3]; exact Hob_fs1
       have HlaZ : Hid (LiftA n (2 * n.ends.length) N3) := by rw [hN3]; exact Hla_fs1
       have HonZ := Hon_fs1
       clear hN3 Hob_fs1 Hla_fs1 Hon_fs1 HlaY HobY HonY
       obtain ⟨fs2, hf_fs2⟩ := getx N3.ends j2 (by have := HlaZ.out.ends; have := Hj.out; omega)
       have hl_fs2 := (HlaZ.out.row j2 fs2 hf_fs2).2 (by have := Hj.out; omega)
       rw [show j2 / 2 = b from by have := Hj.out; omega, ← (Hfb.out).1] at hl_fs2
       obtain ⟨gr_fs2, cr_fs2, h1_fs2, h2_fs2, h3_fs2, -, -, -, -, -⟩ := HobZ.out.setEnd hf_fs2 (j := j) (by rw [hl_fs2]; exact (Hfb.out).2.1)
       unfold maxLen at h3_fs2
       have hpl_fs2 : j < fs2.length := by rw [hl_fs2]; exact (Hfb.out).2.1
       obtain ⟨K0, K1, K2, K3⟩ := Hk.out w17 HonZ.out
       have E0 := have_cell HobZ.out.box.cells.1
       have E1 := have_cell K0
       have E2 := have_cell h1_fs2
       have E3 := have_cell K1
       have E4 := have_cell K2
       have E5 := have_cell K3
       have Hf_fs2 := Lib.hid hf_fs2
       clear K0 K1 K2 K3 hl_fs2 hf_fs2 h1_fs2
       refine wp_region_flow 26 (Since w17) (by kernel_rfl) (by kernel_rfl) (by simp) (since_drew (since_refl _)) ?_
       simp only [List.take_succ_cons, List.take_zero, List.drop_succ_cons, List.drop_zero]
       refine flow_val (v := ?_) rfl ?_ ?_; rotate_left; (intro W hW; go_simp; with_reducible rfl)
       simp only [zA]
       refine flow_val (v := ?_) rfl ?_ ?_; rotate_left; (intro W hW; have k1 := E0 W hW; go_simp; with_reducible rfl)
       simp only [zA]
       refine flow_val (v := ?_) rfl ?_ ?_; rotate_left; (intro W hW; go_simp; with_reducible rfl)
       simp only [zA]
       refine flow_val (v := ?_) rfl ?_ ?_; rotate_left; (intro W hW; go_simp; with_reducible rfl)
       simp only [zA]
       refine flow_val (v := ?_) rfl ?_ ?_; rotate_left; (intro W hW; have k1 := E4 W hW; go_simp; with_reducible rfl)
       simp only [zA]
       refine flow_val (v := ?_) rfl ?_ ?_; rotate_left; (intro W hW; go_simp; with_reducible rfl)
       simp only [zA]
       refine flow_val (v := ?_) rfl ?_ ?_; rotate_left; (intro W hW; go_simp; with_reducible rfl)
       simp only [zA]
       refine flow_val (v := ?_) rfl ?_ ?_; rotate_left; (intro W hW; go_simp; with_reducible rfl)
       simp only [zA]
       refine flow_val (v := ?_) rfl ?_ ?_; rotate_left; (intro W hW; go_simp; with_reducible rfl)
       simp only [zA]
       refine flow_val (v := ?_) rfl ?_ ?_; rotate_left; (intro W hW; go_simp; with_reducible rfl)
       simp only [zA]
       refine flow_val (v := ?_) rfl ?_ ?_; rotate_left; (intro W hW; have k1 := E2 W hW; go_simp; with_reducible rfl)
       simp only [zA]
       refine flow_val (v := ?_) rfl ?_ ?_; rotate_left; (intro W hW; go_simp; with_reducible rfl)
       simp only [zA]
       refine flow_val (v := ?_) rfl ?_ ?_; rotate_left; (intro W hW; go_simp; with_reducible rfl)
       simp only [zA]
       refine flow_val (v := ?_) rfl ?_ ?_; rotate_left; (intro W hW; have k1 := E5 W hW; go_simp; with_reducible rfl)
       simp only [zA]
       refine flow_val (v := ?_) rfl ?_ ?_; rotate_left; (intro W hW; go_simp; with_reducible rfl)
       simp only [zA]
       refine flow_val (v := ?_) rfl ?_ ?_; rotate_left; (intro W hW; go_simp; with_reducible rfl)
       simp only [zA]
       refine flow_val (v := ?_) rfl ?_ ?_; rotate_left; (intro W hW; have k1 := E1 W hW; go_simp; with_reducible rfl)
       simp only [zA]
       refine flow_val (v := ?_) rfl ?_ ?_; rotate_left; (intro W hW; go_simp; with_reducible rfl)
       simp only [zA]
       refine flow_val (v := ?_) rfl ?_ ?_; rotate_left; (intro W hW; go_simp; with_reducible rfl)
       simp only [zA]
       refine flow_val (v := ?_) rfl ?_ ?_; rotate_left; (intro W hW; go_simp; with_reducible rfl)
       simp only [zA]
       refine flow_val (v := ?_) rfl ?_ ?_; rotate_left; (intro W hW; go_simp; with_reducible rfl)
       simp only [zA]
       refine flow_val (v := ?_) rfl ?_ ?_; rotate_left; (intro W hW; go_simp; with_reducible rfl)
       simp only [zA]
       refine flow_val (v := ?_) rfl ?_ ?_; rotate_left; (intro W hW; go_simp; with_reducible rfl)
       simp only [zA]
       refine flow_val (v := ?_) rfl ?_ ?_; rotate_left; (intro W hW; have k1 := E3 W hW; go_simp; with_reducible rfl)
       simp only [zA]
       refine flow_val (v := ?_) rfl ?_ ?_; rotate_left; (intro W hW; go_simp; with_reducible rfl)
       simp only [zA]
       refine flow_val (v := ?_) rfl ?_ ?_; rotate_left; (intro W hW; go_simp; with_reducible rfl)
       simp only [zA]
       intro W hW
       obtain ⟨gq, cq, h1, -, -, f0, f1, ⟨z0, c0⟩, ⟨z1, c1'⟩, hall⟩ := (HobZ.out.keep hW).setEnd Hf_fs2.out (j := j) hpl_fs2
       rw [E2 W hW] at h1
       injection h1 with h1
       injection h1 with h1 _ _
       injection h1 with h1
       injection h1 with h1
       subst h1
       obtain ⟨hob_fs2, hon_fs2⟩ := hall (((j1 : Nat) : Int), ((i : Nat) : Int))
       have Hob_fs2 := Lib.hid hob_fs2
       have Hon_fs2 := Lib.hid (HonZ.out.trans ((Only.of_below hW.below).trans hon_fs2))
       have Hla_fs2 := Lib.hid (HlaZ.out.put Hf_fs2.out (fs := fs2.set j (((j1 : Nat) : Int), ((i : Nat) : Int))) (by rw [List.length_set]))
       clear hob_fs2 hon_fs2 hall E0 E1 E2 E3 E4 E5 hW
       obtain ⟨w18, hw18⟩ : ∃ z, z = (W.setCell ⟨gr_fs2, j * 2, none⟩ (.int .i64 (j1 : Int))).setCell ⟨gr_fs2, j * 2 + 1, none⟩ (.int .i64 (i : Int)) := ⟨_, rfl⟩
       rw [← hw18] at Hob_fs2 Hon_fs2
       have Hw18 := Lib.hid hw18
       clear hw18
       go_wp2
       rw [← Hw18.out]
       clear c0 c1' f0 f1
       go_roundw
       case rel => exact ⟨s + 1, _, by omega, by first | rfl | go_num, Hla_fs2.out, Hob_fs2.out, Hon_fs2.out⟩
       case measure => simp [intOf]; omega
      ·obtain rfl : s = 2 := by omega
       clear hlt2
       go_wp2
       go_roundw
       case rel => exact ⟨x + 1, N2, by omega, by first | rfl | go_num, HlaY.out, HobY.out, HonY.out⟩
       case measure => simp [intOf]; omega
    ·obtain rfl : x = LL.length := by omega
     have hrw := HRb.out.since hsr
     obtain ⟨k0, k1, k2, -, -, -⟩ := HobX.out.box.cells
     obtain ⟨e0, e1', e2, f0, f1, f2⟩ := hrw.box.cells
     clear hrw hlt hx
     go_wp2
     refine bodyPost_ret (v := .agg #[.slice (some ⟨g, 0, none⟩) m c1, .slice AI 0 cI, .slice (some ⟨gN, 0, none⟩) m cN]) (by simp [results, Tryz.results195, go_sem, *]) rfl ?_
     have hza := Hza.out
     refine ⟨_, _, _, N1, S, rfl, (HobX.out.own.stable (fun j hj => ?_)).mono (by omega), HlaX.out.bd (by omega), ?_⟩
     ·have hj1 := (HobX.out.own.range j hj).1
      rw [Below.heap_setCell _ _ _ j (by simp; omega), Below.heap_setCell _ _ _ j (by simp; omega), Below.heap_setCell _ _ _ j (by simp; omega)]
     ·have hk : Below w.heap.size w wr := Below.trans Hb0.out ((Hsa.out.after HobX.out.since).below.mono Hb0.out.size)
      exact ((hk.setCell (by simp) _).setCell (by simp) _).setCell (by simp) _
end Go.Proofs.YtgmdpppljkmabaaGreat
