/- Parts of the proof: walks of functions and plain laws. -/
import Derived.Test.YtlfehdikgbgloaaGreatP8
import Derived.Test.YtlfehdikgbgloaaGreatP2
import Derived.Test.YtlfehdikgbgloaaGreatP6
import Derived.ArgAppend
import Derived.Laws.CopyOwn
import Derived.Shelf.Bits.Mul64
import Derived.Test.YtlfehdikgbgloaaGreatP0
import Derived.LoopN
import Derived.RangeFuncNested
import Derived.RangeFuncBound
import Derived.RangeFuncCalls
import Derived.RangeFuncLeaves
import Derived.RangeFuncBox
import Derived.Shelf.Abstract
import Derived.Shelf.RegionOpen
import Derived.OwnWalkIn
import Derived.TacticsInMore
import Derived.LoopNIn
import Derived.LoopIn
import Derived.Test.YtlfehdikgbgloaaGreatP1
import Derived.Test.YtlfehdikgbgloaaGreatP7
import Derived.Test.YtlfehdikgbgloaaGreatP4
import Derived.Test.YtlfehdikgbgloaaGreatP5
namespace Go.Proofs.YtlfehdikgbgloaaGreat
open Go.RowKit
/-! distances from a node, by a walk that grows -/
def bstep (cur : Int) (st : List Int × List Int) (x : Int) : List Int × List Int := if st.1.getD x.toNat 0 < 0 then (st.1.set x.toNat (st.1.getD cur.toNat 0 + 1), st.2 ++ [x]) else st
def bsee (n : Net) (cur : Int) : List Int := (n.ends.getD cur.toNat []).map fun e => e.1
def bfs (n : Net) : Nat → List Int × List Int → Nat → List Int
  | 0, st, _ => st.1
  | f + 1, st, i => if i < st.2.length then bfs n f ((bsee n (st.2.getD i 0)).foldl (bstep (st.2.getD i 0)) st) (i + 1) else st.1
def bfsStart (n : Net) (v : Nat) : List Int × List Int := ((List.replicate n.ends.length (-1)).set v 0, [(v : Int)])
def distB (n : Net) (v : Nat) : List Int := bfs n (n.ends.length + 1) (bfsStart n v) 0
structure BI (N : Nat) (st : List Int × List Int) : Prop where
  len : st.1.length = N
  walk : ∀ x ∈ st.2, 0 ≤ x ∧ x < N
  cnt : st.2.length + st.1.countP (fun x => decide (x < 0)) = N
  val : ∀ x ∈ st.1, -1 ≤ x ∧ x < st.2.length
theorem BI.start {n : Net} {v : Nat} (hv : v < n.ends.length) : BI n.ends.length (bfsStart n v) where
  len := by simp [bfsStart]
  walk := fun x hx => by simp [bfsStart] at hx; omega
  cnt := by
    unfold bfsStart
    rw [List.countP_set (by simpa using hv)]
    simp [List.countP_replicate]
    omega
  val := fun x hx => by
    unfold bfsStart at hx ⊢
    rcases List.mem_or_eq_of_mem_set hx with hx | rfl
    · have := List.eq_of_mem_replicate hx
      subst this
      simp
    · simp
theorem BI.bd {N : Nat} {st : List Int × List Int} (h : BI N st) : st.2.length ≤ N := by have := h.cnt; omega
theorem BI.step {N : Nat} {st : List Int × List Int} (h : BI N st) {cur x : Int} (hc : 0 ≤ cur ∧ cur < N) (hx : 0 ≤ x ∧ x < N) : BI N (bstep cur st x) := by
  unfold bstep
  split
  · rename_i hneg
    have hxl : x.toNat < st.1.length := by rw [h.len]; omega
    have hcl : cur.toNat < st.1.length := by rw [h.len]; omega
    have hx1 : st.1[x.toNat] < 0 := by rwa [List.getD_eq_getElem?_getD, List.getElem?_eq_getElem hxl] at hneg
    have hcv : -1 ≤ st.1.getD cur.toNat 0 ∧ st.1.getD cur.toNat 0 < st.2.length := by
      rw [List.getD_eq_getElem?_getD, List.getElem?_eq_getElem hcl]
      exact h.val _ (List.getElem_mem hcl)
    obtain ⟨q, hq⟩ : ∃ q, q = st.1.getD cur.toNat 0 := ⟨_, rfl⟩
    rw [← hq] at hcv ⊢
    refine ⟨by simp [h.len], fun y hy => ?_, ?_, fun y hy => ?_⟩
    · rcases List.mem_append.1 hy with hy | hy
      · exact h.walk y hy
      · simp at hy; subst hy; exact hx
    · have h2 := h.cnt
      have h3 : 0 < st.1.countP (fun x => decide (x < 0)) := List.countP_pos_iff.2 ⟨_, List.getElem_mem hxl, by simpa using hx1⟩
      have e1 : (decide (st.1[x.toNat] < 0)) = true := by simpa using hx1
      have e2 : (decide (q + 1 < 0)) = false := by simp; omega
      show (st.2 ++ [x]).length + _ = _
      rw [List.countP_set hxl, e1, e2, List.length_append]
      simp
      omega
    · show _ ∧ y < ((st.2 ++ [x]).length : Nat)
      rw [List.length_append]
      rcases List.mem_or_eq_of_mem_set hy with hy | rfl
      · have := h.val y hy; simp; omega
      · simp; omega
  · exact h
theorem BI.fold {N : Nat} {cur : Int} (hc : 0 ≤ cur ∧ cur < N) : ∀ (xs : List Int) {st : List Int × List Int}, BI N st → (∀ x ∈ xs, 0 ≤ x ∧ x < N) → BI N (xs.foldl (bstep cur) st)
  | [], _, h, _ => h
  | x :: xs, _, h, hx => BI.fold hc xs (h.step hc (hx x (by simp))) (fun y hy => hx y (List.mem_cons_of_mem _ hy))
theorem bstep_walk (cur : Int) (st : List Int × List Int) (x : Int) : ∃ ys, (bstep cur st x).2 = st.2 ++ ys := by
  unfold bstep
  split
  · exact ⟨_, rfl⟩
  · exact ⟨[], by simp⟩
theorem fold_walk (cur : Int) : ∀ (xs : List Int) (st : List Int × List Int), ∃ ys, (xs.foldl (bstep cur) st).2 = st.2 ++ ys
  | [], st => ⟨[], by simp⟩
  | x :: xs, st => by
    obtain ⟨y1, h1⟩ := bstep_walk cur st x
    obtain ⟨y2, h2⟩ := fold_walk cur xs (bstep cur st x)
    exact ⟨y1 ++ y2, by rw [List.foldl_cons, h2, h1, List.append_assoc]⟩
theorem see_in {n : Net} (hn : netOk n = true) {cur : Int} (hc : 0 ≤ cur ∧ cur < n.ends.length) : ∀ x ∈ bsee n cur, 0 ≤ x ∧ x < n.ends.length := by
  obtain ⟨k, rfl⟩ := Int.eq_ofNat_of_zero_le hc.1
  obtain ⟨es, hes⟩ := getx n.ends k (by omega)
  obtain ⟨-, hin⟩ := netOk_row hn hes
  intro x hx
  unfold bsee at hx
  rw [Int.toNat_natCast, List.getD_eq_getElem?_getD, hes] at hx
  obtain ⟨e, he, rfl⟩ := List.mem_map.1 hx
  exact hin e he
namespace Go.Proofs.YtlfehdikgbgloaaGreat
open Go Go.RowKit
/-! A region that draws its order: reads, a call that makes a row of integers, a new variable of type int, a slot for the row. -/
def I1 (W : World) (b : Nat) (x : Int) : Prop := W.heap[b]? = some (.cells #[.int .i64 x] 3)
theorem I1.cells {W : World} {b : Nat} {x : Int} (h : I1 W b x) : W.cell? ⟨b, 0, none⟩ = some (.int .i64 x) ∧ W.frozen? ⟨b, 0, none⟩ = false := by
  unfold I1 at h
  simp [World.cell?, World.frozen?, h]
theorem I1.lt {W : World} {b : Nat} {x : Int} (h : I1 W b x) : b < W.heap.size := (Array.getElem?_eq_some_iff.1 h).1
theorem I1.since {W W' : World} {b : Nat} {x : Int} (h : I1 W b x) (hs : Since W W') : I1 W' b x := (hs.below.block b h.lt).trans h
theorem I1.set {W : World} {b : Nat} {x : Int} (h : I1 W b x) (y : Int) : I1 (W.setCell ⟨b, 0, none⟩ (.int .i64 y)) b y := by
  unfold I1 at *
  simp [World.setCell, Array.getElem?_modify, h]
theorem I1.new (W : World) (x : Int) : I1 (W.alloc (.cells #[.int .i64 x] 3)) W.heap.size x := by
  show (W.heap.push _)[W.heap.size]? = _
  rw [Array.getElem?_push_size]
section
variable {ops : Array Oper}
end
end Go.Proofs.YtlfehdikgbgloaaGreat
namespace Go.Proofs.YtlfehdikgbgloaaGreat
open Go.RowKit
end Go.Proofs.YtlfehdikgbgloaaGreat
namespace Go.Proofs.YtlfehdikgbgloaaGreat
open Go.RowKit
/-! edges: rows of four integers -/
abbrev Ed := Int × Int × Int × Int
def encD (e : Ed) : List Value := [.int .i64 e.1, .int .i64 e.2.1, .int .i64 e.2.2.1, .int .i64 e.2.2.2]
def OwnD (w : World) (base : Nat) (v : Value) (xs : List Ed) : Prop := w.ownsRow base 112 4 v xs.length (xs.flatMap encD)
theorem OwnD.keep {w w' : World} {base : Nat} {v : Value} {xs : List Ed} (h : OwnD w base v xs) (hb : Since w w') : OwnD w' base v xs := ownsRow_stable h fun k hk => hb.below.block k (World.ownsRow.lt h k (by simpa using hk)).2
theorem OwnD.mono {w : World} {base base' : Nat} {v : Value} {xs : List Ed} (h : OwnD w base v xs) (hb : base' ≤ base) : OwnD w base' v xs := ownsRow_mono h hb
namespace Go.Proofs.YtlfehdikgbgloaaGreat
open Go.RowKit
/-! a slice of integers of the call's own that begins anywhere in its row (a queue) -/
def QA (W : World) (base g off cap : Nat) (xs : List Int) : Prop :=
  base ≤ g ∧ xs.length ≤ cap ∧ cap ≤ maxLen ∧ ∃ cur : Array Value, W.heap[g]? = some (.cells cur 3 (0, 0)) ∧ off + cap ≤ cur.size ∧ ∀ j x, xs[j]? = some x → cur[off + j]? = some (.int .i64 x)
theorem QA.cell {W : World} {base g off cap : Nat} {xs : List Int} (h : QA W base g off cap xs) {j : Nat} {x : Int} (hx : xs[j]? = some x) : W.cell? ⟨g, off + j, none⟩ = some (.int .i64 x) := by
  obtain ⟨-, -, -, cur, h1, -, h3⟩ := h
  simp [World.cell?, h1, h3 j x hx]
theorem QA.lt {W : World} {base g off cap : Nat} {xs : List Int} (h : QA W base g off cap xs) : g < W.heap.size := by
  obtain ⟨-, -, -, cur, h1, -⟩ := h
  exact (Array.getElem?_eq_some_iff.1 h1).1
theorem QA.stable {W W' : World} {base g off cap : Nat} {xs : List Int} (h : QA W base g off cap xs) (hs : W'.heap[g]? = W.heap[g]?) : QA W' base g off cap xs := by
  obtain ⟨h1, h2, h3, cur, h4, h5⟩ := h
  exact ⟨h1, h2, h3, cur, hs.trans h4, h5⟩
theorem QA.since {W W' : World} {base g off cap : Nat} {xs : List Int} (h : QA W base g off cap xs) (hs : Since W W') : QA W' base g off cap xs := h.stable (hs.below.block g h.lt)
theorem QA.other {W : World} {base g off cap : Nat} {xs : List Int} (h : QA W base g off cap xs) {b : Nat} (hb : g ≠ b) (k : Nat) (v : Value) : QA (W.setCell ⟨b, k, none⟩ v) base g off cap xs := h.stable (Below.heap_setCell W _ v g hb)
theorem QA.tail {W : World} {base g off cap : Nat} {x : Int} {xs : List Int} (h : QA W base g off cap (x :: xs)) : QA W base g (off + 1) (cap - 1) xs := by
  obtain ⟨h1, h2, h3, cur, h4, h5, h6⟩ := h
  rw [List.length_cons] at h2
  exact ⟨h1, by omega, by omega, cur, h4, by omega, fun j y hy => by
    have := h6 (j + 1) y (by simpa using hy)
    rwa [show off + (j + 1) = off + 1 + j by omega] at this⟩
theorem QA.nil {W : World} {base g off cap : Nat} {xs : List Int} (h : QA W base g off cap xs) : QA W base g off 0 [] := by
  obtain ⟨h1, h2, h3, cur, h4, h5, h6⟩ := h
  exact ⟨h1, Nat.le_refl _, Nat.zero_le _, cur, h4, by omega, fun j y hy => by simp at hy⟩
theorem QA.one (W : World) (base : Nat) (x : Int) (h : base ≤ W.heap.size) : QA (W.alloc (.cells #[.int .i64 x] 3)) base W.heap.size 0 1 [x] := by
  refine ⟨h, Nat.le_refl _, by simp [maxLen], #[.int .i64 x], ?_, by simp, fun j y hy => ?_⟩
  · show (W.heap.push _)[W.heap.size]? = _
    rw [Array.getElem?_push_size]
  · have := lt_of_get hy
    simp at this
    subst this
    simpa using hy
end Go.Proofs.YtlfehdikgbgloaaGreat
namespace Go.Proofs.YtlfehdikgbgloaaGreat
open Go.RowKit
end Go.Proofs.YtlfehdikgbgloaaGreat
namespace Go.Proofs.YtlfehdikgbgloaaGreat
open Go.RowKit
end Go.Proofs.YtlfehdikgbgloaaGreat
namespace Go.Proofs.YtlfehdikgbgloaaGreat
open Go.RowKit
namespace Go.Proofs.YtlfehdikgbgloaaGreat
open Go.RowKit Go.Shelf
attribute [local go_sem] Oper.semAt_some
end Go.Proofs.YtlfehdikgbgloaaGreat
namespace Go.Proofs.YtlfehdikgbgloaaGreat
open Go.RowKit Go.Shelf
attribute [local go_sem] Oper.semAt_some
end Go.Proofs.YtlfehdikgbgloaaGreat
namespace Go.Proofs.YtlfehdikgbgloaaGreat
open Go.RowKit
end Go.Proofs.YtlfehdikgbgloaaGreat
namespace Go.Proofs.YtlfehdikgbgloaaGreat
open Go.RowKit
end Go.Proofs.YtlfehdikgbgloaaGreat
namespace Go.Proofs.YtlfehdikgbgloaaGreat
open Go.RowKit
end Go.Proofs.YtlfehdikgbgloaaGreat
namespace Go.Proofs.YtlfehdikgbgloaaGreat
open Go.RowKit
end Go.Proofs.YtlfehdikgbgloaaGreat
namespace Go.Proofs.YtlfehdikgbgloaaGreat
open Go.RowKit
namespace Go.Proofs.YtlfehdikgbgloaaGreat
open Go.RowKit
end Go.Proofs.YtlfehdikgbgloaaGreat
namespace Go.Proofs.YtlfehdikgbgloaaGreat
open Go.RowKit
section
variable {α : Type} {p : α → Bool} {xs : List α}
theorem fi_none (h : xs.any p = false) : xs.findIdx? p = none := by
  rw [List.findIdx?_eq_none_iff]
  intro x hx
  rw [List.any_eq_false] at h
  simpa using h x hx
theorem fi_found {k : Nat} {x : α} (hx : xs[k]? = some x) (hp : p x = true) (h : (xs.take k).any p = false) : xs.findIdx? p = some k := by
  obtain ⟨hk, rfl⟩ := List.getElem?_eq_some_iff.1 hx
  rw [List.findIdx?_eq_some_iff_getElem]
  refine ⟨hk, hp, fun j hj => ?_⟩
  rw [List.any_eq_false] at h
  have := h xs[j] (List.mem_take_iff_getElem.2 ⟨j, by omega, rfl⟩)
  simpa using this
theorem any_snoc' {k : Nat} {x : α} (hx : xs[k]? = some x) (h : (xs.take k).any p = false) (hp : p x = false) : (xs.take (k + 1)).any p = false := by
  rw [take_snoc hx, List.any_append, h]
  simp [hp]
end
end Go.Proofs.YtlfehdikgbgloaaGreat
namespace Go.Proofs.YtlfehdikgbgloaaGreat
open Go.RowKit
end Go.Proofs.YtlfehdikgbgloaaGreat
namespace Go.Proofs.YtlfehdikgbgloaaGreat
open Go.RowKit
end Go.Proofs.YtlfehdikgbgloaaGreat
namespace Go.Proofs.YtlfehdikgbgloaaGreat
open Go.RowKit
def degsB (n : Net) : List Int := n.ends.map fun es => (es.length : Int)
theorem degsB_len (n : Net) : (degsB n).length = n.ends.length := by simp [degsB]
theorem degsB_at {n : Net} {k : Nat} {es : List (Int × Int)} (h : n.ends[k]? = some es) : (degsB n)[k]? = some (es.length : Int) := by simp [degsB, h]
set_option maxHeartbeats 4000000 in
theorem neDegrees_any (ve vi vn : Value) (n : Net) (w : World) (h : NetIn w ve vi vn n) (hn : netOk n = true) :
    Calls Tryz.prog 173 #[.agg #[ve, vi, vn]] w fun e w' => ∃ u, e = .returned u ∧ Own w' w.heap.size u (degsB n) ∧ Below w.heap.size w w' := by
  have hn40 := (netOk_len hn).2
  obtain ⟨w0, hw0⟩ : ∃ w0, w0 = (w).alloc (.cells #[ve, vi, vn] 31) := ⟨_, rfl⟩
  have hb0 : Below w.heap.size w w0 := by rw [hw0]; exact ((Below.refl _ _).alloc (by simp) _)
  have H := Lib.hid (h.keep hb0)
  obtain ⟨h1, h2, h3⟩ := h.keep hb0
  obtain ⟨A, c, rfl, hlc, hm, hA⟩ := h1
  obtain ⟨A2, c2, rfl, _, hm2, _⟩ := h2
  obtain ⟨A3, c3, rfl, _, hm3, _⟩ := h3
  unfold maxLen at hm hm2 hm3
  have p00 : ∀ W, Since w0 W → W.cell? ⟨w.heap.size, 0, none⟩ = some (.slice A n.ends.length c) := have_cell (by rw [hw0]; simp)
  have p01 : ∀ W, Since w0 W → W.cell? ⟨w.heap.size, 1, none⟩ = some (.slice A2 n.ids.length c2) := have_cell (by rw [hw0]; simp)
  have p02 : ∀ W, Since w0 W → W.cell? ⟨w.heap.size, 2, none⟩ = some (.slice A3 n.inputs.length c3) := have_cell (by rw [hw0]; simp)
  have Hb0 := Lib.hid hb0
  have Hw0 := Lib.hid hw0
  have HA := Lib.hid hA
  clear hA h
  clear hb0 hw0
  have hs0 : Since w0 w0 := since_refl _
  clear hn
  go_enter Tryz.func173, Tryz.ntmps173
  go_upto_region 1 with (fail)
  rw [← Hw0.out]
  go_wp2
  go_loopw [3, 9] (fun u i wr => ∃ k : Nat, k ≤ n.ends.length ∧ i = .int .i64 k ∧ Own wr w0.heap.size u ((degsB n).take k) ∧ Since w0 wr) (fun _ i _ => n.ends.length - (intOf i).toNat)
  case atStart => exact ⟨0, Nat.zero_le _, rfl, by simpa using own_nil _ w0.heap.size, hs0⟩
  case round =>
    obtain ⟨k, hk, rfl, ho, hs⟩ := hrel
    have Ho := Lib.hid ho
    have Hs := Lib.hid hs
    clear hs0 ho hs
    by_cases hlt : k < n.ends.length
    · obtain ⟨es, hes⟩ := getx n.ends k hlt
      obtain ⟨b, offr, cr, ur, hA1, hkr, hc1, hrow⟩ := row_at H.out.es hes
      cases hA1
      obtain ⟨A1, z1, rfl, hz1, hz2, hA1⟩ := hrow
      unfold maxLen at hz2
      have q5 := have_cell hc1 wr Hs.out
      have hd := degsB_at hes
      have Hlen : Hid (((degsB n).take k).length + 1 ≤ 17592186044416) := by show _ ≤ _; rw [List.length_take]; omega
      have Hnx : Hid ((degsB n).take (k + 1) = (degsB n).take k ++ [(es.length : Int)]) := take_snoc hd
      have m3 : IntKind.i64.wrap ((k : Int) + 1) = (k : Int) + 1 := wr64 _ (by omega) (by omega)
      clear hes hc1 hA1 hd
      go_wp2_with (at_builtin; refine app_int_s rfl _ _ rfl rfl (Ho.out.since (since_alloc _ (since_refl _))) wr.heap.size (es.length : Int) rfl (by simp [go_sem]) Hlen.out (since_alloc _ Hs.out) ?_; intro g cc w2 ho2 hs3)
      have Ho2 := Lib.hid ho2
      have Hs2 := Lib.hid hs3
      clear ho2 hs3
      go_wp2
      go_roundw
      case rel => exact ⟨k + 1, by omega, by go_num, by rw [Hnx.out]; have := Ho2.out; first | exact this | (rw [List.length_take] at this; exact this) | (simpa using this), Hs2.out⟩
      case measure => simp [intOf]; omega
    · obtain rfl : k = n.ends.length := by omega
      go_wp2
      go_ret
      exact ⟨_, rfl, by have := Ho.out; rw [List.take_of_length_le (by rw [degsB_len]; exact Nat.le_refl _)] at this; exact this.mono Hb0.out.size, Since.after Hb0.out Hs.out⟩
def mx (a b : Int) : Int := if b < a then a else b
theorem l1Most_any (a b : Int) (w : World) : Calls Tryz.prog 87 #[.int .i64 a, .int .i64 b] w fun e w' => e = .returned (.int .i64 (mx a b)) ∧ w = w' := by
  by_cases h : b < a
  · have hr : mx a b = a := if_pos h
    rw [hr]
    go_enter Tryz.func87, Tryz.ntmps87
    go_wp2
    go_ret
    exact ⟨rfl, rfl⟩
  · have hr : mx a b = b := if_neg h
    rw [hr]
    go_enter Tryz.func87, Tryz.ntmps87
    go_wp2
    go_ret
    exact ⟨rfl, rfl⟩
end Go.Proofs.YtlfehdikgbgloaaGreat
namespace Go.Proofs.YtlfehdikgbgloaaGreat
open Go.RowKit
theorem mx_max (q x : Int) : mx q x = max q x := by unfold mx; rw [Int.max_def]; split <;> split <;> omega
end Go.Proofs.YtlfehdikgbgloaaGreat
namespace Go.Proofs.YtlfehdikgbgloaaGreat
open Go.RowKit
end Go.Proofs.YtlfehdikgbgloaaGreat
namespace Go.Proofs.YtlfehdikgbgloaaGreat
open Go.RowKit
/-! the plain tests of machines and states of asynchronous runs -/
def macLens2 (m : Mac) : Bool := ((m.start.length : Int) == m.degree + 1) && ((m.send.length : Int) == m.states) && ((m.output.length : Int) == m.states) && decide ((m.clauses.length : Int) ≤ 60)
def stB (m : Mac) (l : List Int) : Bool := ((l.length : Int) == ((m.start.getD 0 []).length : Int)) && inB 1 10 (l.length : Int) && allB l 0 (m.states - 1)
def macOk2 (m : Mac) : Bool := macNums m && macLens2 m && m.start.all (stB m) && m.send.all (fun l => maRowB l m.degree m.messages) && m.clauses.all (clB m) && allB m.output (-1) 9
theorem inB_true {lo hi x : Int} : inB lo hi x = true ↔ lo ≤ x ∧ x ≤ hi := by simp [inB]
theorem macOk2_eq (m : Mac) : macOk2 m = macOk m := by
  rw [Bool.eq_iff_iff]
  unfold macOk2 macOk macLens macLens2 stB maRowB
  simp only [Bool.and_eq_true, List.all_eq_true, beq_iff_eq, decide_eq_true_eq]
  constructor
  · rintro ⟨⟨⟨⟨⟨hn, ⟨⟨h1, h2⟩, h3⟩, h4⟩, h5⟩, h6⟩, h7⟩, h8⟩
    have hd : 0 ≤ m.degree := by
      unfold macNums at hn
      simp only [Bool.and_eq_true, inB_true] at hn
      exact hn.1.1.1
    have hl : 0 < m.start.length := by omega
    have h0 : m.start.getD 0 [] ∈ m.start := by
      rw [List.getD_eq_getElem?_getD, List.getElem?_eq_getElem hl]
      exact List.getElem_mem hl
    exact ⟨⟨⟨⟨hn, ⟨⟨⟨⟨⟨h1, (h5 _ h0).1.2⟩, h2⟩, h4⟩, h3⟩, h8⟩⟩, fun l hl => ⟨(h5 l hl).1.1, (h5 l hl).2⟩⟩, h6⟩, h7⟩
  · rintro ⟨⟨⟨⟨hn, ⟨⟨⟨⟨⟨h1, h0⟩, h2⟩, h4⟩, h3⟩, h8⟩⟩, h5⟩, h6⟩, h7⟩
    exact ⟨⟨⟨⟨⟨hn, ⟨⟨h1, h2⟩, h3⟩, h4⟩, fun l hl => ⟨⟨(h5 l hl).1, by rw [(h5 l hl).1]; exact h0⟩, (h5 l hl).2⟩⟩, h6⟩, h7⟩, h8⟩
/-- the machine runs on the network -/
def maOnB (m : Mac) (n : Net) : Bool := allB (degsB n) 0 m.degree && allB n.inputs 0 (((m.start.getD 0 []).length : Int) - 1)
def askedB (m : Mac) (n : Net) : Bool := macOk m && netOk n && maOnB m n
def runB (m : Mac) (n : Net) (v : Nat) : Bool := decide (((n.ends.getD v []).length : Int) ≤ m.degree) && decide (n.inputs.getD v 0 < ((m.start.getD 0 []).length : Int))
def runsOnB (m : Mac) (n : Net) : Bool := (List.range n.ends.length).all (runB m n)
theorem netOk_inp {n : Net} (hn : netOk n = true) : n.inputs.length = n.ends.length ∧ ∀ x ∈ n.inputs, 0 ≤ x := by
  unfold netOk inputsB at hn
  simp only [Bool.and_eq_true, beq_iff_eq, List.all_eq_true] at hn
  obtain ⟨⟨_, h1, h2⟩, _⟩ := hn
  exact ⟨by omega, fun x hx => (inB_true.1 (h2 x hx)).1⟩
theorem all_range {α : Type} (xs : List α) (d : α) (p : α → Bool) (q : Nat → Bool) (h : ∀ v, v < xs.length → q v = p (xs.getD v d)) : (List.range xs.length).all q = xs.all p := by
  rw [Bool.eq_iff_iff, List.all_eq_true, List.all_eq_true]
  constructor
  · intro H x hx
    obtain ⟨k, hk, rfl⟩ := List.getElem_of_mem hx
    have := H k (List.mem_range.2 hk)
    rw [h k hk, List.getD_eq_getElem?_getD, List.getElem?_eq_getElem hk] at this
    exact this
  · intro H v hv
    have hv := List.mem_range.1 hv
    rw [h v hv]
    apply H
    rw [List.getD_eq_getElem?_getD, List.getElem?_eq_getElem hv]
    exact List.getElem_mem hv
theorem all_and {α : Type} (xs : List α) (p q : α → Bool) : (xs.all fun x => p x && q x) = (xs.all p && xs.all q) := by
  induction xs with
  | nil => rfl
  | cons a r ih => simp only [List.all_cons, ih]; cases p a <;> cases q a <;> cases r.all p <;> simp
theorem runsOn_eq {m : Mac} {n : Net} (hn : netOk n = true) : runsOnB m n = maOnB m n := by
  obtain ⟨hl, hi⟩ := netOk_inp hn
  unfold runsOnB runB maOnB allB
  rw [all_and]
  congr 1
  · rw [all_range n.ends [] (fun es => decide ((es.length : Int) ≤ m.degree)) _ (fun v hv => rfl)]
    unfold degsB
    rw [List.all_map]
    first | rfl | (congr 1; funext es; simp [inB])
  · rw [← hl, all_range n.inputs 0 (fun x => decide (x < ((m.start.getD 0 []).length : Int))) _ (fun v hv => rfl)]
    rw [Bool.eq_iff_iff, List.all_eq_true, List.all_eq_true]
    constructor
    · intro H x hx
      have := H x hx
      simp only [decide_eq_true_eq] at this
      exact inB_true.2 ⟨hi x hx, by omega⟩
    · intro H x hx
      have := inB_true.1 (H x hx)
      simp only [decide_eq_true_eq]
      omega
/-- a letter that may not be on its way -/
def nletB (m : Mac) (l : Int × Int) : Bool := !inB 0 40 l.1 || !inB 0 (m.messages - 1) l.2
def letsB (m : Mac) (ls : List (Int × Int)) : Bool := decide ((ls.length : Int) ≤ 12) && !(ls.any (nletB m))
def slotB (m : Mac) (ports : Int) (slots : List Int) (flight : List (List (Int × Int))) : Bool := ((slots.length : Int) == ports) && ((flight.length : Int) == ports) && allB slots (-1) (m.messages - 1) && flight.all (letsB m)
def slotAt (m : Mac) (n : Net) (x : ASt) (v : Nat) : Bool := slotB m ((n.ends.getD v []).length : Int) (x.slots.getD v []) (x.flight.getD v [])
def syShapeB (m : Mac) (n : Net) (x : ASt) : Bool := ((x.slots.length : Int) == (n.ends.length : Int)) && ((x.flight.length : Int) == (n.ends.length : Int)) && (List.range n.ends.length).all (slotAt m n x)
def asyncOkB (m : Mac) (n : Net) (x : ASt) : Bool := ((x.rounds.length : Int) == (n.ends.length : Int)) && allB x.rounds 0 40 && maRowB x.before n.ends.length m.states && maRowB x.now n.ends.length m.states && syShapeB m n x
def syGoodB (m : Mac) (n : Net) (x : ASt) : Bool := askedB m n && asyncOkB m n x
theorem slot_false {m : Mac} {ports : Int} {slots : List Int} {flight : List (List (Int × Int))} (h : (((slots.length : Int) != ports) || ((flight.length : Int) != ports) || !allB slots (-1) (m.messages - 1)) = true) : slotB m ports slots flight = false := by
  unfold slotB
  cases h1 : allB slots (-1) (m.messages - 1)
  · simp
  · simp only [h1, Bool.not_true, Bool.or_false, Bool.or_eq_true, bne_iff_ne] at h
    rcases h with h | h
    · rw [beq_eq_false_iff_ne.2 h]; simp
    · rw [beq_eq_false_iff_ne.2 h]; simp
theorem slot_lets {m : Mac} {ports : Int} {slots : List Int} {flight : List (List (Int × Int))} (h : (((slots.length : Int) != ports) || ((flight.length : Int) != ports) || !allB slots (-1) (m.messages - 1)) = false) : slotB m ports slots flight = flight.all (letsB m) := by
  simp only [Bool.or_eq_false_iff, Bool.not_eq_false', bne_eq_false_iff_eq] at h
  unfold slotB
  rw [h.2, h.1.1, h.1.2]
  simp
theorem shape_false {m : Mac} {n : Net} {x : ASt} (h : (((x.slots.length : Int) != (n.ends.length : Int)) || ((x.flight.length : Int) != (n.ends.length : Int))) = true) : syShapeB m n x = false := by
  unfold syShapeB
  simp only [Bool.or_eq_true, bne_iff_ne] at h
  rcases h with h | h
  · rw [beq_eq_false_iff_ne.2 h]; simp
  · rw [beq_eq_false_iff_ne.2 h]; simp
theorem shape_all {m : Mac} {n : Net} {x : ASt} (h : (((x.slots.length : Int) != (n.ends.length : Int)) || ((x.flight.length : Int) != (n.ends.length : Int))) = false) : syShapeB m n x = (List.range n.ends.length).all (slotAt m n x) ∧ x.slots.length = n.ends.length ∧ x.flight.length = n.ends.length := by
  simp only [Bool.or_eq_false_iff, bne_eq_false_iff_eq] at h
  refine ⟨?_, by omega, by omega⟩
  unfold syShapeB
  rw [h.1, h.2]
  simp
theorem async_false {m : Mac} {n : Net} {x : ASt} (h : (((x.rounds.length : Int) != (n.ends.length : Int)) || !allB x.rounds 0 40 || !maRowB x.before n.ends.length m.states || !maRowB x.now n.ends.length m.states || ((x.slots.length : Int) != (n.ends.length : Int)) || ((x.flight.length : Int) != (n.ends.length : Int))) = true) : asyncOkB m n x = false := by
  unfold asyncOkB
  cases h1 : ((x.rounds.length : Int) != (n.ends.length : Int)) with
  | true => rw [beq_eq_false_iff_ne.2 (bne_iff_ne.1 h1)]; simp
  | false =>
    cases h2 : allB x.rounds 0 40 <;> cases h3 : maRowB x.before n.ends.length m.states <;> cases h4 : maRowB x.now n.ends.length m.states <;> first | (simp; done) | skip
    rw [h1, h2, h3, h4] at h
    rw [shape_false (by simpa using h)]
    simp
theorem async_all {m : Mac} {n : Net} {x : ASt} (h : (((x.rounds.length : Int) != (n.ends.length : Int)) || !allB x.rounds 0 40 || !maRowB x.before n.ends.length m.states || !maRowB x.now n.ends.length m.states || ((x.slots.length : Int) != (n.ends.length : Int)) || ((x.flight.length : Int) != (n.ends.length : Int))) = false) : asyncOkB m n x = (List.range n.ends.length).all (slotAt m n x) ∧ x.slots.length = n.ends.length ∧ x.flight.length = n.ends.length := by
  simp only [Bool.or_eq_false_iff, Bool.not_eq_false', bne_eq_false_iff_eq] at h
  obtain ⟨⟨⟨⟨⟨h1, h2⟩, h3⟩, h4⟩, h5⟩, h6⟩ := h
  obtain ⟨e1, e2, e3⟩ := shape_all (m := m) (n := n) (x := x) (by rw [h5, h6]; simp)
  refine ⟨?_, e2, e3⟩
  unfold asyncOkB
  rw [h1, h2, h3, h4, e1]
  simp
theorem asked_mac {m : Mac} {n : Net} (h : askedB m n = true) : macOk m = true := by
  unfold askedB at h
  simp only [Bool.and_eq_true] at h
  exact h.1.1
theorem asked_net {m : Mac} {n : Net} (h : askedB m n = true) : netOk n = true := by
  unfold askedB at h
  simp only [Bool.and_eq_true] at h
  exact h.1.2
end Go.Proofs.YtlfehdikgbgloaaGreat
