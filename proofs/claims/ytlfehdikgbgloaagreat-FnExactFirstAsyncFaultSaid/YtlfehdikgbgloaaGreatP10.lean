/- Parts of the proof: walks of functions and plain laws. -/
import Derived.Test.YtlfehdikgbgloaaGreatP9
import Derived.ArgAppend
import Derived.Test.YtlfehdikgbgloaaGreatP8
import Derived.Laws.CopyOwn
import Derived.Shelf.Bits.Mul64
import Derived.Test.YtlfehdikgbgloaaGreatP0
import Derived.LoopN
import Derived.RangeFuncNested
import Derived.RangeFuncBound
import Derived.RangeFuncCalls
import Derived.RangeFuncLeaves
import Derived.RangeFuncBox
import Derived.Shelf.Abstract
import Derived.Shelf.RegionOpen
import Derived.OwnWalkIn
import Derived.TacticsInMore
import Derived.LoopNIn
import Derived.LoopIn
import Derived.Test.YtlfehdikgbgloaaGreatP1
import Derived.Test.YtlfehdikgbgloaaGreatP4
import Derived.Test.YtlfehdikgbgloaaGreatP5
namespace Go.Proofs.YtlfehdikgbgloaaGreat
open Go.RowKit
/-! edges: rows of four integers -/
abbrev Ed := Int × Int × Int × Int
def encD (e : Ed) : List Value := [.int .i64 e.1, .int .i64 e.2.1, .int .i64 e.2.2.1, .int .i64 e.2.2.2]
def OwnD (w : World) (base : Nat) (v : Value) (xs : List Ed) : Prop := w.ownsRow base 112 4 v xs.length (xs.flatMap encD)
theorem encD_get : ∀ {xs : List Ed} {k : Nat} {x : Ed}, xs[k]? = some x → (xs.flatMap encD)[k * 4]? = some (.int .i64 x.1) ∧ (xs.flatMap encD)[k * 4 + 1]? = some (.int .i64 x.2.1) ∧ (xs.flatMap encD)[k * 4 + 2]? = some (.int .i64 x.2.2.1) ∧ (xs.flatMap encD)[k * 4 + 3]? = some (.int .i64 x.2.2.2)
  | [], _, _, h => by simp at h
  | y :: xs, 0, x, h => by simp at h; subst h; simp [encD]
  | y :: xs, k + 1, x, h => by
    obtain ⟨h1, h2, h3, h4⟩ := encD_get (xs := xs) (k := k) (x := x) (by simpa using h)
    have e : ∀ j, ((y :: xs).flatMap encD)[(k + 1) * 4 + j]? = (xs.flatMap encD)[k * 4 + j]? := fun j => by
      rw [List.flatMap_cons, List.getElem?_append_right (by simp [encD]; omega)]
      congr 1
      simp [encD]; omega
    exact ⟨(e 0).trans h1, (e 1).trans h2, (e 2).trans h3, (e 3).trans h4⟩
theorem OwnD.keep {w w' : World} {base : Nat} {v : Value} {xs : List Ed} (h : OwnD w base v xs) (hb : Since w w') : OwnD w' base v xs := ownsRow_stable h fun k hk => hb.below.block k (World.ownsRow.lt h k (by simpa using hk)).2
theorem OwnD.mono {w : World} {base base' : Nat} {v : Value} {xs : List Ed} (h : OwnD w base v xs) (hb : base' ≤ base) : OwnD w base' v xs := ownsRow_mono h hb
/-- a row of edges, for reading -/
def EdgeS (W : World) (v : Value) (xs : List Ed) : Prop := ∃ A c, v = .slice A xs.length c ∧ c ≤ maxLen ∧ xs.length ≤ c ∧ ∀ k x, xs[k]? = some x → ∃ b, A = some ⟨b, 0, none⟩ ∧ W.cell? ⟨b, k * 4, none⟩ = some (.int .i64 x.1) ∧ W.cell? ⟨b, k * 4 + 1, none⟩ = some (.int .i64 x.2.1) ∧ W.cell? ⟨b, k * 4 + 2, none⟩ = some (.int .i64 x.2.2.1) ∧ W.cell? ⟨b, k * 4 + 3, none⟩ = some (.int .i64 x.2.2.2)
theorem OwnD.read {w : World} {base : Nat} {v : Value} {xs : List Ed} (h : OwnD w base v xs) : EdgeS w v xs := by
  have h' := h
  rcases h.2 with ⟨rfl, hn⟩ | ⟨g, cap, cur, rfl, hb, hg, hnc, hcm, hsz, htk⟩
  · have : xs = [] := List.eq_nil_of_length_eq_zero hn
    subst this
    exact ⟨none, 0, rfl, Nat.zero_le _, Nat.le_refl _, fun k x hk => by simp at hk⟩
  · refine ⟨_, cap, rfl, hcm, hnc, fun k x hk => ⟨g, rfl, ?_⟩⟩
    obtain ⟨h1, h2, h3, h4⟩ := encD_get hk
    have hkl := lt_of_get hk
    exact ⟨by rw [World.ownsRow.cellAt (cap := cap) h' _ (by omega)]; exact h1, by rw [World.ownsRow.cellAt (cap := cap) h' _ (by omega)]; exact h2, by rw [World.ownsRow.cellAt (cap := cap) h' _ (by omega)]; exact h3, by rw [World.ownsRow.cellAt (cap := cap) h' _ (by omega)]; exact h4⟩
end Go.Proofs.YtlfehdikgbgloaaGreat
namespace Go.Proofs.YtlfehdikgbgloaaGreat
open Go.RowKit
def rowOf (n : Net) (u : Nat) : List (Int × Int) := n.ends.getD u []
def plainB (n : Net) : Bool := (List.range n.ends.length).all fun v => !hasB (bsee n (v : Int)) (v : Int)
end Go.Proofs.YtlfehdikgbgloaaGreat
namespace Go.Proofs.YtlfehdikgbgloaaGreat
open Go.RowKit
end Go.Proofs.YtlfehdikgbgloaaGreat
namespace Go.Proofs.YtlfehdikgbgloaaGreat
open Go.RowKit
/-! a slice of integers of the call's own that begins anywhere in its row (a queue) -/
def QA (W : World) (base g off cap : Nat) (xs : List Int) : Prop :=
  base ≤ g ∧ xs.length ≤ cap ∧ cap ≤ maxLen ∧ ∃ cur : Array Value, W.heap[g]? = some (.cells cur 3 (0, 0)) ∧ off + cap ≤ cur.size ∧ ∀ j x, xs[j]? = some x → cur[off + j]? = some (.int .i64 x)
theorem QA.cell {W : World} {base g off cap : Nat} {xs : List Int} (h : QA W base g off cap xs) {j : Nat} {x : Int} (hx : xs[j]? = some x) : W.cell? ⟨g, off + j, none⟩ = some (.int .i64 x) := by
  obtain ⟨-, -, -, cur, h1, -, h3⟩ := h
  simp [World.cell?, h1, h3 j x hx]
theorem QA.lt {W : World} {base g off cap : Nat} {xs : List Int} (h : QA W base g off cap xs) : g < W.heap.size := by
  obtain ⟨-, -, -, cur, h1, -⟩ := h
  exact (Array.getElem?_eq_some_iff.1 h1).1
theorem QA.stable {W W' : World} {base g off cap : Nat} {xs : List Int} (h : QA W base g off cap xs) (hs : W'.heap[g]? = W.heap[g]?) : QA W' base g off cap xs := by
  obtain ⟨h1, h2, h3, cur, h4, h5⟩ := h
  exact ⟨h1, h2, h3, cur, hs.trans h4, h5⟩
theorem QA.since {W W' : World} {base g off cap : Nat} {xs : List Int} (h : QA W base g off cap xs) (hs : Since W W') : QA W' base g off cap xs := h.stable (hs.below.block g h.lt)
theorem QA.tail {W : World} {base g off cap : Nat} {x : Int} {xs : List Int} (h : QA W base g off cap (x :: xs)) : QA W base g (off + 1) (cap - 1) xs := by
  obtain ⟨h1, h2, h3, cur, h4, h5, h6⟩ := h
  rw [List.length_cons] at h2
  exact ⟨h1, by omega, by omega, cur, h4, by omega, fun j y hy => by
    have := h6 (j + 1) y (by simpa using hy)
    rwa [show off + (j + 1) = off + 1 + j by omega] at this⟩
theorem QA.nil {W : World} {base g off cap : Nat} {xs : List Int} (h : QA W base g off cap xs) : QA W base g off 0 [] := by
  obtain ⟨h1, h2, h3, cur, h4, h5, h6⟩ := h
  exact ⟨h1, Nat.le_refl _, Nat.zero_le _, cur, h4, by omega, fun j y hy => by simp at hy⟩
theorem QA.one (W : World) (base : Nat) (x : Int) (h : base ≤ W.heap.size) : QA (W.alloc (.cells #[.int .i64 x] 3)) base W.heap.size 0 1 [x] := by
  refine ⟨h, Nat.le_refl _, by simp [maxLen], #[.int .i64 x], ?_, by simp, fun j y hy => ?_⟩
  · show (W.heap.push _)[W.heap.size]? = _
    rw [Array.getElem?_push_size]
  · have := lt_of_get hy
    simp at this
    subst this
    simpa using hy
end Go.Proofs.YtlfehdikgbgloaaGreat
namespace Go.Proofs.YtlfehdikgbgloaaGreat
open Go.RowKit
end Go.Proofs.YtlfehdikgbgloaaGreat
namespace Go.Proofs.YtlfehdikgbgloaaGreat
open Go.RowKit
end Go.Proofs.YtlfehdikgbgloaaGreat
namespace Go.Proofs.YtlfehdikgbgloaaGreat
open Go.RowKit
end Go.Proofs.YtlfehdikgbgloaaGreat
namespace Go.Proofs.YtlfehdikgbgloaaGreat
open Go.RowKit
end Go.Proofs.YtlfehdikgbgloaaGreat
namespace Go.Proofs.YtlfehdikgbgloaaGreat
open Go.RowKit Go.Shelf
attribute [local go_sem] Oper.semAt_some
/-- what a round keeps: the blocks from lo to hi -/
def KeepMid (lo hi : Nat) (W W' : World) : Prop := W.heap.size ≤ W'.heap.size ∧ ∀ k, lo ≤ k → k < hi → W'.heap[k]? = W.heap[k]?
theorem KeepMid.t {lo hi : Nat} {A B C : World} (h : KeepMid lo hi A B) (k : KeepMid lo hi B C) : KeepMid lo hi A C := ⟨Nat.le_trans h.1 k.1, fun i h1 h2 => (k.2 i h1 h2).trans (h.2 i h1 h2)⟩
theorem KeepMid.refl (lo hi : Nat) (W : World) : KeepMid lo hi W W := ⟨Nat.le_refl _, fun _ _ _ => rfl⟩
theorem KeepMid.b {lo hi : Nat} {w : World} (hh : hi ≤ w.heap.size) (W : World) (l : Nat) (o o' : Obj) (hl : w.heap.size ≤ l) (_ : W.heap[l]? = some o) (_ : o.isCells = false) (_ : o.isWalk = false) : KeepMid lo hi W (W.putObj l o') :=
  ⟨(grownBy_putObj' W l o').size, fun k _ hk => by
    rcases Nat.lt_or_ge k W.heap.size with h | h
    · exact (grownBy_putObj' W l o').block k h (fun e => by cases e; omega)
    · exact World.putObj_heap_other (fun e => by omega)⟩
theorem KeepMid.cell {lo hi : Nat} {W W' : World} (h : KeepMid lo hi W W') {a : Addr} {u : Value} (h1 : lo ≤ a.block) (h2 : a.block < hi) (hc : W.cell? a = some u) : W'.cell? a = some u :=
  (World.cell?_of_block (h.2 a.block h1 h2)).trans hc
/-- a range and where it stands -/
abbrev Rng := { x : Nat × Int // 1 ≤ x.2 ∧ x.2 ≤ 100 }
end Go.Proofs.YtlfehdikgbgloaaGreat
namespace Go.Proofs.YtlfehdikgbgloaaGreat
open Go.RowKit Go.Shelf
attribute [local go_sem] Oper.semAt_some
def vals (pre : List Rng) : List Int := pre.map fun x => x.1.2
end Go.Proofs.YtlfehdikgbgloaaGreat
namespace Go.Proofs.YtlfehdikgbgloaaGreat
open Go.RowKit
end Go.Proofs.YtlfehdikgbgloaaGreat
namespace Go.Proofs.YtlfehdikgbgloaaGreat
open Go.RowKit
end Go.Proofs.YtlfehdikgbgloaaGreat
namespace Go.Proofs.YtlfehdikgbgloaaGreat
open Go.RowKit
end Go.Proofs.YtlfehdikgbgloaaGreat
namespace Go.Proofs.YtlfehdikgbgloaaGreat
open Go.RowKit
end Go.Proofs.YtlfehdikgbgloaaGreat
namespace Go.Proofs.YtlfehdikgbgloaaGreat
open Go.RowKit
end Go.Proofs.YtlfehdikgbgloaaGreat
namespace Go.Proofs.YtlfehdikgbgloaaGreat
open Go.RowKit
end Go.Proofs.YtlfehdikgbgloaaGreat
namespace Go.Proofs.YtlfehdikgbgloaaGreat
open Go.RowKit
end Go.Proofs.YtlfehdikgbgloaaGreat
namespace Go.Proofs.YtlfehdikgbgloaaGreat
open Go.RowKit
end Go.Proofs.YtlfehdikgbgloaaGreat
namespace Go.Proofs.YtlfehdikgbgloaaGreat
open Go.RowKit
end Go.Proofs.YtlfehdikgbgloaaGreat
namespace Go.Proofs.YtlfehdikgbgloaaGreat
open Go.RowKit
def connB (n : Net) : Bool := !(distB n 0).contains (-1)
def onesB (xs : List Int) : Nat := xs.countP fun x => x == 1
end Go.Proofs.YtlfehdikgbgloaaGreat
namespace Go.Proofs.YtlfehdikgbgloaaGreat
open Go.RowKit
def rowBad (es : List (Int × Int)) : Bool := ((es.length : Int) != 2) || ((es.getD 0 (0, 0)).2 != 1)
section
variable {α : Type} {p : α → Bool} {xs : List α}
theorem fi_none (h : xs.any p = false) : xs.findIdx? p = none := by
  rw [List.findIdx?_eq_none_iff]
  intro x hx
  rw [List.any_eq_false] at h
  simpa using h x hx
theorem fi_found {k : Nat} {x : α} (hx : xs[k]? = some x) (hp : p x = true) (h : (xs.take k).any p = false) : xs.findIdx? p = some k := by
  obtain ⟨hk, rfl⟩ := List.getElem?_eq_some_iff.1 hx
  rw [List.findIdx?_eq_some_iff_getElem]
  refine ⟨hk, hp, fun j hj => ?_⟩
  rw [List.any_eq_false] at h
  have := h xs[j] (List.mem_take_iff_getElem.2 ⟨j, by omega, rfl⟩)
  simpa using this
theorem any_snoc' {k : Nat} {x : α} (hx : xs[k]? = some x) (h : (xs.take k).any p = false) (hp : p x = false) : (xs.take (k + 1)).any p = false := by
  rw [take_snoc hx, List.any_append, h]
  simp [hp]
end
end Go.Proofs.YtlfehdikgbgloaaGreat
namespace Go.Proofs.YtlfehdikgbgloaaGreat
open Go.RowKit
def ringB (n : Net) : Bool := !n.ends.any rowBad && decide (1 < (n.ends.length : Int)) && ((onesB n.inputs : Int) == 1) && connB n
end Go.Proofs.YtlfehdikgbgloaaGreat
namespace Go.Proofs.YtlfehdikgbgloaaGreat
open Go.RowKit
def runsB (n : Net) (r : Int) : Bool := plainB n && ((r != 5) || ringB n)
end Go.Proofs.YtlfehdikgbgloaaGreat
namespace Go.Proofs.YtlfehdikgbgloaaGreat
open Go.RowKit
def degsB (n : Net) : List Int := n.ends.map fun es => (es.length : Int)
theorem degsB_len (n : Net) : (degsB n).length = n.ends.length := by simp [degsB]
theorem degsB_at {n : Net} {k : Nat} {es : List (Int × Int)} (h : n.ends[k]? = some es) : (degsB n)[k]? = some (es.length : Int) := by simp [degsB, h]
set_option maxHeartbeats 4000000 in
theorem neDegrees_any (ve vi vn : Value) (n : Net) (w : World) (h : NetIn w ve vi vn n) (hn : netOk n = true) :
    Calls Tryz.prog 173 #[.agg #[ve, vi, vn]] w fun e w' => ∃ u, e = .returned u ∧ Own w' w.heap.size u (degsB n) ∧ Below w.heap.size w w' := by
  have hn40 := (netOk_len hn).2
  obtain ⟨w0, hw0⟩ : ∃ w0, w0 = (w).alloc (.cells #[ve, vi, vn] 31) := ⟨_, rfl⟩
  have hb0 : Below w.heap.size w w0 := by rw [hw0]; exact ((Below.refl _ _).alloc (by simp) _)
  have H := Lib.hid (h.keep hb0)
  obtain ⟨h1, h2, h3⟩ := h.keep hb0
  obtain ⟨A, c, rfl, hlc, hm, hA⟩ := h1
  obtain ⟨A2, c2, rfl, _, hm2, _⟩ := h2
  obtain ⟨A3, c3, rfl, _, hm3, _⟩ := h3
  unfold maxLen at hm hm2 hm3
  have p00 : ∀ W, Since w0 W → W.cell? ⟨w.heap.size, 0, none⟩ = some (.slice A n.ends.length c) := have_cell (by rw [hw0]; simp)
  have p01 : ∀ W, Since w0 W → W.cell? ⟨w.heap.size, 1, none⟩ = some (.slice A2 n.ids.length c2) := have_cell (by rw [hw0]; simp)
  have p02 : ∀ W, Since w0 W → W.cell? ⟨w.heap.size, 2, none⟩ = some (.slice A3 n.inputs.length c3) := have_cell (by rw [hw0]; simp)
  have Hb0 := Lib.hid hb0
  have Hw0 := Lib.hid hw0
  have HA := Lib.hid hA
  clear hA h
  clear hb0 hw0
  have hs0 : Since w0 w0 := since_refl _
  clear hn
  go_enter Tryz.func173, Tryz.ntmps173
  go_upto_region 1 with (fail)
  rw [← Hw0.out]
  go_wp2
  go_loopw [3, 9] (fun u i wr => ∃ k : Nat, k ≤ n.ends.length ∧ i = .int .i64 k ∧ Own wr w0.heap.size u ((degsB n).take k) ∧ Since w0 wr) (fun _ i _ => n.ends.length - (intOf i).toNat)
  case atStart => exact ⟨0, Nat.zero_le _, rfl, by simpa using own_nil _ w0.heap.size, hs0⟩
  case round =>
    obtain ⟨k, hk, rfl, ho, hs⟩ := hrel
    have Ho := Lib.hid ho
    have Hs := Lib.hid hs
    clear hs0 ho hs
    by_cases hlt : k < n.ends.length
    · obtain ⟨es, hes⟩ := getx n.ends k hlt
      obtain ⟨b, offr, cr, ur, hA1, hkr, hc1, hrow⟩ := row_at H.out.es hes
      cases hA1
      obtain ⟨A1, z1, rfl, hz1, hz2, hA1⟩ := hrow
      unfold maxLen at hz2
      have q5 := have_cell hc1 wr Hs.out
      have hd := degsB_at hes
      have Hlen : Hid (((degsB n).take k).length + 1 ≤ 17592186044416) := by show _ ≤ _; rw [List.length_take]; omega
      have Hnx : Hid ((degsB n).take (k + 1) = (degsB n).take k ++ [(es.length : Int)]) := take_snoc hd
      have m3 : IntKind.i64.wrap ((k : Int) + 1) = (k : Int) + 1 := wr64 _ (by omega) (by omega)
      clear hes hc1 hA1 hd
      go_wp2_with (at_builtin; refine app_int_s rfl _ _ rfl rfl (Ho.out.since (since_alloc _ (since_refl _))) wr.heap.size (es.length : Int) rfl (by simp [go_sem]) Hlen.out (since_alloc _ Hs.out) ?_; intro g cc w2 ho2 hs3)
      have Ho2 := Lib.hid ho2
      have Hs2 := Lib.hid hs3
      clear ho2 hs3
      go_wp2
      go_roundw
      case rel => exact ⟨k + 1, by omega, by go_num, by rw [Hnx.out]; have := Ho2.out; first | exact this | (rw [List.length_take] at this; exact this) | (simpa using this), Hs2.out⟩
      case measure => simp [intOf]; omega
    · obtain rfl : k = n.ends.length := by omega
      go_wp2
      go_ret
      exact ⟨_, rfl, by have := Ho.out; rw [List.take_of_length_le (by rw [degsB_len]; exact Nat.le_refl _)] at this; exact this.mono Hb0.out.size, Since.after Hb0.out Hs.out⟩
def mx (a b : Int) : Int := if b < a then a else b
def mostB (xs : List Int) : Int := xs.foldl mx 0
end Go.Proofs.YtlfehdikgbgloaaGreat
namespace Go.Proofs.YtlfehdikgbgloaaGreat
open Go.RowKit
theorem mostB_snoc {xs : List Int} {k : Nat} {x : Int} (hx : xs[k]? = some x) : mostB (xs.take (k + 1)) = mx (mostB (xs.take k)) x := by rw [take_snoc hx, mostB, List.foldl_append]; rfl
theorem mostB_bd {c : Int} : ∀ (xs : List Int) (a : Int), 0 ≤ a → a ≤ c → (∀ x ∈ xs, 0 ≤ x ∧ x ≤ c) → 0 ≤ xs.foldl mx a ∧ xs.foldl mx a ≤ c
  | [], a, h0, h1, _ => ⟨h0, h1⟩
  | x :: xs, a, h0, h1, h => by
    have hx := h x (by simp)
    have hm : 0 ≤ mx a x ∧ mx a x ≤ c := by unfold mx; split <;> omega
    exact mostB_bd xs (mx a x) hm.1 hm.2 (fun y hy => h y (List.mem_cons_of_mem _ hy))
theorem mx_max (q x : Int) : mx q x = max q x := by unfold mx; rw [Int.max_def]; split <;> split <;> omega
set_option maxHeartbeats 2000000 in
theorem maxI_any (v : Value) (xs : List Int) (w : World) (h : IntS w v xs) (h1 : 1 ≤ xs.length) (hb : ∀ x ∈ xs, 0 ≤ x) :
    Calls Tryz.prog 108 #[v] w fun e w' => e = .returned (.int .i64 (mostB xs)) ∧ w = w' := by
  obtain ⟨A, c, rfl, hlc, hm, hA⟩ := h
  unfold maxLen at hm
  have HA := Lib.hid hA
  obtain ⟨x0, hx0⟩ := getx xs 0 (by omega)
  obtain ⟨b, off, rfl, hc0⟩ := hA 0 x0 hx0
  rw [Nat.add_zero] at hc0
  have h0 := hb x0 (List.mem_of_getElem? hx0)
  have Hst : Hid (mostB (xs.take 1) = x0) := by
    show _ = _
    rw [mostB_snoc hx0]
    show mx 0 x0 = x0
    unfold mx
    rw [if_neg (by omega)]
  have hlt1 : ¬ ((xs.length : Int) < 1) := by omega
  have hpos : 0 < xs.length := by omega
  clear hA hx0 hb
  go_enter Tryz.func108, Tryz.ntmps108
  go_wp2
  go_loopw [3, 4] (fun q i wr => ∃ k : Nat, 1 ≤ k ∧ k ≤ xs.length ∧ i = .int .i64 k ∧ q = .int .i64 (mostB (xs.take k)) ∧ wr = w) (fun _ i _ => xs.length - (intOf i).toNat)
  case atStart => exact ⟨1, Nat.le_refl _, h1, rfl, by rw [Hst.out], rfl⟩
  case round =>
    obtain ⟨k, hk1, hk, rfl, rfl, hww⟩ := hrel
    obtain rfl := hww.symm
    clear hww
    by_cases hlt : k < xs.length
    · obtain ⟨x, hx⟩ := getx xs k hlt
      obtain ⟨b', off', hbe, hcell⟩ := HA.out k x hx
      cases hbe
      obtain ⟨q, hq⟩ : ∃ q, q = mostB (xs.take k) := ⟨_, rfl⟩
      have Hn : Hid (mostB (xs.take (k + 1)) = mx q x) := by show _ = _; rw [mostB_snoc hx, hq]
      have m3 : IntKind.i64.wrap ((k : Int) + 1) = (k : Int) + 1 := wr64 _ (by omega) (by omega)
      rw [← hq]
      clear hx hq hc0
      have Hm : Hid (mx q x = max q x) := mx_max q x
      go_wp2
      go_roundw
      case rel => exact ⟨k + 1, by omega, by omega, by go_num, by rw [Hn.out, Hm.out], by first | rfl | trivial⟩
      case measure => simp [intOf]; omega
    · obtain rfl : k = xs.length := by omega
      have Hr : Hid (mostB (xs.take xs.length) = mostB xs) := by show _ = _; rw [List.take_length]
      go_wp2
      go_ret
      exact ⟨congrArg (fun q => Ending.returned (.int .i64 q)) Hr.out, rfl⟩
def countB (n : Net) (r : Int) (v : Nat) : Int := if r = 2 then mostB (degsB n) + 1 else if r = 3 then 2 else if r = 4 then ((n.ends.getD v []).length : Int) + 1 else (n.ends.length : Int) + 1
end Go.Proofs.YtlfehdikgbgloaaGreat
namespace Go.Proofs.YtlfehdikgbgloaaGreat
open Go.RowKit
end Go.Proofs.YtlfehdikgbgloaaGreat
namespace Go.Proofs.YtlfehdikgbgloaaGreat
open Go.RowKit
/-! the plain tests of machines and states of asynchronous runs -/
def macLens2 (m : Mac) : Bool := ((m.start.length : Int) == m.degree + 1) && ((m.send.length : Int) == m.states) && ((m.output.length : Int) == m.states) && decide ((m.clauses.length : Int) ≤ 60)
def stB (m : Mac) (l : List Int) : Bool := ((l.length : Int) == ((m.start.getD 0 []).length : Int)) && inB 1 10 (l.length : Int) && allB l 0 (m.states - 1)
def macOk2 (m : Mac) : Bool := macNums m && macLens2 m && m.start.all (stB m) && m.send.all (fun l => maRowB l m.degree m.messages) && m.clauses.all (clB m) && allB m.output (-1) 9
theorem inB_true {lo hi x : Int} : inB lo hi x = true ↔ lo ≤ x ∧ x ≤ hi := by simp [inB]
theorem macOk2_eq (m : Mac) : macOk2 m = macOk m := by
  rw [Bool.eq_iff_iff]
  unfold macOk2 macOk macLens macLens2 stB maRowB
  simp only [Bool.and_eq_true, List.all_eq_true, beq_iff_eq, decide_eq_true_eq]
  constructor
  · rintro ⟨⟨⟨⟨⟨hn, ⟨⟨h1, h2⟩, h3⟩, h4⟩, h5⟩, h6⟩, h7⟩, h8⟩
    have hd : 0 ≤ m.degree := by
      unfold macNums at hn
      simp only [Bool.and_eq_true, inB_true] at hn
      exact hn.1.1.1
    have hl : 0 < m.start.length := by omega
    have h0 : m.start.getD 0 [] ∈ m.start := by
      rw [List.getD_eq_getElem?_getD, List.getElem?_eq_getElem hl]
      exact List.getElem_mem hl
    exact ⟨⟨⟨⟨hn, ⟨⟨⟨⟨⟨h1, (h5 _ h0).1.2⟩, h2⟩, h4⟩, h3⟩, h8⟩⟩, fun l hl => ⟨(h5 l hl).1.1, (h5 l hl).2⟩⟩, h6⟩, h7⟩
  · rintro ⟨⟨⟨⟨hn, ⟨⟨⟨⟨⟨h1, h0⟩, h2⟩, h4⟩, h3⟩, h8⟩⟩, h5⟩, h6⟩, h7⟩
    exact ⟨⟨⟨⟨⟨hn, ⟨⟨h1, h2⟩, h3⟩, h4⟩, fun l hl => ⟨⟨(h5 l hl).1, by rw [(h5 l hl).1]; exact h0⟩, (h5 l hl).2⟩⟩, h6⟩, h7⟩, h8⟩
/-- the machine runs on the network -/
def maOnB (m : Mac) (n : Net) : Bool := allB (degsB n) 0 m.degree && allB n.inputs 0 (((m.start.getD 0 []).length : Int) - 1)
def askedB (m : Mac) (n : Net) : Bool := macOk m && netOk n && maOnB m n
def runB (m : Mac) (n : Net) (v : Nat) : Bool := decide (((n.ends.getD v []).length : Int) ≤ m.degree) && decide (n.inputs.getD v 0 < ((m.start.getD 0 []).length : Int))
def runsOnB (m : Mac) (n : Net) : Bool := (List.range n.ends.length).all (runB m n)
theorem netOk_inp {n : Net} (hn : netOk n = true) : n.inputs.length = n.ends.length ∧ ∀ x ∈ n.inputs, 0 ≤ x := by
  unfold netOk inputsB at hn
  simp only [Bool.and_eq_true, beq_iff_eq, List.all_eq_true] at hn
  obtain ⟨⟨_, h1, h2⟩, _⟩ := hn
  exact ⟨by omega, fun x hx => (inB_true.1 (h2 x hx)).1⟩
theorem all_range {α : Type} (xs : List α) (d : α) (p : α → Bool) (q : Nat → Bool) (h : ∀ v, v < xs.length → q v = p (xs.getD v d)) : (List.range xs.length).all q = xs.all p := by
  rw [Bool.eq_iff_iff, List.all_eq_true, List.all_eq_true]
  constructor
  · intro H x hx
    obtain ⟨k, hk, rfl⟩ := List.getElem_of_mem hx
    have := H k (List.mem_range.2 hk)
    rw [h k hk, List.getD_eq_getElem?_getD, List.getElem?_eq_getElem hk] at this
    exact this
  · intro H v hv
    have hv := List.mem_range.1 hv
    rw [h v hv]
    apply H
    rw [List.getD_eq_getElem?_getD, List.getElem?_eq_getElem hv]
    exact List.getElem_mem hv
theorem all_and {α : Type} (xs : List α) (p q : α → Bool) : (xs.all fun x => p x && q x) = (xs.all p && xs.all q) := by
  induction xs with
  | nil => rfl
  | cons a r ih => simp only [List.all_cons, ih]; cases p a <;> cases q a <;> cases r.all p <;> simp
theorem runsOn_eq {m : Mac} {n : Net} (hn : netOk n = true) : runsOnB m n = maOnB m n := by
  obtain ⟨hl, hi⟩ := netOk_inp hn
  unfold runsOnB runB maOnB allB
  rw [all_and]
  congr 1
  · rw [all_range n.ends [] (fun es => decide ((es.length : Int) ≤ m.degree)) _ (fun v hv => rfl)]
    unfold degsB
    rw [List.all_map]
    first | rfl | (congr 1; funext es; simp [inB])
  · rw [← hl, all_range n.inputs 0 (fun x => decide (x < ((m.start.getD 0 []).length : Int))) _ (fun v hv => rfl)]
    rw [Bool.eq_iff_iff, List.all_eq_true, List.all_eq_true]
    constructor
    · intro H x hx
      have := H x hx
      simp only [decide_eq_true_eq] at this
      exact inB_true.2 ⟨hi x hx, by omega⟩
    · intro H x hx
      have := inB_true.1 (H x hx)
      simp only [decide_eq_true_eq]
      omega
/-- a letter that may not be on its way -/
def nletB (m : Mac) (l : Int × Int) : Bool := !inB 0 40 l.1 || !inB 0 (m.messages - 1) l.2
def letsB (m : Mac) (ls : List (Int × Int)) : Bool := decide ((ls.length : Int) ≤ 12) && !(ls.any (nletB m))
def slotB (m : Mac) (ports : Int) (slots : List Int) (flight : List (List (Int × Int))) : Bool := ((slots.length : Int) == ports) && ((flight.length : Int) == ports) && allB slots (-1) (m.messages - 1) && flight.all (letsB m)
def slotAt (m : Mac) (n : Net) (x : ASt) (v : Nat) : Bool := slotB m ((n.ends.getD v []).length : Int) (x.slots.getD v []) (x.flight.getD v [])
def syShapeB (m : Mac) (n : Net) (x : ASt) : Bool := ((x.slots.length : Int) == (n.ends.length : Int)) && ((x.flight.length : Int) == (n.ends.length : Int)) && (List.range n.ends.length).all (slotAt m n x)
def asyncOkB (m : Mac) (n : Net) (x : ASt) : Bool := ((x.rounds.length : Int) == (n.ends.length : Int)) && allB x.rounds 0 40 && maRowB x.before n.ends.length m.states && maRowB x.now n.ends.length m.states && syShapeB m n x
def syGoodB (m : Mac) (n : Net) (x : ASt) : Bool := askedB m n && asyncOkB m n x
theorem slot_false {m : Mac} {ports : Int} {slots : List Int} {flight : List (List (Int × Int))} (h : (((slots.length : Int) != ports) || ((flight.length : Int) != ports) || !allB slots (-1) (m.messages - 1)) = true) : slotB m ports slots flight = false := by
  unfold slotB
  cases h1 : allB slots (-1) (m.messages - 1)
  · simp
  · simp only [h1, Bool.not_true, Bool.or_false, Bool.or_eq_true, bne_iff_ne] at h
    rcases h with h | h
    · rw [beq_eq_false_iff_ne.2 h]; simp
    · rw [beq_eq_false_iff_ne.2 h]; simp
theorem slot_lets {m : Mac} {ports : Int} {slots : List Int} {flight : List (List (Int × Int))} (h : (((slots.length : Int) != ports) || ((flight.length : Int) != ports) || !allB slots (-1) (m.messages - 1)) = false) : slotB m ports slots flight = flight.all (letsB m) := by
  simp only [Bool.or_eq_false_iff, Bool.not_eq_false', bne_eq_false_iff_eq] at h
  unfold slotB
  rw [h.2, h.1.1, h.1.2]
  simp
theorem shape_false {m : Mac} {n : Net} {x : ASt} (h : (((x.slots.length : Int) != (n.ends.length : Int)) || ((x.flight.length : Int) != (n.ends.length : Int))) = true) : syShapeB m n x = false := by
  unfold syShapeB
  simp only [Bool.or_eq_true, bne_iff_ne] at h
  rcases h with h | h
  · rw [beq_eq_false_iff_ne.2 h]; simp
  · rw [beq_eq_false_iff_ne.2 h]; simp
theorem shape_all {m : Mac} {n : Net} {x : ASt} (h : (((x.slots.length : Int) != (n.ends.length : Int)) || ((x.flight.length : Int) != (n.ends.length : Int))) = false) : syShapeB m n x = (List.range n.ends.length).all (slotAt m n x) ∧ x.slots.length = n.ends.length ∧ x.flight.length = n.ends.length := by
  simp only [Bool.or_eq_false_iff, bne_eq_false_iff_eq] at h
  refine ⟨?_, by omega, by omega⟩
  unfold syShapeB
  rw [h.1, h.2]
  simp
theorem async_false {m : Mac} {n : Net} {x : ASt} (h : (((x.rounds.length : Int) != (n.ends.length : Int)) || !allB x.rounds 0 40 || !maRowB x.before n.ends.length m.states || !maRowB x.now n.ends.length m.states || ((x.slots.length : Int) != (n.ends.length : Int)) || ((x.flight.length : Int) != (n.ends.length : Int))) = true) : asyncOkB m n x = false := by
  unfold asyncOkB
  cases h1 : ((x.rounds.length : Int) != (n.ends.length : Int)) with
  | true => rw [beq_eq_false_iff_ne.2 (bne_iff_ne.1 h1)]; simp
  | false =>
    cases h2 : allB x.rounds 0 40 <;> cases h3 : maRowB x.before n.ends.length m.states <;> cases h4 : maRowB x.now n.ends.length m.states <;> first | (simp; done) | skip
    rw [h1, h2, h3, h4] at h
    rw [shape_false (by simpa using h)]
    simp
theorem async_all {m : Mac} {n : Net} {x : ASt} (h : (((x.rounds.length : Int) != (n.ends.length : Int)) || !allB x.rounds 0 40 || !maRowB x.before n.ends.length m.states || !maRowB x.now n.ends.length m.states || ((x.slots.length : Int) != (n.ends.length : Int)) || ((x.flight.length : Int) != (n.ends.length : Int))) = false) : asyncOkB m n x = (List.range n.ends.length).all (slotAt m n x) ∧ x.slots.length = n.ends.length ∧ x.flight.length = n.ends.length := by
  simp only [Bool.or_eq_false_iff, Bool.not_eq_false', bne_eq_false_iff_eq] at h
  obtain ⟨⟨⟨⟨⟨h1, h2⟩, h3⟩, h4⟩, h5⟩, h6⟩ := h
  obtain ⟨e1, e2, e3⟩ := shape_all (m := m) (n := n) (x := x) (by rw [h5, h6]; simp)
  refine ⟨?_, e2, e3⟩
  unfold asyncOkB
  rw [h1, h2, h3, h4, e1]
  simp
theorem asked_mac {m : Mac} {n : Net} (h : askedB m n = true) : macOk m = true := by
  unfold askedB at h
  simp only [Bool.and_eq_true] at h
  exact h.1.1
theorem asked_net {m : Mac} {n : Net} (h : askedB m n = true) : netOk n = true := by
  unfold askedB at h
  simp only [Bool.and_eq_true] at h
  exact h.1.2
end Go.Proofs.YtlfehdikgbgloaaGreat
namespace Go.Proofs.YtlfehdikgbgloaaGreat
open Go.RowKit
/-! plain runs of machines -/
def degA (n : Net) (v : Nat) : Nat := (n.ends.getD v []).length
def startB (m : Mac) (n : Net) : List Int := (List.range n.ends.length).map fun v => (m.start.getD (degA n v) []).getD (n.inputs.getD v 0).toNat 0
def inboxB (m : Mac) (n : Net) (st : List Int) (v : Nat) : List Int := (n.ends.getD v []).map fun e => (m.send.getD (st.getD e.1.toNat 0).toNat []).getD e.2.toNat 0
def fitB (ib xs : List Int) (i : Nat) : Bool := xs.getD i 0 == -1 || xs.getD i 0 == ib.getD i 0
def fitsB (s : Int) (ib : List Int) (c : Cl) : Bool := c.state == s && (c.inbox.length : Int) == (ib.length : Int) && (List.range c.inbox.length).all (fitB ib c.inbox)
def clauseB (m : Mac) (s : Int) (ib : List Int) : Int := match m.clauses.findIdx? (fitsB s ib) with | some k => (k : Int) | none => -1
def afNext (m : Mac) (n : Net) (st : List Int) (v : Nat) : Int :=
  if 0 ≤ clauseB m (st.getD v 0) (inboxB m n st v) ∧ m.output.getD (st.getD v 0).toNat 0 < 0 then ((m.clauses.getD (clauseB m (st.getD v 0) (inboxB m n st v)).toNat ⟨0, [], 0⟩).next) else st.getD v 0
def stepB (m : Mac) (n : Net) (st : List Int) : List Int := (List.range n.ends.length).map (afNext m n st)
def runA (m : Mac) (n : Net) : Nat → List Int
  | 0 => startB m n
  | k + 1 => stepB m n (runA m n k)
def runL (m : Mac) (n : Net) (k : Nat) : List (List Int) := (List.range k).map (runA m n)
def StOk (m : Mac) (n : Net) (st : List Int) : Prop := st.length = n.ends.length ∧ ∀ x ∈ st, 0 ≤ x ∧ x < m.states
/-- what a machine that runs on a network is like -/
structure Asked (m : Mac) (n : Net) : Prop where
  net : netOk n = true
  deg : 0 ≤ m.degree ∧ m.degree ≤ 6
  sts : 1 ≤ m.states ∧ m.states ≤ 12
  msg : 1 ≤ m.messages ∧ m.messages ≤ 6
  slen : (m.start.length : Int) = m.degree + 1
  srow : ∀ l ∈ m.start, l.length = (m.start.getD 0 []).length ∧ ∀ x ∈ l, 0 ≤ x ∧ x < m.states
  s0 : (m.start.getD 0 []).length ≤ 10
  dlen : (m.send.length : Int) = m.states
  drow : ∀ l ∈ m.send, (l.length : Int) = m.degree ∧ ∀ x ∈ l, 0 ≤ x ∧ x < m.messages
  olen : (m.output.length : Int) = m.states
  clen : m.clauses.length ≤ 60
  crow : ∀ c ∈ m.clauses, 0 ≤ c.next ∧ c.next < m.states ∧ c.inbox.length ≤ 6 ∧ ∀ x ∈ c.inbox, -1 ≤ x
  ndeg : ∀ es ∈ n.ends, (es.length : Int) ≤ m.degree
  ilen : n.inputs.length = n.ends.length
  inp : ∀ x ∈ n.inputs, 0 ≤ x ∧ x < ((m.start.getD 0 []).length : Int)
theorem asked_of {m : Mac} {n : Net} (h : askedB m n = true) : Asked m n := by
  have hn := asked_net h
  unfold askedB at h
  simp only [Bool.and_eq_true] at h
  obtain ⟨⟨h1, _⟩, h3⟩ := h
  unfold macOk macNums macLens at h1
  unfold maOnB at h3
  simp only [Bool.and_eq_true, beq_iff_eq, decide_eq_true_eq, List.all_eq_true, inB_true] at h1 h3
  obtain ⟨⟨⟨⟨⟨⟨a1, a2⟩, a3⟩, ⟨⟨⟨⟨⟨b1, b2⟩, b3⟩, b4⟩, b5⟩, b6⟩⟩, c1⟩, c2⟩, c3⟩ := h1
  obtain ⟨d1, d2⟩ := h3
  have allM : ∀ {xs : List Int} {lo hi : Int}, allB xs lo hi = true → ∀ x ∈ xs, lo ≤ x ∧ x ≤ hi := fun h x hx => by
    unfold allB at h
    rw [List.all_eq_true] at h
    exact inB_true.1 (h x hx)
  have rowM : ∀ {xs : List Int} {many most : Int}, maRowB xs many most = true → (xs.length : Int) = many ∧ ∀ x ∈ xs, 0 ≤ x ∧ x < most := fun h => by
    unfold maRowB at h
    simp only [Bool.and_eq_true, beq_iff_eq] at h
    exact ⟨h.1, fun x hx => by have := allM h.2 x hx; omega⟩
  refine ⟨hn, a1, a2, a3, b1, fun l hl => ?_, by omega, b3, fun l hl => rowM (c2 l hl), b5, by omega, fun c hc => ?_, fun es hes => ?_, (netOk_inp hn).1, fun x hx => ?_⟩
  · have := rowM (c1 l hl)
    exact ⟨by omega, this.2⟩
  · have := c3 c hc
    unfold clB at this
    simp only [Bool.and_eq_true, decide_eq_true_eq, inB_true] at this
    obtain ⟨⟨⟨_, e2⟩, e3⟩, e4⟩ := this
    exact ⟨e2.1, by omega, by omega, fun x hx => (allM e4 x hx).1⟩
  · have := allM d1 (es.length : Int) (by unfold degsB; exact List.mem_map_of_mem hes)
    exact this.2
  · have := allM d2 x hx
    omega
theorem getD_mem {α : Type} {xs : List α} {k : Nat} (d : α) (h : k < xs.length) : xs.getD k d ∈ xs := by
  rw [List.getD_eq_getElem?_getD, List.getElem?_eq_getElem h]
  exact List.getElem_mem h
theorem start_cell {m : Mac} {n : Net} (h : Asked m n) {v : Nat} {es : List (Int × Int)} (hes : n.ends[v]? = some es) : ∃ l i, m.start[es.length]? = some l ∧ n.inputs[v]? = some i ∧ 0 ≤ i ∧ i.toNat < l.length ∧ (startB m n)[v]? = some (l.getD i.toNat 0) ∧ 0 ≤ l.getD i.toNat 0 ∧ l.getD i.toNat 0 < m.states := by
  have hv := lt_of_get hes
  have hd := h.ndeg es (List.mem_of_getElem? hes)
  have hs := h.slen
  obtain ⟨l, hl⟩ := getx m.start es.length (by omega)
  obtain ⟨i, hi⟩ := getx n.inputs v (by rw [h.ilen]; exact hv)
  obtain ⟨i1, i2⟩ := h.inp i (List.mem_of_getElem? hi)
  obtain ⟨r1, r2⟩ := h.srow l (List.mem_of_getElem? hl)
  have hlt : i.toNat < l.length := by omega
  refine ⟨l, i, hl, hi, i1, hlt, ?_, (r2 _ (getD_mem 0 hlt)).1, (r2 _ (getD_mem 0 hlt)).2⟩
  unfold startB degA
  simp [List.getElem?_map, List.getElem?_range hv, hes, hl, hi]
theorem startB_len (m : Mac) (n : Net) : (startB m n).length = n.ends.length := by simp [startB]
theorem start_ok {m : Mac} {n : Net} (h : Asked m n) : StOk m n (startB m n) := by
  refine ⟨startB_len m n, fun x hx => ?_⟩
  obtain ⟨v, hv⟩ := List.getElem?_of_mem hx
  have hl := lt_of_get hv
  rw [startB_len] at hl
  obtain ⟨es, hes⟩ := getx n.ends v hl
  obtain ⟨l, i, _, _, _, _, h5, h6, h7⟩ := start_cell h hes
  rw [hv] at h5
  cases h5
  exact ⟨h6, h7⟩
theorem start_take {m : Mac} {n : Net} {v : Nat} {y : Int} (h : (startB m n)[v]? = some y) : (startB m n).take (v + 1) = (startB m n).take v ++ [y] := take_snoc h
theorem inbox_cell {m : Mac} {n : Net} {st : List Int} (h : Asked m n) (hs : StOk m n st) {v j : Nat} {es : List (Int × Int)} {e : Int × Int} (hes : n.ends[v]? = some es) (he : es[j]? = some e) :
    ∃ s l, 0 ≤ e.1 ∧ st[e.1.toNat]? = some s ∧ 0 ≤ s ∧ m.send[s.toNat]? = some l ∧ 0 ≤ e.2 ∧ e.2.toNat < l.length ∧ (inboxB m n st v)[j]? = some (l.getD e.2.toNat 0) := by
  have hv := lt_of_get hes
  have hj := lt_of_get he
  have hp : hasPortB n.ends (v : Int) (j : Int) = true := by
    unfold hasPortB
    rw [Bool.and_eq_true, inB_true, inB_true, Int.toNat_natCast, getD_of hes]
    omega
  have hend := (netOk_end h.net hp).1
  have e0 : endAt n.ends (v : Int) (j : Int) = e := by simp [endAt, hes, he]
  rw [e0] at hend
  unfold hasPortB at hend
  rw [Bool.and_eq_true, inB_true, inB_true] at hend
  obtain ⟨⟨p1, p2⟩, p3, p4⟩ := hend
  obtain ⟨s, hsx⟩ := getx st e.1.toNat (by rw [hs.1]; omega)
  obtain ⟨s1, s2⟩ := hs.2 s (List.mem_of_getElem? hsx)
  have hd := h.dlen
  obtain ⟨l, hl⟩ := getx m.send s.toNat (by omega)
  have hr := (h.drow l (List.mem_of_getElem? hl)).1
  obtain ⟨es2, hes2⟩ := getx n.ends e.1.toNat (by omega)
  rw [getD_of hes2] at p4
  have hdeg := h.ndeg es2 (List.mem_of_getElem? hes2)
  refine ⟨s, l, p1, hsx, s1, hl, p3, by omega, ?_⟩
  unfold inboxB
  rw [getD_of hes, List.getElem?_map, he]
  simp [hsx, hl]
theorem inbox_len (m : Mac) (n : Net) (st : List Int) (v : Nat) : (inboxB m n st v).length = degA n v := by simp [inboxB, degA]
theorem clause_some {m : Mac} {s : Int} {ib : List Int} {k : Nat} (h : clauseB m s ib = (k : Int)) : ∃ c, m.clauses[k]? = some c := by
  unfold clauseB at h
  cases hf : m.clauses.findIdx? (fitsB s ib) with
  | none => rw [hf] at h; simp only at h; omega
  | some q =>
    rw [hf] at h
    simp only at h
    obtain rfl : q = k := by omega
    have := (List.findIdx?_eq_some_iff_findIdx_eq.1 hf).1
    exact ⟨_, List.getElem?_eq_getElem this⟩
theorem step_len (m : Mac) (n : Net) (st : List Int) : (stepB m n st).length = n.ends.length := by simp [stepB]
theorem step_get {m : Mac} {n : Net} {st : List Int} {v : Nat} (h : v < n.ends.length) : (stepB m n st)[v]? = some (afNext m n st v) := by simp [stepB, h]
theorem next_ok {m : Mac} {n : Net} {st : List Int} (h : Asked m n) (hs : StOk m n st) {v : Nat} (hv : v < n.ends.length) : 0 ≤ afNext m n st v ∧ afNext m n st v < m.states := by
  unfold afNext
  split
  · rename_i hc
    obtain ⟨c, hcc⟩ := clause_some (k := (clauseB m (st.getD v 0) (inboxB m n st v)).toNat) (by rw [Int.toNat_of_nonneg hc.1])
    rw [getD_of hcc]
    have := h.crow c (List.mem_of_getElem? hcc)
    exact ⟨this.1, this.2.1⟩
  · exact hs.2 _ (getD_mem 0 (by rw [hs.1]; exact hv))
theorem step_ok {m : Mac} {n : Net} {st : List Int} (h : Asked m n) (hs : StOk m n st) : StOk m n (stepB m n st) := by
  refine ⟨step_len m n st, fun x hx => ?_⟩
  obtain ⟨v, hv⟩ := List.getElem?_of_mem hx
  have hl := lt_of_get hv
  rw [step_len] at hl
  rw [step_get hl] at hv
  cases hv
  exact next_ok h hs hl
theorem run_ok {m : Mac} {n : Net} (h : Asked m n) : ∀ k, StOk m n (runA m n k)
  | 0 => start_ok h
  | k + 1 => step_ok h (run_ok h k)
theorem runL_len (m : Mac) (n : Net) (k : Nat) : (runL m n k).length = k := by simp [runL]
theorem runL_get {m : Mac} {n : Net} {k j : Nat} (h : j < k) : (runL m n k)[j]? = some (runA m n j) := by simp [runL, h]
theorem runL_snoc (m : Mac) (n : Net) (k : Nat) : runL m n (k + 1) = runL m n k ++ [runA m n k] := by simp [runL, List.range_succ]
end Go.Proofs.YtlfehdikgbgloaaGreat
namespace Go.Proofs.YtlfehdikgbgloaaGreat
open Go Go.RowKit
/-! an operation of a chain that makes a block -/
theorem tflow_alloc {P : Program} {ops : Array Oper} {w0 : World} {fin : Act → World → Prop} {o : Oper} {rest : List Oper} {A : Act} {W : World} {ob : Obj} {v : Value} (hw : Region.wanted o (yielded ops A.tmps) = true) (h : (execOp A.eval o).run P W = .ok (.value v) (W.alloc ob)) (hS : Since w0 W)
    (hr : ∀ W', W' = W.alloc ob → Since w0 W' → TFlow P ops (Since w0) fin rest (A.put o.dst v) W') : TFlow P ops (Since w0) fin (o :: rest) A W :=
  tflow_new hw h (since_alloc _ hS) (hr _ rfl (since_alloc _ hS))
end Go.Proofs.YtlfehdikgbgloaaGreat
namespace Go.Proofs.YtlfehdikgbgloaaGreat
open Go.RowKit
end Go.Proofs.YtlfehdikgbgloaaGreat
namespace Go.Proofs.YtlfehdikgbgloaaGreat
/-! all lists of labels, in order: the digits of a number, and counting up -/
end Go.Proofs.YtlfehdikgbgloaaGreat
namespace Go.Proofs.YtlfehdikgbgloaaGreat
open Go.RowKit
theorem Only.since {S : List Nat} {w0 W W' : World} (h : Since w0 W) (ho : Only S W W') (hs : ∀ k ∈ S, w0.heap.size ≤ k) : Since w0 W' := Below.trans h (ho.below _ h.below.size hs)
end Go.Proofs.YtlfehdikgbgloaaGreat
