/- Parts of the proof: walks of functions and plain laws. -/
import Derived.Test.YtgmdpppljkmabaaGreatRows
import Derived.WalkKit
import Derived.ProofKit
import Derived.OpenShut
import Derived.Outline
import Derived.Lib.Hide
import Derived.Deep.QuietTactic
import Derived.BigQuiet
import Derived.StillTailTactics
import Derived.Deep.RegionHeld3
import Derived.RegionTactic
import Derived.ChangeAlike
import Derived.LoopTactic
import Derived.Deep.LoopGhost
import Derived.Deep.DeepCutAuto
import Derived.Deep.RegionWith
import Derived.Deep.RegionLaw
import Derived.WalkLawsBesides
import Derived.WalkSpells
import Derived.OwnWalk
import Derived.Handy
import Derived.PlainAid
import Derived.Deep.DeepFit
import Derived.Deep.DeepMust
import Derived.Laws.AppendOwn
import Derived.Laws.MakeOwn
import Derived.Deep.AppendLies
import Derived.Deep.Draws
import Derived.Laws.OwnMore
import Derived.Laws.Rows
import Derived.Maps.AppendAt
import Derived.Deep.Slices
import Derived.Deep.Fields
import Derived.Lib.SmallJoins
import Derived.ChangeSame
import Derived.ShutString
import Derived.ChangeOld
import Derived.Shelf.Abstract
namespace Go.Proofs.YtgmdpppljkmabaaGreat
open Go Go.RowKit
theorem zA : (∀ (a : Act) (d : Nat) (v : Value), a.put (some d) v = { a with tmps := a.tmps.setIfInBounds d v }) ∧ (∀ (a : Act) (v : Value), a.put none v = a) ∧ (∀ (l : List Value) (i : Nat) (a : Value), (List.toArray l).setIfInBounds i a = (l.set i a).toArray) ∧ (∀ (x : Value) (l : List Value) (i : Nat) (a : Value), (x :: l).set (i + 1) a = x :: l.set i a) ∧ ∀ (x : Value) (l : List Value) (a : Value), (x :: l).set 0 a = a :: l :=
  ⟨fun _ _ _ => rfl, fun _ _ => rfl, fun _ _ _ => List.setIfInBounds_toArray .., fun _ _ _ _ => List.set_cons_succ .., fun _ _ _ => List.set_cons_zero ..⟩
theorem zR12 : List.range 12 = [0, 1, 2, 3, 4, 5, 6, 7, 8, 9, 10, 11] := rfl
theorem zR18 : List.range 18 = [0, 1, 2, 3, 4, 5, 6, 7, 8, 9, 10, 11, 12, 13, 14, 15, 16, 17] := rfl
theorem zR19 : List.range 19 = [0, 1, 2, 3, 4, 5, 6, 7, 8, 9, 10, 11, 12, 13, 14, 15, 16, 17, 18] := rfl
theorem zR20 : List.range 20 = [0, 1, 2, 3, 4, 5, 6, 7, 8, 9, 10, 11, 12, 13, 14, 15, 16, 17, 18, 19] := rfl
end Go.Proofs.YtgmdpppljkmabaaGreat

namespace Go.Proofs.YtgmdpppljkmabaaGreat
theorem getx {α : Type} (xs : List α) (k : Nat) (h : k < xs.length) : ∃ x, xs[k]? = some x := ⟨_, List.getElem?_eq_getElem h⟩
theorem take_snoc {α : Type} {xs : List α} {k : Nat} {x : α} (h : xs[k]? = some x) : xs.take (k + 1) = xs.take k ++ [x] := by
 obtain ⟨hk, rfl⟩ := List.getElem?_eq_some_iff.1 h
 exact List.take_succ_eq_append_getElem hk
theorem all_stop {α : Type} {xs : List α} {k : Nat} {x : α} {p : α → Bool} (h : xs[k]? = some x) (hp : p x = false) : xs.all p = false := by
 rw [List.all_eq_false]
 exact ⟨x, List.mem_of_getElem? h, by simp [hp]⟩
theorem take_all {α : Type} (xs : List α) {k : Nat} (h : ¬ k < xs.length) : xs.take k = xs := List.take_of_length_le (by omega)
theorem lt_of_get {α : Type} {xs : List α} {k : Nat} {x : α} (h : xs[k]? = some x) : k < xs.length := (List.getElem?_eq_some_iff.1 h).1
theorem set_fill {α : Type} (z : α) (xs : List α) (k : Nat) (x : α) (h : xs[k]? = some x) : (xs.take k ++ List.replicate (xs.length - k) z).set k x = xs.take (k + 1) ++ List.replicate (xs.length - (k + 1)) z := by
 have hk := lt_of_get h
 have hl : (xs.take k).length = k := by simp; omega
 rw [take_snoc h, show xs.length - k = (xs.length - (k + 1)) + 1 by omega, List.replicate_succ, List.set_append_right _ _ (by omega), hl]
 simp
end Go.Proofs.YtgmdpppljkmabaaGreat
namespace Go.Proofs.YtgmdpppljkmabaaGreat
open Go.RowKit

theorem bc {w w' : World} (hb : Below w.heap.size w w') {a : Addr} {u : Value} (h : w.cell? a = some u) : w'.cell? a = some u := (hb.cell (World.block_lt_of_cell? w _ h)).trans h
def IntS (w : World) (v : Value) (xs : List Int) : Prop :=
 ∃ (A : Option Addr) (c : Nat), v = .slice A xs.length c ∧ xs.length ≤ c ∧ c ≤ maxLen ∧
  (∀ k x, xs[k]? = some x → ∃ b off, A = some ⟨b, off, none⟩ ∧ w.cell? ⟨b, off + k, none⟩ = some (.int .i64 x))

theorem IntS.keep {w w' : World} {v : Value} {xs : List Int} (h : IntS w v xs) (hb : Below w.heap.size w w') : IntS w' v xs := by
 obtain ⟨A, c, hv, hc, hm, hA⟩ := h
 refine ⟨A, c, hv, hc, hm, fun k x hk => ?_⟩
 obtain ⟨b, off, hA', hcell⟩ := hA k x hk
 exact ⟨b, off, hA', by rw [← hcell]; exact hb.cell (p := ⟨b, off + k, none⟩) (World.block_lt_of_cell? w _ hcell)⟩

theorem IntS.nil (w : World) : IntS w (.slice none 0 0) [] := ⟨none, 0, rfl, Nat.le_refl _, Nat.zero_le _, fun k x hk => by simp at hk⟩

theorem IntS.own {w : World} {base : Nat} {e : TypeId} {v : Value} {n : Nat} {xs : List Int} (h : w.ownsRow base e 1 v n (xs.map (Value.int .i64))) : IntS w v xs := by
 have hn : xs.length = n := by simpa using h.1
 subst hn
 rcases h.2 with ⟨rfl, h0⟩ | ⟨g, cap, cur, rfl, hb, hg, hnc, hm, hcs, htake⟩
 ·have : xs = [] := List.eq_nil_of_length_eq_zero h0
  subst this
  exact IntS.nil w
 ·refine ⟨_, cap, rfl, hnc, hm, fun k x hk => ⟨g, 0, rfl, ?_⟩⟩
  have hlt : k < xs.length := (List.getElem?_eq_some_iff.1 hk).1
  rw [Nat.zero_add, h.cellAt (cap := cap) k (by omega)]
  simp [hk]
theorem ret_bool {a b : Bool} (h : a = b) : Ending.returned (.bool a) = .returned (.bool b) := by rw [h]
theorem ret_true {b : Bool} (h : b = true) : Ending.returned (.bool true) = .returned (.bool b) := by rw [h]
theorem ret_false {b : Bool} (h : b = false) : Ending.returned (.bool false) = .returned (.bool b) := by rw [h]
theorem dr1 (w : World) (n m : Nat) : ∃ k, (w.drewN n).drewN m = w.drewN k := ⟨n + m, World.drewN_drewN w n m⟩
theorem ret_int {k : IntKind} {a b : Int} (h : a = b) : Ending.returned (.int k a) = .returned (.int k b) := by rw [h]
theorem int_info : (Tryz.prog.info? 3).map (fun i => (i.zero, i.size, i.bytes)) = some (some (.int .i64 0), 1, 8) := by kernel_rfl

def Own (w : World) (base : Nat) (v : Value) (xs : List Int) : Prop := w.ownsRow base 3 1 v xs.length (xs.map (Value.int .i64))
theorem Own.ints {w : World} {base : Nat} {v : Value} {xs : List Int} (h : Own w base v xs) : IntS w v xs := IntS.own h
theorem Own.mono {w : World} {base base' : Nat} {v : Value} {xs : List Int} (h : Own w base v xs) (hb : base' ≤ base) : Own w base' v xs :=
 ⟨h.1, h.2.imp id fun ⟨g, cap, cur, h1, h2, h3⟩ => ⟨g, cap, cur, h1, Nat.le_trans hb h2, h3⟩⟩
theorem Own.keep {w w' : World} {base : Nat} {v : Value} {xs : List Int} (h : Own w base v xs) (hb : Below w.heap.size w w') : Own w' base v xs := by
 refine ⟨h.1, h.2.imp id fun ⟨g, cap, cur, h1, h2, h3, h4⟩ => ⟨g, cap, cur, h1, h2, ?_, h4⟩⟩
 rw [← h3]
 exact hb.block g (Array.getElem?_eq_some_iff.1 h3).1
theorem Own.len {w : World} {base g c n : Nat} {xs : List Int} (h : Own w base (.slice (some ⟨g, 0, none⟩) n c) xs) : xs.length = n := by
 rcases h.2 with ⟨h', _⟩ | ⟨g', cap', cur, h', _⟩
 ·simp at h'
 ·simp only [Value.slice.injEq] at h'
  exact h'.2.1.symm
theorem Own.cell {w : World} {base g c n : Nat} {xs : List Int} {k : Nat} {x : Int} (h : Own w base (.slice (some ⟨g, 0, none⟩) n c) xs) (hk : xs[k]? = some x) : w.cell? ⟨g, k, none⟩ = some (.int .i64 x) := by
 obtain rfl := h.len
 have hlt : k < xs.length := (List.getElem?_eq_some_iff.1 hk).1
 rw [World.ownsRow.cellAt h k (by omega)]; simp [hk]
theorem Own.free {w : World} {base g c n : Nat} {xs : List Int} (k : Nat) (h : Own w base (.slice (some ⟨g, 0, none⟩) n c) xs) : w.frozen? ⟨g, k, none⟩ = false := by
 rcases h.2 with ⟨h', _⟩ | ⟨g', cap', cur, h', _, hg, _⟩
 ·simp at h'
 ·simp only [Value.slice.injEq, Option.some.injEq, Addr.mk.injEq, and_true] at h'
  obtain ⟨rfl, rfl, rfl⟩ := h'
  exact frozen_of_row w g k cur _ hg
theorem Own.set {w : World} {base g c n : Nat} {xs : List Int} {k : Nat} (x : Int) (h : Own w base (.slice (some ⟨g, 0, none⟩) n c) xs) : Own (w.setCell ⟨g, k, none⟩ (.int .i64 x)) base (.slice (some ⟨g, 0, none⟩) n c) (xs.set k x) := by
 obtain rfl := h.len
 have := (World.ownsRow.stored h k (.int .i64 x)).1
 unfold Own
 rw [List.length_set, List.map_set]
 exact this
theorem Own.bd {w : World} {base : Nat} {v : Value} {xs : List Int} (h : Own w base v xs) : xs.length ≤ maxLen := by
 rcases h.2 with ⟨_, h0⟩ | ⟨g, cap, cur, _, _, _, h1, h2, _⟩
 ·omega
 ·omega
theorem Own.blk {w : World} {base g c n : Nat} {xs : List Int} (h : Own w base (.slice (some ⟨g, 0, none⟩) n c) xs) : base ≤ g ∧ g < w.heap.size := by
 rcases h.2 with ⟨h', _⟩ | ⟨g', cap', cur, h', hb, hg, _⟩
 ·simp at h'
 ·simp only [Value.slice.injEq, Option.some.injEq, Addr.mk.injEq, and_true] at h'
  obtain ⟨rfl, rfl, rfl⟩ := h'
  exact ⟨hb, (Array.getElem?_eq_some_iff.1 hg).1⟩
theorem below_grown {w w' : World} (h : w.grownBy w' none) : Below w.heap.size w w' := ⟨h.os, h.tape, h.output, h.size, fun k hk => h.block k hk (by simp)⟩

theorem below_alloc (w : World) (o : Obj) : Below w.heap.size w (w.alloc o) := (Below.refl _ _).alloc (Nat.le_refl _) o
theorem own_nil (w : World) (base : Nat) : Own w base (.slice none 0 0) [] := World.ownsRow_nil w base _ 1
theorem own_lit (w : World) (xs : List Int) (hm : xs.length ≤ maxLen) : Own (w.alloc (.cells (xs.map (Value.int .i64)).toArray 3)) w.heap.size (.slice (some ⟨w.heap.size, 0, none⟩) xs.length xs.length) xs := by
 have := World.ownsRow_lit (base := w.heap.size) (e := 3) (size := 1) w (xs.map (Value.int .i64)).toArray xs.length (Nat.le_refl _) hm (by simp)
 simpa [Own] using this
section
variable {ops : Array Oper} {rest : List Oper} {o : Oper} {a : Act} {Q : Exit → Act → World → Prop}
theorem mk_ints (w : World) (hg : o.guard = none) (l c : Operand) (hop : o.op = Op.makeSlice 25 l c) (L C : Int) (n : Nat) (hl : a.eval l = .int .i64 L) (hc : a.eval c = .int .i64 C) (hL : L = (n : Int)) (hC : C = (n : Int)) (hn : n ≤ 17592186044416)
  (hK : ∀ w', Own w' w.heap.size (.slice (some ⟨w.heap.size, 0, none⟩) n n) (List.replicate n 0) → Below w.heap.size w w' → w.heap.size < w'.heap.size → wpList Tryz.prog ops Q rest (a.put o.dst (.slice (some ⟨w.heap.size, 0, none⟩) n n)) w') : wpList Tryz.prog ops Q (o :: rest) a w := by
 obtain ⟨i0, hi, hz0, hz1, hz2⟩ := info_parts int_info
 refine wpList_make_full w hg l c 25 hop w.heap.size 3 i0 (.int .i64 0) 1 Tryz.underlying25 hi hz0 hz1 .i64 .i64 L C n hl hc hL hC (by rw [hz2]; omega) (by unfold maxLen; omega) (Nat.le_refl _) ?_
 intro w' ho hgr
 have ho' : Own w' w.heap.size (.slice (some ⟨w.heap.size, 0, none⟩) n n) (List.replicate n 0) := by
  unfold Own
  rw [List.length_replicate, List.map_replicate]
  rw [show (Value.int IntKind.i64 0).cells = #[Value.int .i64 0] from rfl, toList_madeCells_one] at ho
  simpa using ho
 exact hK w' ho' (below_grown hgr) (by have := ho'.blk; omega)
end
end Go.Proofs.YtgmdpppljkmabaaGreat
namespace Go.Proofs.YtgmdpppljkmabaaGreat
open Go.ChangeShapes Go.WideShapes Go.ChangeAt Go.RowKit
end Go.Proofs.YtgmdpppljkmabaaGreat
namespace Go.Proofs.YtgmdpppljkmabaaGreat
open Go.ChangeShapes Go.WideShapes Go.ChangeAt Go.RowKit

theorem within_any (n lo hi : Int) (w : World) :
  Calls Tryz.prog 71 #[.int .i64 n, .int .i64 lo, .int .i64 hi] w fun e w' => e = .returned (.bool (decide (lo ≤ n) && decide (n ≤ hi))) ∧ w = w' := by
 by_cases h : lo ≤ n
 ·go_enter Tryz.func71, Tryz.ntmps71
  go_wp2
  go_ret
  exact ⟨by simp [h], rfl⟩
 ·have h' : decide (lo ≤ n) = false := by simpa using h
  go_enter Tryz.func71, Tryz.ntmps71
  go_wp2
  go_ret
  exact ⟨by simp, rfl⟩
theorem l1In_any (n lo hi : Int) (w : World) :
  Calls Tryz.prog 75 #[.int .i64 n, .int .i64 lo, .int .i64 hi] w fun e w' => e = .returned (.bool (decide (lo ≤ n) && decide (n ≤ hi))) ∧ w = w' := by
 by_cases h : lo ≤ n
 ·go_enter Tryz.func75, Tryz.ntmps75
  go_wp2
  go_ret
  exact ⟨by simp [h], rfl⟩
 ·have h' : decide (lo ≤ n) = false := by simpa using h
  go_enter Tryz.func75, Tryz.ntmps75
  go_wp2
  go_ret
  exact ⟨by simp, rfl⟩
theorem isScheme_any (n : Int) (w : World) :
  Calls Tryz.prog 69 #[.int .i64 n] w fun e w' => e = .returned (.bool (decide (1 ≤ n) && decide (n ≤ 5))) ∧ w = w' := by
 go_enter Tryz.func69, Tryz.ntmps69
 go_wp2_with (go_at_call 71; refine (within_any _ _ _ _).mono ?_; rintro e w' ⟨rfl, rfl⟩)
 go_ret
 exact ⟨rfl, rfl⟩
def inB (lo hi x : Int) : Bool := decide (lo ≤ x) && decide (x ≤ hi)
theorem inB_iff {lo hi x : Int} : inB lo hi x = true ↔ lo ≤ x ∧ x ≤ hi := by simp [inB]
theorem within_b (n lo hi : Int) (w : World) :
  Calls Tryz.prog 71 #[.int .i64 n, .int .i64 lo, .int .i64 hi] w fun e w' => e = .returned (.bool (inB lo hi n)) ∧ w = w' := within_any n lo hi w
theorem l1In_b (n lo hi : Int) (w : World) :
  Calls Tryz.prog 75 #[.int .i64 n, .int .i64 lo, .int .i64 hi] w fun e w' => e = .returned (.bool (inB lo hi n)) ∧ w = w' := l1In_any n lo hi w
theorem isScheme_b (n : Int) (w : World) : Calls Tryz.prog 69 #[.int .i64 n] w fun e w' => e = .returned (.bool (inB 1 5 n)) ∧ w = w' := isScheme_any n w
end Go.Proofs.YtgmdpppljkmabaaGreat
namespace Go.Proofs.YtgmdpppljkmabaaGreat
open Go.RowKit
theorem l1In_is (n lo hi : Int) (b : Bool) (h : inB lo hi n = b) (w : World) :
  Calls Tryz.prog 75 #[.int .i64 n, .int .i64 lo, .int .i64 hi] w fun e w' => e = .returned (.bool b) ∧ w = w' := h ▸ l1In_any n lo hi w
theorem l1All_any (v : Value) (xs : List Int) (lo hi : Int) (w : World) (h : IntS w v xs) :
  Calls Tryz.prog 133 #[v, .int .i64 lo, .int .i64 hi] w fun e w' => e = .returned (.bool (xs.all (inB lo hi))) ∧ w = w' := by
 obtain ⟨A, c, rfl, hlc, hm, hA⟩ := h
 unfold maxLen at hm
 have HA := Lib.hid hA
 clear hA
 go_enter Tryz.func133, Tryz.ntmps133
 go_wp2
 go_loop [11] (fun i => ∃ k : Nat, k ≤ xs.length ∧ i = .int .i64 k ∧ (xs.take k).all (inB lo hi) = true) (fun i => xs.length - (intOf i).toNat)
 case atStart => exact ⟨0, Nat.zero_le _, rfl, rfl⟩
 case round =>
  obtain ⟨k, hk, rfl, hall⟩ := hrel
  have Hall := Lib.hid hall
  clear hall
  by_cases hlt : k < xs.length
  ·obtain ⟨x, hx⟩ := getx xs k hlt
   obtain ⟨b, off, rfl, hcell⟩ := HA.out k x hx
   have Hx := Lib.hid hx
   clear hx
   cases hb : inB lo hi x
   all_goals
    have Hb := Lib.hid hb
    clear hb
    go_wp2_with (go_at_call 75; refine (l1In_is _ _ _ _ Hb.out _).mono ?_; rintro e w' ⟨rfl, rfl⟩)
   ·go_ret
    exact ⟨ret_bool (all_stop Hx.out Hb.out).symm, rfl⟩
   ·go_round
    case rel => exact ⟨k + 1, by omega, by go_num, by rw [take_snoc Hx.out]; simp [Hall.out, Hb.out]⟩
    case measure => simp [intOf]; omega
  ·go_wp2
   go_ret
   exact ⟨ret_bool (by rw [← Hall.out, take_all _ hlt]), rfl⟩
end Go.Proofs.YtgmdpppljkmabaaGreat
namespace Go.Proofs.YtgmdpppljkmabaaGreat
open Go.RowKit
end Go.Proofs.YtgmdpppljkmabaaGreat
namespace Go.Proofs.YtgmdpppljkmabaaGreat
open Go.RowKit
theorem eq_of_takes {α : Type} {xs ys : List α} {k : Nat} (hl : xs.length = ys.length) (h : xs.take k = ys.take k) (hk : ¬ k < xs.length) : xs = ys := by
 rw [take_all xs hk, take_all ys (by omega)] at h; exact h
def marks (k n : Nat) : List Int := (List.range' k n).map Int.ofNat
theorem Own.cases {w : World} {base : Nat} {v : Value} {xs : List Int} (h : Own w base v xs) : (v = .slice none 0 0 ∧ xs = []) ∨ ∃ g c, v = .slice (some ⟨g, 0, none⟩) xs.length c ∧ base ≤ g ∧ g < w.heap.size := by
 rcases h.2 with ⟨rfl, h0⟩ | ⟨g, cap, cur, rfl, hb, hg, hnc, hm, hcs, htake⟩
 ·exact .inl ⟨rfl, List.eq_nil_of_length_eq_zero h0⟩
 ·exact .inr ⟨g, cap, rfl, hb, (Array.getElem?_eq_some_iff.1 hg).1⟩
end Go.Proofs.YtgmdpppljkmabaaGreat
namespace Go.Proofs.YtgmdpppljkmabaaGreat
open Go.RowKit
def PredOn (w0 : World) (fid : FuncId) (caps : Array Value) (p : Int → Bool) (xs : List Int) : Prop :=
 ∀ x ∈ xs, ∀ w, Below w0.heap.size w0 w → Calls Tryz.prog fid (#[.int .i64 x] ++ caps) w fun e w' => e = .returned (.bool (p x)) ∧ Below w.heap.size w w'
theorem PredOn.keep {w0 w1 : World} {fid : FuncId} {caps : Array Value} {p : Int → Bool} {xs : List Int} (h : PredOn w0 fid caps p xs) (hb : Below w0.heap.size w0 w1) : PredOn w1 fid caps p xs :=
 fun x hx w hw => h x hx w (hb.trans (hw.mono hb.size))
def fidx (p : Int → Bool) (xs : List Int) : Int := match xs.findIdx? p with | some i => (i : Int) | none => -1
theorem fidx_none {p : Int → Bool} {xs : List Int} (h : xs.any p = false) : fidx p xs = -1 := by
 have : xs.findIdx? p = none := by
  rw [List.findIdx?_eq_none_iff]
  intro x hx
  rw [List.any_eq_false] at h
  simpa using h x hx
 simp [fidx, this]
theorem fidx_found {p : Int → Bool} {xs : List Int} {k : Nat} {x : Int} (hx : xs[k]? = some x) (hp : p x = true) (h : (xs.take k).any p = false) : fidx p xs = k := by
 have : xs.findIdx? p = some k := by
  obtain ⟨hk, rfl⟩ := List.getElem?_eq_some_iff.1 hx
  rw [List.findIdx?_eq_some_iff_getElem]
  refine ⟨hk, hp, fun j hj => ?_⟩
  rw [List.any_eq_false] at h
  simpa using h xs[j] (by rw [List.mem_take_iff_getElem]; exact ⟨j, by omega, rfl⟩)
 simp [fidx, this]
theorem fidx_any (p : Int → Bool) (xs : List Int) : decide (0 ≤ fidx p xs) = xs.any p := by
 unfold fidx
 cases h : xs.findIdx? p with
 | none =>
  rw [List.findIdx?_eq_none_iff] at h
  simp only [decide_eq_false_iff_not.2 (show ¬ (0 : Int) ≤ -1 by omega)]
  symm
  rw [List.any_eq_false]
  intro x hx; simp [h x hx]
 | some i =>
  rw [List.findIdx?_eq_some_iff_getElem] at h
  obtain ⟨hi, hp, _⟩ := h
  simp only [Int.natCast_nonneg, decide_true]
  symm
  rw [List.any_eq_true]
  exact ⟨xs[i], List.getElem_mem hi, hp⟩
set_option maxHeartbeats 400000 in
theorem indexFunc_any (v : Value) (xs : List Int) (fid : FuncId) (caps : Array Value) (p : Int → Bool) (w : World) (h : IntS w v xs) (henter : ∀ args w, (callFunc fid args).run Tryz.prog w = .ok (.enter fid args) w) (hp : PredOn w fid caps p xs) :
  Calls Tryz.prog 161 #[v, .func (.func fid) #[] caps] w fun e w' => e = .returned (.int .i64 (fidx p xs)) ∧ Below w.heap.size w w' := by
 have H := Lib.hid h
 obtain ⟨A, c, rfl, hlc, hm, hA⟩ := h
 unfold maxLen at hm
 have HA := Lib.hid hA
 clear hA
 have Hp := Lib.hid hp
 have eg := henter
 clear hp
 go_enter Tryz.func161, Tryz.ntmps161
 go_wp2
 go_loopw [8] (fun i wr => ∃ k : Nat, k ≤ xs.length ∧ i = .int .i64 k ∧ (xs.take k).any p = false ∧ Below w.heap.size w wr) (fun i _ => xs.length - (intOf i).toNat)
 case atStart => exact ⟨0, Nat.zero_le _, rfl, rfl, Below.refl _ _⟩
 case round =>
  obtain ⟨k, hk, rfl, hany, hb⟩ := hrel
  have Hany := Lib.hid hany
  have Hb := Lib.hid hb
  clear hany hb
  by_cases hlt : k < xs.length
  ·obtain ⟨x, hx⟩ := getx xs k hlt
   obtain ⟨b, off, rfl, hcell⟩ := HA.out k x hx
   have hcell' := (Hb.out.cell (p := ⟨b, off + k, none⟩) (World.block_lt_of_cell? w _ hcell)).trans hcell
   have Hx := Lib.hid hx
   clear hx hcell
   cases hpx : p x
   all_goals
    have Hpx := Lib.hid hpx
    clear hpx
    go_wp2_with fail
    refine (Hp.out x (List.mem_of_getElem? Hx.out) _ Hb.out).mono ?_
    rintro e w1 ⟨rfl, hb1⟩
    rw [Hpx.out]
    have Hb1 := Lib.hid (Hb.out.trans (hb1.mono Hb.out.size))
    clear hb1
    go_wp2
   ·go_roundw
    case rel => exact ⟨k + 1, by omega, by go_num, by rw [take_snoc Hx.out, List.any_append, Hany.out]; simp [Hpx.out], Hb1.out⟩
    case measure => simp [intOf]; omega
   ·go_ret
    exact ⟨ret_int (fidx_found Hx.out Hpx.out Hany.out).symm, Hb1.out⟩
  ·go_wp2
   go_ret
   exact ⟨ret_int (fidx_none (by have := Hany.out; rwa [take_all xs hlt] at this)).symm, Hb.out⟩
theorem containsFunc_any (v : Value) (xs : List Int) (fid : FuncId) (caps : Array Value) (p : Int → Bool) (w : World) (h : IntS w v xs) (henter : ∀ args w, (callFunc fid args).run Tryz.prog w = .ok (.enter fid args) w) (hp : PredOn w fid caps p xs) :
  Calls Tryz.prog 159 #[v, .func (.func fid) #[] caps] w fun e w' => e = .returned (.bool (xs.any p)) ∧ Below w.heap.size w w' := by
 have hb := indexFunc_any v xs fid caps p w h henter hp
 have hr := Lib.hid (fidx_any p xs)
 have Hb := Lib.hid hb
 clear hb h henter hp
 go_enter Tryz.func159, Tryz.ntmps159
 go_wp2_with fail
 refine Hb.out.mono ?_
 rintro e w1 ⟨rfl, hb1⟩
 have Hb1 := Lib.hid hb1
 clear hb1
 go_wp2
 go_ret
 exact ⟨ret_bool hr.out, Hb1.out⟩
theorem allWithin1_any (x lo hi : Int) (a b : Addr) (w : World) (ha : w.cell? a = some (.int .i64 lo)) (hb : w.cell? b = some (.int .i64 hi)) :
  Calls Tryz.prog 160 #[.int .i64 x, .pointer (some a), .pointer (some b)] w fun e w' => e = .returned (.bool (!inB lo hi x)) ∧ w = w' := by
 go_enter Tryz.func160, Tryz.ntmps160
 go_wp2_with (go_at_call 71; refine (within_b _ _ _ _).mono ?_; rintro e w' ⟨rfl, rfl⟩)
 go_ret
 exact ⟨rfl, rfl⟩
theorem allWithin1_enters : ∀ args w, (callFunc 160 args).run Tryz.prog w = .ok (.enter 160 args) w := enters_of Tryz.func160 (by kernel_rfl) rfl
theorem allWithin_any (v : Value) (xs : List Int) (lo hi : Int) (w : World) (h : IntS w v xs) :
  Calls Tryz.prog 99 #[v, .int .i64 lo, .int .i64 hi] w fun e w' => e = .returned (.bool (xs.all (inB lo hi))) ∧ Below w.heap.size w w' := by
 have H := Lib.hid h
 clear h
 have hr : (!xs.any fun x => !inB lo hi x) = xs.all (inB lo hi) := by rw [List.not_any_eq_all_not]; simp
 have Hr := Lib.hid hr
 clear hr
 go_enter Tryz.func99, Tryz.ntmps99
 go_wp2_with fail
 have hb : Below w.heap.size w ((w.alloc (Obj.cells #[Value.int IntKind.i64 lo] 3)).alloc (Obj.cells #[Value.int IntKind.i64 hi] 3)) := ((Below.refl _ _).alloc (Nat.le_refl _) _).alloc (by simp) _
 refine (containsFunc_any _ xs _ _ (fun x => !inB lo hi x) _ (H.out.keep hb) allWithin1_enters ?_).mono ?_
 ·intro x _ w2 hw2
  exact (allWithin1_any x lo hi _ _ w2 ((hw2.cell (by simp; try omega)).trans (by simp)) ((hw2.cell (by simp; try omega)).trans (by simp))).mono fun _ _ ⟨he, hw⟩ => ⟨he, hw ▸ Below.refl _ _⟩
 ·rintro e w1 ⟨rfl, hb1⟩
  have Hb1 := Lib.hid (hb.trans (hb1.mono (by simp; omega)))
  clear hb hb1
  go_wp2
  go_ret
  exact ⟨ret_bool Hr.out, Hb1.out⟩
end Go.Proofs.YtgmdpppljkmabaaGreat
namespace Go.Proofs.YtgmdpppljkmabaaGreat
open Go.RowKit
def EndS (w : World) (v : Value) (es : List (Int × Int)) : Prop :=
 ∃ (A : Option Addr) (c : Nat), v = .slice A es.length c ∧ es.length ≤ c ∧ c ≤ maxLen ∧
  (∀ k e, es[k]? = some e → ∃ b off, A = some ⟨b, off, none⟩ ∧ w.cell? ⟨b, off + k * 2, none⟩ = some (.int .i64 e.1) ∧ w.cell? ⟨b, off + k * 2 + 1, none⟩ = some (.int .i64 e.2))
theorem EndS.keep {w w' : World} {v : Value} {xs : List (Int × Int)} (h : EndS w v xs) (hb : Below w.heap.size w w') : EndS w' v xs := by
 obtain ⟨A, c, hv, hc, hm, hA⟩ := h
 refine ⟨A, c, hv, hc, hm, fun k x hk => ?_⟩
 obtain ⟨b, off, hA', h1, h2⟩ := hA k x hk
 exact ⟨b, off, hA', bc hb h1, bc hb h2⟩
def EndSS (w : World) (v : Value) (ess : List (List (Int × Int))) : Prop :=
 ∃ (A : Option Addr) (c : Nat), v = .slice A ess.length c ∧ ess.length ≤ c ∧ c ≤ maxLen ∧
  (∀ k es, ess[k]? = some es → ∃ b off u, A = some ⟨b, off, none⟩ ∧ w.cell? ⟨b, off + k, none⟩ = some u ∧ EndS w u es)
theorem EndSS.keep {w w' : World} {v : Value} {xs : List (List (Int × Int))} (h : EndSS w v xs) (hb : Below w.heap.size w w') : EndSS w' v xs := by
 obtain ⟨A, c, hv, hc, hm, hA⟩ := h
 refine ⟨A, c, hv, hc, hm, fun k x hk => ?_⟩
 obtain ⟨b, off, u, hA', h1, h2⟩ := hA k x hk
 exact ⟨b, off, u, hA', bc hb h1, h2.keep hb⟩
structure Net where
 ends : List (List (Int × Int))
 ids : List Int
 inputs : List Int
 deriving DecidableEq
def NetIn (w : World) (ve vi vn : Value) (n : Net) : Prop := EndSS w ve n.ends ∧ IntS w vi n.ids ∧ IntS w vn n.inputs
theorem NetIn.keep {w w' : World} {ve vi vn : Value} {n : Net} (h : NetIn w ve vi vn n) (hb : Below w.heap.size w w') : NetIn w' ve vi vn n := ⟨h.1.keep hb, h.2.1.keep hb, h.2.2.keep hb⟩

def eqE (x y : Int × Int) : Bool := decide (x = y)
end Go.Proofs.YtgmdpppljkmabaaGreat
namespace Go.Proofs.YtgmdpppljkmabaaGreat
open Go.RowKit
structure Only (S : List Nat) (w w' : World) : Prop where
 os : w'.os = w.os
 tape : w'.tape = w.tape
 output : w'.output = w.output
 size : w.heap.size ≤ w'.heap.size
 block : ∀ k, k < w.heap.size → k ∉ S → w'.heap[k]? = w.heap[k]?
theorem Only.refl (S : List Nat) (w : World) : Only S w w := ⟨rfl, rfl, rfl, Nat.le_refl _, fun _ _ _ => rfl⟩
theorem Only.trans {S : List Nat} {a b c : World} (h : Only S a b) (k : Only S b c) : Only S a c :=
 ⟨k.os.trans h.os, k.tape.trans h.tape, k.output.trans h.output, Nat.le_trans h.size k.size, fun i hi hn => (k.block i (Nat.lt_of_lt_of_le hi h.size) hn).trans (h.block i hi hn)⟩
theorem Only.mono {S T : List Nat} {a b : World} (h : Only S a b) (hs : ∀ k ∈ S, k ∈ T) : Only T a b := ⟨h.os, h.tape, h.output, h.size, fun i hi hn => h.block i hi (fun e => hn (hs i e))⟩
theorem Only.below {S : List Nat} {a b : World} (h : Only S a b) (B : Nat) (hB : B ≤ a.heap.size) (hs : ∀ k ∈ S, B ≤ k) : Below B a b := ⟨h.os, h.tape, h.output, h.size, fun i hi => h.block i (by omega) (fun e => by have := hs i e; omega)⟩
theorem Only.of_below {S : List Nat} {a b : World} (h : Below a.heap.size a b) : Only S a b := ⟨h.os, h.tape, h.output, h.size, fun i hi _ => h.block i hi⟩
theorem Only.of_grown {a b : World} {row : Option Nat} (h : a.grownBy b row) : Only row.toList a b := ⟨h.os, h.tape, h.output, h.size, fun i hi hn => h.block i hi (fun e => hn (by rw [← e]; simp))⟩
theorem Only.grown {a b : World} {row : Option Nat} (h : Only row.toList a b) : a.grownBy b row := ⟨h.os, h.tape, h.output, h.size, fun i hi hn => h.block i hi (fun e => hn (by cases row <;> simp at e; rw [e]))⟩
theorem Only.drewN {S : List Nat} {a b : World} (h : Only S a b) (n : Nat) : Only S a (b.drewN n) := ⟨h.os, h.tape, h.output, h.size, h.block⟩
theorem Only.cell {S : List Nat} {a b : World} (h : Only S a b) {p : Addr} {u : Value} (hp : p.block ∉ S) (hc : a.cell? p = some u) : b.cell? p = some u :=
 (World.cell?_of_block (h.block p.block (World.block_lt_of_cell? a _ hc) hp)).trans hc
theorem Only.setCell {S : List Nat} {a w : World} (h : Only S a w) {p : Addr} (hp : p.block ∈ S ∨ a.heap.size ≤ p.block) (u : Value) : Only S a (w.setCell p u) :=
 ⟨h.os, h.tape, h.output, by simpa [World.setCell] using h.size, fun i hi hn => (Below.heap_setCell w p u i (by
  rintro rfl
  rcases hp with hp | hp
  ·exact hn hp
  ·omega)).trans (h.block i hi hn)⟩
theorem Only.alloc {S : List Nat} {a w : World} (h : Only S a w) (o : Obj) : Only S a (w.alloc o) := ⟨h.os, h.tape, h.output, Nat.le_trans h.size (by simp), fun i hi hn => (Below.heap_alloc w o i (Nat.lt_of_lt_of_le hi h.size)).trans (h.block i hi hn)⟩

structure RowLaw {β : Type} (R : World → Nat → Value → β → List Nat → Prop) : Prop where
 stable : ∀ {w w' : World} {base : Nat} {v : Value} {x : β} {S : List Nat}, R w base v x S → (∀ k ∈ S, w'.heap[k]? = w.heap[k]?) → R w' base v x S
 range : ∀ {w : World} {base : Nat} {v : Value} {x : β} {S : List Nat}, R w base v x S → ∀ k ∈ S, base ≤ k ∧ k < w.heap.size
 nodup : ∀ {w : World} {base : Nat} {v : Value} {x : β} {S : List Nat}, R w base v x S → S.Nodup
 mono : ∀ {w : World} {base base' : Nat} {v : Value} {x : β} {S : List Nat}, R w base v x S → base' ≤ base → R w base' v x S
 one : ∀ {w : World} {base : Nat} {v : Value} {x : β} {S : List Nat}, R w base v x S → ∃ A n c, v = .slice A n c

section
variable {β : Type} {R : World → Nat → Value → β → List Nat → Prop}
theorem RowLaw.keep (L : RowLaw R) {w w' : World} {base : Nat} {v : Value} {x : β} {S : List Nat} (h : R w base v x S) (hb : Below w.heap.size w w') : R w' base v x S := L.stable h fun k hk => hb.block k (L.range h k hk).2
theorem RowLaw.only (L : RowLaw R) {w w' : World} {base : Nat} {v : Value} {x : β} {S T : List Nat} (h : R w base v x S) (hb : Only T w w') (hd : ∀ k ∈ S, k ∉ T) : R w' base v x S := L.stable h fun k hk => hb.block k (L.range h k hk).2 (hd k hk)
end

def LeafR {α : Type} (e : TypeId) (size : Nat) (enc : α → List Value) (w : World) (base : Nat) (v : Value) (xs : List α) (S : List Nat) : Prop :=
 w.ownsRow base e size v xs.length (xs.flatMap enc) ∧ S = v.ownBlock.toList

theorem ownsRow_stable {w w' : World} {base : Nat} {e : TypeId} {size : Nat} {v : Value} {n : Nat} {xs : List Value} (h : w.ownsRow base e size v n xs) (hs : ∀ k ∈ v.ownBlock.toList, w'.heap[k]? = w.heap[k]?) : w'.ownsRow base e size v n xs := by
 refine ⟨h.1, h.2.imp id ?_⟩
 rintro ⟨g, cap, cur, rfl, h2, h3, h4⟩
 exact ⟨g, cap, cur, rfl, h2, (hs g (by simp [Value.ownBlock])).trans h3, h4⟩
theorem ownsRow_mono {w : World} {base base' : Nat} {e : TypeId} {size : Nat} {v : Value} {n : Nat} {xs : List Value} (h : w.ownsRow base e size v n xs) (hb : base' ≤ base) : w.ownsRow base' e size v n xs :=
 ⟨h.1, h.2.imp id fun ⟨g, cap, cur, h1, h2, h3⟩ => ⟨g, cap, cur, h1, Nat.le_trans hb h2, h3⟩⟩
theorem ownsRow_one {w : World} {base : Nat} {e : TypeId} {size : Nat} {v : Value} {n : Nat} {xs : List Value} (h : w.ownsRow base e size v n xs) : ∃ A m c, v = .slice A m c := by
 rcases h.2 with ⟨rfl, _⟩ | ⟨g, cap, cur, rfl, _⟩
 ·exact ⟨_, _, _, rfl⟩
 ·exact ⟨_, _, _, rfl⟩
theorem leaf_law {α : Type} (e : TypeId) (size : Nat) (enc : α → List Value) : RowLaw (LeafR (α := α) e size enc) where
 stable := fun ⟨h, hS⟩ hs => ⟨ownsRow_stable h (fun k hk => hs k (by rw [hS]; exact hk)), hS⟩
 range := fun ⟨h, hS⟩ k hk => World.ownsRow.lt h k (by rw [hS] at hk; simpa using hk)
 nodup := fun {_ _ v _ _} ⟨_, hS⟩ => by rw [hS]; cases v.ownBlock <;> simp
 mono := fun ⟨h, hS⟩ hb => ⟨ownsRow_mono h hb, hS⟩
 one := fun ⟨h, _⟩ => ownsRow_one h

def OwnRows {β : Type} (e : TypeId) (R : World → Nat → Value → β → List Nat → Prop) (w : World) (base : Nat) (v : Value) (xs : List β) (S : List Nat) : Prop :=
 ∃ (vs : List Value) (Ss : List (List Nat)), w.ownsRow base e 1 v xs.length vs ∧ Ss.length = xs.length ∧
  (∀ (k : Nat) u x T, vs[k]? = some u → xs[k]? = some x → Ss[k]? = some T → R w base u x T) ∧ S = v.ownBlock.toList ++ Ss.flatten ∧ S.Nodup

theorem rows_law {β : Type} {R : World → Nat → Value → β → List Nat → Prop} (e : TypeId) (L : RowLaw R) : RowLaw (OwnRows e R) where
 stable := fun {w w' base v xs S} h hs => by
  obtain ⟨vs, Ss, h1, h2, h3, h4, h5⟩ := h
  refine ⟨vs, Ss, ownsRow_stable h1 (fun k hk => hs k (by rw [h4]; simp [hk])), h2, fun k u x T hu hx hT => L.stable (h3 k u x T hu hx hT) (fun j hj => hs j ?_), h4, h5⟩
  rw [h4]
  exact List.mem_append_right _ (List.mem_flatten.2 ⟨T, List.mem_of_getElem? hT, hj⟩)
 range := fun {w base v xs S} h k hk => by
  obtain ⟨vs, Ss, h1, h2, h3, h4, h5⟩ := h
  rw [h4] at hk
  rcases List.mem_append.1 hk with hk | hk
  ·exact World.ownsRow.lt h1 k (by simpa using hk)
  ·obtain ⟨T, hT, hkT⟩ := List.mem_flatten.1 hk
   obtain ⟨j, hj⟩ := List.mem_iff_getElem?.1 hT
   have hlt : j < Ss.length := lt_of_get hj
   have hvl : vs.length = xs.length := by simpa using h1.1
   obtain ⟨u, hu⟩ := getx vs j (by omega)
   obtain ⟨x, hx⟩ := getx xs j (by omega)
   exact L.range (h3 j u x T hu hx hj) k hkT
 nodup := fun ⟨_, _, _, _, _, _, h5⟩ => h5
 mono := fun {w base base' v xs S} h hb => by
  obtain ⟨vs, Ss, h1, h2, h3, h4, h5⟩ := h
  exact ⟨vs, Ss, ownsRow_mono h1 hb, h2, fun k u x T hu hx hT => L.mono (h3 k u x T hu hx hT) hb, h4, h5⟩
 one := fun ⟨_, _, h1, _⟩ => ownsRow_one h1

section
variable {β : Type} {R : World → Nat → Value → β → List Nat → Prop} {e : TypeId} {w : World} {base g c n : Nat} {xs : List β} {S : List Nat}
theorem ownsRow_len {e : TypeId} {size : Nat} {m : Nat} {ys : List Value} (h : w.ownsRow base e size (.slice (some ⟨g, 0, none⟩) n c) m ys) : m = n := by
 rcases h.2 with ⟨h', _⟩ | ⟨g', cap', cur, h', _⟩
 ·simp at h'
 ·simp only [Value.slice.injEq] at h'
  exact h'.2.1.symm
theorem ownsRow_cases {e : TypeId} {size : Nat} {m : Nat} {ys : List Value} {v : Value} (h : w.ownsRow base e size v m ys) : (v = .slice none 0 0 ∧ m = 0) ∨ ∃ g c, v = .slice (some ⟨g, 0, none⟩) m c ∧ base ≤ g ∧ g < w.heap.size ∧ m ≤ c ∧ c ≤ maxLen := by
 rcases h.2 with h | ⟨g, cap, cur, rfl, hb, hg, hnc, hm, hcs, htake⟩
 ·exact .inl h
 ·exact .inr ⟨g, cap, rfl, hb, (Array.getElem?_eq_some_iff.1 hg).1, hnc, hm⟩
theorem OwnRows.at_ (h : OwnRows e R w base (.slice (some ⟨g, 0, none⟩) n c) xs S) {k : Nat} {x : β} (hx : xs[k]? = some x) : ∃ u T, w.cell? ⟨g, k, none⟩ = some u ∧ w.frozen? ⟨g, k, none⟩ = false ∧ R w base u x T ∧ (∀ j ∈ T, j ∈ S) ∧ g ∉ T ∧ g ∈ S := by
 obtain ⟨vs, Ss, h1, h2, h3, h4, h5⟩ := h
 have hk : k < xs.length := lt_of_get hx
 have hn := ownsRow_len h1
 have hvl : vs.length = xs.length := by simpa using h1.1
 obtain ⟨u, hu⟩ := getx vs k (by omega)
 obtain ⟨T, hT⟩ := getx Ss k (by omega)
 subst hn
 refine ⟨u, T, ?_, h1.frozenAt k, h3 k u x T hu hx hT, fun j hj => ?_, fun hg => ?_, ?_⟩
 ·rw [h1.cellAt (cap := c) k (by omega)]; exact hu
 ·rw [h4]; exact List.mem_append_right _ (List.mem_flatten.2 ⟨T, List.mem_of_getElem? hT, hj⟩)
 ·rw [h4] at h5
  have := (List.nodup_append.1 h5).2.2 g (by simp [Value.ownBlock]) g (List.mem_flatten.2 ⟨T, List.mem_of_getElem? hT, hg⟩)
  exact this rfl
 ·rw [h4]; simp [Value.ownBlock]
theorem flatten_set_mem {Ss : List (List Nat)} {k j : Nat} {T : List Nat} (h : j ∈ (Ss.set k T).flatten) : j ∈ Ss.flatten ∨ j ∈ T := by
 obtain ⟨U, hU, hj⟩ := List.mem_flatten.1 h
 rcases List.mem_or_eq_of_mem_set hU with h1 | h1
 ·exact .inl (List.mem_flatten.2 ⟨U, h1, hj⟩)
 ·subst h1; exact .inr hj
theorem flatten_set_nodup {Ss : List (List Nat)} {k : Nat} {T : List Nat} (h : Ss.flatten.Nodup) (hT : T.Nodup) (hd : ∀ i j U, i ≠ k → Ss[i]? = some U → j ∈ U → j ∉ T) : (Ss.set k T).flatten.Nodup := by
 induction Ss generalizing k with
 | nil => simp
 | cons U Ss ih =>
  rw [List.flatten_cons, List.nodup_append] at h
  cases k with
  | zero =>
   rw [List.set_cons_zero, List.flatten_cons, List.nodup_append]
   refine ⟨hT, h.2.1, fun a ha b hb hab => ?_⟩
   subst hab
   obtain ⟨V, hV, hbV⟩ := List.mem_flatten.1 hb
   obtain ⟨i, hi⟩ := List.mem_iff_getElem?.1 hV
   exact hd (i + 1) a V (by omega) (by simpa using hi) hbV ha
  | succ k =>
   rw [List.set_cons_succ, List.flatten_cons, List.nodup_append]
   refine ⟨h.1, ih h.2.1 (fun i j V hi hV hj => hd (i + 1) j V (by omega) (by simpa using hV) hj), fun a ha b hb hab => ?_⟩
   subst hab
   rcases flatten_set_mem hb with hb | hb
   ·exact h.2.2 a ha a hb rfl
   ·exact hd 0 a U (by omega) (by simp) ha hb
theorem flatten_disj {Ss : List (List Nat)} (h : Ss.flatten.Nodup) {i j x : Nat} {U V : List Nat} (hij : i ≠ j) (hU : Ss[i]? = some U) (hV : Ss[j]? = some V) (hx : x ∈ U) : x ∉ V := by
 induction Ss generalizing i j with
 | nil => simp at hU
 | cons W Ss ih =>
  rw [List.flatten_cons, List.nodup_append] at h
  cases i with
  | zero =>
   cases j with
   | zero => omega
   | succ j =>
    simp at hU hV
    subst hU
    exact fun hxV => h.2.2 x hx x (List.mem_flatten.2 ⟨V, List.mem_of_getElem? hV, hxV⟩) rfl
  | succ i =>
   cases j with
   | zero =>
    simp at hU hV
    subst hV
    exact fun hxV => h.2.2 x hxV x (List.mem_flatten.2 ⟨U, List.mem_of_getElem? hU, hx⟩) rfl
   | succ j => exact ih (i := i) (j := j) h.2.1 (by omega) (by simpa using hU) (by simpa using hV)
theorem OwnRows.store (L : RowLaw R) (h : OwnRows e R w base (.slice (some ⟨g, 0, none⟩) n c) xs S) (k : Nat) {u : Value} {x : β} {T : List Nat} (hR : R w base u x T) (hd : ∀ j ∈ T, j ∉ S) :
  ∃ S', OwnRows e R (w.setCell ⟨g, k, none⟩ u) base (.slice (some ⟨g, 0, none⟩) n c) (xs.set k x) S' ∧ (∀ j ∈ S', j ∈ S ∨ j ∈ T) := by
 obtain ⟨vs, Ss, h1, h2, h3, h4, h5⟩ := h
 have hn := ownsRow_len h1
 subst hn
 have hvl : vs.length = xs.length := by simpa using h1.1
 have h5' := h5
 rw [h4, List.nodup_append] at h5'
 have hgS : g ∈ S := by rw [h4]; simp [Value.ownBlock]
 have hgF : g ∉ Ss.flatten := fun hg => h5'.2.2 g (by simp [Value.ownBlock]) g hg rfl
 have hst : ∀ j, j ≠ g → (w.setCell ⟨g, k, none⟩ u).heap[j]? = w.heap[j]? := fun j hj => Below.heap_setCell w _ _ j hj
 refine ⟨(Value.slice (some ⟨g, 0, none⟩) xs.length c).ownBlock.toList ++ (Ss.set k T).flatten, ⟨vs.set k u, Ss.set k T, ?_, by simp [h2], ?_, rfl, ?_⟩, ?_⟩
 ·have := (h1.stored k u).1
  rw [List.length_set]
  exact this
 ·intro j u' x' T' hu hx hT
  have hj : j < xs.length := by have := lt_of_get hx; simpa using this
  by_cases hjk : k = j
  ·subst hjk
   rw [List.getElem?_set_self (by omega)] at hu hx hT
   cases hu; cases hx; cases hT
   exact L.stable hR (fun i hi => hst i (fun e => hd i hi (e ▸ hgS)))
  ·rw [List.getElem?_set_ne hjk] at hu hx hT
   refine L.stable (h3 j u' x' T' hu hx hT) (fun i hi => hst i (fun e => hgF ?_))
   subst e
   exact List.mem_flatten.2 ⟨T', List.mem_of_getElem? hT, hi⟩
 ·rw [List.nodup_append]
  refine ⟨h5'.1, flatten_set_nodup h5'.2.1 (L.nodup hR) (fun i j U _ hU hj hjT => hd j hjT ?_), fun a ha b hb hab => ?_⟩
  ·rw [h4]; exact List.mem_append_right _ (List.mem_flatten.2 ⟨U, List.mem_of_getElem? hU, hj⟩)
  ·subst hab
   simp [Value.ownBlock] at ha
   subst ha
   rcases flatten_set_mem hb with hb | hb
   ·exact hgF hb
   ·exact hd a hb hgS
 ·intro j hj
  rcases List.mem_append.1 hj with hj | hj
  ·left; rw [h4]; exact List.mem_append_left _ hj
  ·rcases flatten_set_mem hj with hj | hj
   ·left; rw [h4]; exact List.mem_append_right _ hj
   ·exact .inr hj
theorem OwnRows.touch (L : RowLaw R) (h : OwnRows e R w base (.slice (some ⟨g, 0, none⟩) n c) xs S) {k : Nat} {x : β} (hx : xs[k]? = some x) :
  ∃ u T, w.cell? ⟨g, k, none⟩ = some u ∧ R w base u x T ∧ (∀ j ∈ T, j ∈ S) ∧ (∀ (x' : β) (w' : World), R w' base u x' T → Only T w w' → OwnRows e R w' base (.slice (some ⟨g, 0, none⟩) n c) (xs.set k x') S) := by
 obtain ⟨vs, Ss, h1, h2, h3, h4, h5⟩ := h
 have hk : k < xs.length := lt_of_get hx
 have hn := ownsRow_len h1
 subst hn
 have hvl : vs.length = xs.length := by simpa using h1.1
 obtain ⟨u, hu⟩ := getx vs k (by omega)
 obtain ⟨T, hT⟩ := getx Ss k (by omega)
 have h5' := h5
 rw [h4, List.nodup_append] at h5'
 have hgF : g ∉ Ss.flatten := fun hg => h5'.2.2 g (by simp [Value.ownBlock]) g hg rfl
 refine ⟨u, T, by rw [h1.cellAt (cap := c) k (by omega)]; exact hu, h3 k u x T hu hx hT, fun j hj => by rw [h4]; exact List.mem_append_right _ (List.mem_flatten.2 ⟨T, List.mem_of_getElem? hT, hj⟩), fun x' w' hR ho => ?_⟩
 have hgT : g ∉ T := fun hg => hgF (List.mem_flatten.2 ⟨T, List.mem_of_getElem? hT, hg⟩)
 refine ⟨vs, Ss, ?_, by simp [h2], ?_, h4, h5⟩
 ·rw [List.length_set]
  refine ownsRow_stable h1 (fun j hj => ?_)
  simp [Value.ownBlock] at hj
  subst hj
  exact ho.block j (World.ownsRow.lt h1 j (by simp [Value.ownBlock])).2 hgT
 ·intro j u' y T' hu' hy hT'
  by_cases hjk : k = j
  ·subst hjk
   rw [List.getElem?_set_self (by omega)] at hy
   cases hy
   rw [hu] at hu'; cases hu'
   rw [hT] at hT'; cases hT'
   exact hR
  ·rw [List.getElem?_set_ne hjk] at hy
   refine L.only (h3 j u' y T' hu' hy hT') ho (fun i hi hiT => ?_)
   exact flatten_disj h5'.2.1 hjk hT hT' hiT hi
theorem OwnRows.made {x0 : β} (m : Nat) (hm : m ≤ maxLen) (h0 : ∀ w base, R w base (.slice none 0 0) x0 []) (w : World) :
  OwnRows e R (w.alloc (.cells (List.replicate m (Value.slice none 0 0)).toArray e)) w.heap.size (.slice (some ⟨w.heap.size, 0, none⟩) m m) (List.replicate m x0) [w.heap.size] := by
 refine ⟨List.replicate m (Value.slice none 0 0), List.replicate m [], ?_, by simp, ?_, by simp [Value.ownBlock], by simp⟩
 ·have := World.ownsRow_lit (base := w.heap.size) (e := e) (size := 1) w (List.replicate m (Value.slice none 0 0)).toArray m (Nat.le_refl _) hm (by simp)
  simpa using this
 ·intro k u x T hu hx hT
  have hu' := List.mem_of_getElem? hu
  have hx' := List.mem_of_getElem? hx
  have hT' := List.mem_of_getElem? hT
  rw [List.mem_replicate] at hu' hx' hT'
  rw [hu'.2, hx'.2, hT'.2]
  exact h0 _ _
end
end Go.Proofs.YtgmdpppljkmabaaGreat
namespace Go.Proofs.YtgmdpppljkmabaaGreat
open Go.RowKit
def encE (e : Int × Int) : List Value := [.int .i64 e.1, .int .i64 e.2]
def OwnE : World → Nat → Value → List (Int × Int) → List Nat → Prop := LeafR 83 2 encE
theorem lawE : RowLaw OwnE := leaf_law _ _ _
def OwnEE : World → Nat → Value → List (List (Int × Int)) → List Nat → Prop := OwnRows 81 OwnE
theorem lawEE : RowLaw OwnEE := rows_law _ lawE
def OwnI (w : World) (base : Nat) (v : Value) (xs : List Int) (S : List Nat) : Prop := Own w base v xs ∧ S = v.ownBlock.toList
theorem lawI : RowLaw OwnI where
 stable := fun ⟨h, hS⟩ hs => ⟨ownsRow_stable h (fun k hk => hs k (by rw [hS]; exact hk)), hS⟩
 range := fun ⟨h, hS⟩ k hk => World.ownsRow.lt h k (by rw [hS] at hk; simpa using hk)
 nodup := fun {_ _ v _ _} ⟨_, hS⟩ => by rw [hS]; cases v.ownBlock <;> simp
 mono := fun ⟨h, hS⟩ hb => ⟨ownsRow_mono h hb, hS⟩
 one := fun ⟨h, _⟩ => ownsRow_one h
theorem encE_get {es : List (Int × Int)} {k : Nat} {x : Int × Int} (h : es[k]? = some x) : (es.flatMap encE)[k * 2]? = some (.int .i64 x.1) ∧ (es.flatMap encE)[k * 2 + 1]? = some (.int .i64 x.2) := by
 induction es generalizing k with
 | nil => simp at h
 | cons e es ih =>
  cases k with
  | zero => simp at h; subst h; simp [encE]
  | succ k =>
   have := ih (k := k) (by simpa using h)
   rw [List.flatMap_cons, show (k + 1) * 2 = k * 2 + 2 by omega]
   simp only [encE, List.cons_append, List.nil_append]
   exact ⟨by simpa using this.1, by rw [show k * 2 + 2 + 1 = (k * 2 + 1) + 1 + 1 by omega]; simpa using this.2⟩
theorem encE_set {es : List (Int × Int)} {k : Nat} (x : Int × Int) (h : k < es.length) : ((es.flatMap encE).set (k * 2) (.int .i64 x.1)).set (k * 2 + 1) (.int .i64 x.2) = (es.set k x).flatMap encE := by
 induction es generalizing k with
 | nil => simp at h
 | cons e es ih =>
  cases k with
  | zero => simp [encE]
  | succ k =>
   have := ih (k := k) (by simpa using h)
   rw [List.flatMap_cons, show (k + 1) * 2 = k * 2 + 1 + 1 by omega]
   simp only [encE, List.cons_append, List.nil_append, List.set_cons_succ, List.flatMap_cons] at this ⊢
   rw [this]
theorem encE_len (es : List (Int × Int)) : (es.flatMap encE).length = es.length * 2 := by
 induction es with
 | nil => rfl
 | cons e es ih => rw [List.flatMap_cons, List.length_append, ih, List.length_cons]; simp [encE]; omega
theorem OwnE.read {w : World} {base : Nat} {v : Value} {es : List (Int × Int)} {S : List Nat} (h : OwnE w base v es S) : EndS w v es := by
 obtain ⟨h, hS⟩ := h
 rcases ownsRow_cases h with ⟨rfl, h0⟩ | ⟨g, c, rfl, hb, hg, hc, hm⟩
 ·obtain rfl : es = [] := List.eq_nil_of_length_eq_zero h0
  exact ⟨none, 0, rfl, Nat.le_refl _, Nat.zero_le _, fun k x hk => by simp at hk⟩
 ·refine ⟨_, c, rfl, hc, hm, fun k x hk => ⟨g, 0, rfl, ?_, ?_⟩⟩
  ·have := lt_of_get hk
   rw [Nat.zero_add, h.cellAt (cap := c) _ (by omega)]; exact (encE_get hk).1
  ·have := lt_of_get hk
   rw [Nat.zero_add, h.cellAt (cap := c) _ (by omega)]; exact (encE_get hk).2
theorem OwnEE.read {w : World} {base : Nat} {v : Value} {ess : List (List (Int × Int))} {S : List Nat} (h : OwnEE w base v ess S) : EndSS w v ess := by
 obtain ⟨vs, Ss, h1, h2, h3, h4, h5⟩ := h
 rcases ownsRow_cases h1 with ⟨rfl, h0⟩ | ⟨g, c, rfl, hb, hg, hc, hm⟩
 ·obtain rfl : ess = [] := List.eq_nil_of_length_eq_zero h0
  exact ⟨none, 0, rfl, Nat.le_refl _, Nat.zero_le _, fun k x hk => by simp at hk⟩
 ·have hvl : vs.length = ess.length := by simpa using h1.1
  refine ⟨_, c, rfl, hc, hm, fun k x hk => ?_⟩
  have hlt := lt_of_get hk
  obtain ⟨u, hu⟩ := getx vs k (by omega)
  obtain ⟨T, hT⟩ := getx Ss k (by omega)
  exact ⟨g, 0, u, rfl, by rw [Nat.zero_add, h1.cellAt (cap := c) _ (by omega)]; exact hu, OwnE.read (h3 k u x T hu hk hT)⟩
def cntEE : List (List (Int × Int)) → Nat
 | [] => 0
 | es :: r => 2 * es.length + cntEE r
end Go.Proofs.YtgmdpppljkmabaaGreat
namespace Go.Proofs.YtgmdpppljkmabaaGreat
open Go.RowKit
theorem OwnE.cells {w : World} {base g c n : Nat} {es : List (Int × Int)} {S : List Nat} (h : OwnE w base (.slice (some ⟨g, 0, none⟩) n c) es S) {k : Nat} {x : Int × Int} (hx : es[k]? = some x) :
  w.cell? ⟨g, k * 2, none⟩ = some (.int .i64 x.1) ∧ w.cell? ⟨g, k * 2 + 1, none⟩ = some (.int .i64 x.2) ∧ w.frozen? ⟨g, k * 2, none⟩ = false ∧ w.frozen? ⟨g, k * 2 + 1, none⟩ = false := by
 obtain ⟨h, _⟩ := h
 have hn := ownsRow_len h
 subst hn
 have := lt_of_get hx
 exact ⟨by rw [h.cellAt (cap := c) _ (by omega)]; exact (encE_get hx).1, by rw [h.cellAt (cap := c) _ (by omega)]; exact (encE_get hx).2, h.frozenAt _, h.frozenAt _⟩
theorem OwnE.set {w : World} {base g c n : Nat} {es : List (Int × Int)} {S : List Nat} (h : OwnE w base (.slice (some ⟨g, 0, none⟩) n c) es S) {k : Nat} (hk : k < es.length) (x : Int × Int) :
  OwnE ((w.setCell ⟨g, k * 2, none⟩ (.int .i64 x.1)).setCell ⟨g, k * 2 + 1, none⟩ (.int .i64 x.2)) base (.slice (some ⟨g, 0, none⟩) n c) (es.set k x) S := by
 obtain ⟨h, hS⟩ := h
 have hn := ownsRow_len h
 subst hn
 have h1 := (h.stored (k * 2) (.int .i64 x.1)).1
 have h2 := (h1.stored (k * 2 + 1) (.int .i64 x.2)).1
 rw [encE_set x hk] at h2
 refine ⟨?_, hS⟩
 rw [List.length_set]
 exact h2
theorem OwnE.len {w : World} {base : Nat} {A : Option Addr} {n c : Nat} {es : List (Int × Int)} {S : List Nat} (h : OwnE w base (.slice A n c) es S) : n = es.length := by
 rcases ownsRow_cases h.1 with ⟨h1, h0⟩ | ⟨g, c, h1, _⟩
 ·cases h1; omega
 ·cases h1; rfl
theorem OwnEE.len {w : World} {base : Nat} {A : Option Addr} {n c : Nat} {es : List (List (Int × Int))} {S : List Nat} (h : OwnEE w base (.slice A n c) es S) : n = es.length := by
 obtain ⟨vs, Ss, h1, _⟩ := h
 rcases ownsRow_cases h1 with ⟨h1, h0⟩ | ⟨g, c, h1, _⟩
 ·cases h1; omega
 ·cases h1; rfl
end Go.Proofs.YtgmdpppljkmabaaGreat
namespace Go.Proofs.YtgmdpppljkmabaaGreat
open Go.RowKit
def OwnNet (w : World) (base : Nat) (ve vi vn : Value) (n : Net) (S : List Nat) : Prop :=
 ∃ S1 S2 S3, OwnEE w base ve n.ends S1 ∧ OwnI w base vi n.ids S2 ∧ OwnI w base vn n.inputs S3 ∧ S = S1 ++ (S2 ++ S3) ∧ S.Nodup
theorem OwnNet.read {w : World} {base : Nat} {ve vi vn : Value} {n : Net} {S : List Nat} (h : OwnNet w base ve vi vn n S) : NetIn w ve vi vn n := by
 obtain ⟨S1, S2, S3, h1, h2, h3, _⟩ := h
 exact ⟨OwnEE.read h1, h2.1.ints, h3.1.ints⟩
theorem OwnNet.range {w : World} {base : Nat} {ve vi vn : Value} {n : Net} {S : List Nat} (h : OwnNet w base ve vi vn n S) : ∀ k ∈ S, base ≤ k ∧ k < w.heap.size := by
 obtain ⟨S1, S2, S3, h1, h2, h3, h4, _⟩ := h
 intro k hk
 rw [h4] at hk
 rcases List.mem_append.1 hk with hk | hk
 ·exact lawEE.range h1 k hk
 ·rcases List.mem_append.1 hk with hk | hk
  ·exact lawI.range h2 k hk
  ·exact lawI.range h3 k hk
theorem OwnNet.stable {w w' : World} {base : Nat} {ve vi vn : Value} {n : Net} {S : List Nat} (h : OwnNet w base ve vi vn n S) (hs : ∀ k ∈ S, w'.heap[k]? = w.heap[k]?) : OwnNet w' base ve vi vn n S := by
 obtain ⟨S1, S2, S3, h1, h2, h3, h4, h5⟩ := h
 exact ⟨S1, S2, S3, lawEE.stable h1 (fun k hk => hs k (by rw [h4]; simp [hk])), lawI.stable h2 (fun k hk => hs k (by rw [h4]; simp [hk])), lawI.stable h3 (fun k hk => hs k (by rw [h4]; simp [hk])), h4, h5⟩
theorem OwnNet.keep {w w' : World} {base : Nat} {ve vi vn : Value} {n : Net} {S : List Nat} (h : OwnNet w base ve vi vn n S) (hb : Below w.heap.size w w') : OwnNet w' base ve vi vn n S :=
 h.stable fun k hk => hb.block k (h.range k hk).2
theorem OwnNet.mono {w : World} {base base' : Nat} {ve vi vn : Value} {n : Net} {S : List Nat} (h : OwnNet w base ve vi vn n S) (hb : base' ≤ base) : OwnNet w base' ve vi vn n S := by
 obtain ⟨S1, S2, S3, h1, h2, h3, h4, h5⟩ := h
 exact ⟨S1, S2, S3, lawEE.mono h1 hb, lawI.mono h2 hb, lawI.mono h3 hb, h4, h5⟩
def eqIs (x y : List Int) : Bool := decide (x = y)
end Go.Proofs.YtgmdpppljkmabaaGreat
