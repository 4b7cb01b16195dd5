/- Parts of the proof: walks of functions and plain laws. -/
import Derived.Test.YtgmdpppljkmabaaGreatP0
import Derived.Test.YtgmdpppljkmabaaGreatP4
import Derived.Deep.SlicePairs
import Derived.Deep.Slices
import Derived.Lib.SmallJoins
import Derived.Test.YtgmdpppljkmabaaGreatP3
import Derived.Test.YtgmdpppljkmabaaGreatP2
namespace Go.Proofs.YtgmdpppljkmabaaGreat
open Go Go.RowKit
/-! an operation of a chain that makes a block -/
theorem tflow_alloc {P : Program} {ops : Array Oper} {w0 : World} {fin : Act → World → Prop} {o : Oper} {rest : List Oper} {A : Act} {W : World} {ob : Obj} {v : Value} (hw : Region.wanted o (yielded ops A.tmps) = true) (h : (execOp A.eval o).run P W = .ok (.value v) (W.alloc ob)) (hS : Since w0 W)
  (hr : ∀ W', W' = W.alloc ob → Since w0 W' → TFlow P ops (Since w0) fin rest (A.put o.dst v) W') : TFlow P ops (Since w0) fin (o :: rest) A W :=
 tflow_new hw h (since_alloc _ hS) (hr _ rfl (since_alloc _ hS))
end Go.Proofs.YtgmdpppljkmabaaGreat
namespace Go.Proofs.YtgmdpppljkmabaaGreat
open Go.ChangeShapes Go.WideShapes Go.ChangeAt Go.RowKit Go.Joins Go.Deep
section
variable {H : Type} {enc : TypeId × Value → H} {W : World}
end
end Go.Proofs.YtgmdpppljkmabaaGreat
namespace Go.Proofs.YtgmdpppljkmabaaGreat
open Go.RowKit
def left (l : Int) (n : Nat) : Int := if l - n < 0 then -1 else l - n
end Go.Proofs.YtgmdpppljkmabaaGreat
namespace Go.Proofs.YtgmdpppljkmabaaGreat
open Go.RowKit
def szRows (ess : List (List (Int × Int))) : Nat := (ess.map List.length).sum
def szEE (ess : List (List (Int × Int))) : Nat := ess.length + szRows ess
end Go.Proofs.YtgmdpppljkmabaaGreat
namespace Go.Proofs.YtgmdpppljkmabaaGreat
open Go.RowKit
def szNet (n : Net) : Nat := szEE n.ends + n.ids.length + n.inputs.length
end Go.Proofs.YtgmdpppljkmabaaGreat
namespace Go.Proofs.YtgmdpppljkmabaaGreat
open Go.RowKit
theorem encE_zeros (n : Nat) : (List.replicate n ((0 : Int), (0 : Int))).flatMap encE = List.replicate (n * 2) (Value.int .i64 0) := by
 induction n with
 | zero => rfl
 | succ n ih => rw [List.replicate_succ, List.flatMap_cons, ih, show (n + 1) * 2 = n * 2 + 1 + 1 by omega, List.replicate_succ, List.replicate_succ]; rfl
theorem made_ends (n : Nat) : (madeCells #[Value.int .i64 0, Value.int .i64 0] (n * 2)).toList = (List.replicate n ((0 : Int), (0 : Int))).flatMap encE := by
 rw [encE_zeros]
 apply List.ext_getElem (by simp [madeCells])
 intro i h1 h2
 simp [madeCells]
 rcases Nat.mod_two_eq_zero_or_one i with h | h <;> simp [h]
section
variable {ops : Array Oper} {rest : List Oper} {o : Oper} {a : Act} {Q : Exit → Act → World → Prop}
theorem mk_ends (w : World) (hg : o.guard = none) (l c : Operand) (hop : o.op = Op.makeSlice 81 l c) (L C : Int) (n : Nat) (hl : a.eval l = .int .i64 L) (hc : a.eval c = .int .i64 C) (hL : L = (n : Int)) (hC : C = (n : Int)) (hn : n ≤ 1099511627776)
  (hK : ∀ w', OwnE w' w.heap.size (.slice (some ⟨w.heap.size, 0, none⟩) n n) (List.replicate n (0, 0)) [w.heap.size] → Below w.heap.size w w' → wpList Tryz.prog ops Q rest (a.put o.dst (.slice (some ⟨w.heap.size, 0, none⟩) n n)) w') : wpList Tryz.prog ops Q (o :: rest) a w := by
 obtain ⟨i0, hi, hz0, hz1, hz2⟩ := info_parts end_info
 refine wpList_make_full w hg l c 81 hop w.heap.size 83 i0 (.agg #[.int .i64 0, .int .i64 0]) 2 Tryz.underlying81 hi hz0 hz1 .i64 .i64 L C n hl hc hL hC (by rw [hz2]; omega) (by unfold maxLen; omega) (Nat.le_refl _) ?_
 intro w' ho hgr
 rw [show (Value.agg #[Value.int IntKind.i64 0, Value.int IntKind.i64 0]).cells = #[Value.int .i64 0, Value.int .i64 0] from rfl, made_ends] at ho
 exact hK w' ⟨by rw [List.length_replicate]; exact ho, by simp [Value.ownBlock]⟩ (below_grown hgr)
end
end Go.Proofs.YtgmdpppljkmabaaGreat
namespace Go.Proofs.YtgmdpppljkmabaaGreat
open Go.RowKit
section
variable {ops : Array Oper} {rest : List Oper} {o : Oper} {a : Act} {Q : Exit → Act → World → Prop}
end
end Go.Proofs.YtgmdpppljkmabaaGreat
namespace Go.Proofs.YtgmdpppljkmabaaGreat
open Go.RowKit
theorem Box3.put0 {w : World} {b : Nat} {x y z u : Value} (h : Box3 w b x y z) : Box3 (w.setCell ⟨b, 0, none⟩ u) b u y z := by
 obtain ⟨r, h⟩ := h
 exact ⟨r, by simp [World.setCell, Array.getElem?_modify, h]⟩
theorem Box3.put1 {w : World} {b : Nat} {x y z u : Value} (h : Box3 w b x y z) : Box3 (w.setCell ⟨b, 1, none⟩ u) b x u z := by
 obtain ⟨r, h⟩ := h
 exact ⟨r, by simp [World.setCell, Array.getElem?_modify, h]⟩
theorem Box3.put2 {w : World} {b : Nat} {x y z u : Value} (h : Box3 w b x y z) : Box3 (w.setCell ⟨b, 2, none⟩ u) b x y u := by
 obtain ⟨r, h⟩ := h
 exact ⟨r, by simp [World.setCell, Array.getElem?_modify, h]⟩
end Go.Proofs.YtgmdpppljkmabaaGreat
namespace Go.Proofs.YtgmdpppljkmabaaGreat
def sIdsB (ids : List Int) (nodes : Int) : Bool := ((List.range ids.length).all fun i => inB 1 999999 (ids.getD i 0) && !((ids.take i).contains (ids.getD i 0))) && ((ids.length : Int) == 0 || (ids.length : Int) == nodes)
theorem getD_of_lt {ids : List Int} {i : Nat} (h : i < ids.length) : ids.getD i 0 = ids[i] := by simp [List.getD_eq_getElem?_getD, h]
theorem takes_nodup (ids : List Int) : (∀ i (h : i < ids.length), ids[i] ∉ ids.take i) ↔ ids.Nodup := by
 unfold List.Nodup
 rw [List.pairwise_iff_getElem]
 constructor
 ·intro h i j hi hj hij e
  refine h j hj (List.mem_iff_getElem.2 ⟨i, by simp; omega, ?_⟩)
  rw [List.getElem_take]; exact e
 ·intro h i hi hm
  obtain ⟨j, hj, e⟩ := List.mem_iff_getElem.1 hm
  simp at hj
  rw [List.getElem_take] at e
  exact h j i (by omega) hi (by omega) e
theorem rising_iff (lo up : Int) (s : List Int) : risingB lo up s = true ↔ (∀ x ∈ s, inB lo up x = true) ∧ s.Pairwise (· < ·) := by
 unfold risingB
 rw [List.all_eq_true]
 constructor
 ·intro h
  have h' : ∀ i (hl : i < s.length), inB lo up s[i] = true ∧ (i = 0 ∨ s.getD (i - 1) 0 < s[i]) := fun i hl => by
   have := h i (List.mem_range.2 hl)
   rw [getD_of_lt hl] at this
   simpa using this
  refine ⟨fun x hx => ?_, ?_⟩
  ·obtain ⟨i, hi, rfl⟩ := List.mem_iff_getElem.1 hx
   exact (h' i hi).1
  ·rw [List.pairwise_iff_getElem]
   intro i j hi hj hij
   induction j with
   | zero => omega
   | succ j ih =>
    have hs := (h' (j + 1) hj).2
    rw [Nat.add_sub_cancel, getD_of_lt (show j < s.length by omega)] at hs
    rcases Nat.lt_or_ge i j with h1 | h1
    ·have := ih (by omega) h1
     omega
    ·obtain rfl : i = j := by omega
     omega
 ·rintro ⟨h1, h2⟩ i hi
  have hl := List.mem_range.1 hi
  rw [getD_of_lt hl]
  rw [List.pairwise_iff_getElem] at h2
  rw [Bool.and_eq_true]
  refine ⟨h1 _ (List.getElem_mem hl), ?_⟩
  rcases Nat.eq_zero_or_pos i with h0 | h0
  ·simp [h0]
  ·have := h2 (i - 1) i (by omega) hl (by omega)
   rw [getD_of_lt (show i - 1 < s.length by omega)]
   simp [this]
theorem sIds_iff (ids : List Int) (nodes : Int) : sIdsB ids nodes = true ↔ (∀ x ∈ ids, inB 1 999999 x = true) ∧ ids.Nodup ∧ ((ids.length : Int) = 0 ∨ (ids.length : Int) = nodes) := by
 unfold sIdsB
 rw [Bool.and_eq_true, List.all_eq_true, ← takes_nodup]
 constructor
 ·rintro ⟨h, h2⟩
  have h' : ∀ i (hl : i < ids.length), inB 1 999999 ids[i] = true ∧ ids[i] ∉ ids.take i := fun i hl => by
   have := h i (List.mem_range.2 hl)
   rw [getD_of_lt hl] at this
   simpa using this
  refine ⟨fun x hx => ?_, fun i hl => (h' i hl).2, by simpa using h2⟩
  obtain ⟨i, hi, rfl⟩ := List.mem_iff_getElem.1 hx
  exact (h' i hi).1
 ·rintro ⟨h1, h2, h3⟩
  refine ⟨fun i hi => ?_, by simpa using h3⟩
  have hl := List.mem_range.1 hi
  rw [getD_of_lt hl, Bool.and_eq_true]
  exact ⟨h1 _ (List.getElem_mem hl), by simpa using h2 i hl⟩
theorem sIds_eq (ids : List Int) (nodes : Int) : sIdsB ids nodes = idsB ids nodes := by
 rw [Bool.eq_iff_iff, sIds_iff]
 cases hids : ids with
 | nil => simp [idsB]
 | cons a l =>
  rw [← hids]
  have hne : ids.isEmpty = false := by rw [hids]; rfl
  have hl0 : ¬ (ids.length : Int) = 0 := by rw [hids]; simp; omega
  unfold idsB
  rw [hne, Bool.false_or, Bool.and_eq_true, rising_iff, beq_iff_eq]
  have hp := List.mergeSort_perm ids (fun x y => decide (x ≤ y))
  have hs : (ids.mergeSort fun x y => decide (x ≤ y)).Pairwise fun a b => decide (a ≤ b) = true :=
   List.pairwise_mergeSort (fun a b c h1 h2 => by simp at h1 h2 ⊢; omega) (fun a b => by simp; omega) ids
  constructor
  ·rintro ⟨h1, h2, h3⟩
   refine ⟨by omega, fun x hx => h1 x (hp.mem_iff.1 hx), ?_⟩
   have hn := hp.nodup_iff.2 h2
   exact (hs.and hn).imp fun {a b} ⟨h, h'⟩ => by simp at h; omega
  ·rintro ⟨h1, h2, h3⟩
   refine ⟨fun x hx => h2 x (hp.mem_iff.2 hx), hp.nodup_iff.1 (h3.imp fun {a b} h => by omega), .inr h1⟩
end Go.Proofs.YtgmdpppljkmabaaGreat
namespace Go.Proofs.YtgmdpppljkmabaaGreat
open Go.RowKit
def hasB (xs : List Int) (x : Int) : Bool := xs.contains x
set_option maxHeartbeats 1000000 in
theorem l1Has_any (v : Value) (xs : List Int) (x : Int) (w : World) (h : IntS w v xs) : Calls Tryz.prog 187 #[v, .int .i64 x] w fun e w' => e = .returned (.bool (hasB xs x)) ∧ w = w' := by
 obtain ⟨A, c, rfl, hlc, hm, hA⟩ := h
 unfold maxLen at hm
 have HA := Lib.hid hA
 clear hA
 go_enter Tryz.func187, Tryz.ntmps187
 go_wp2
 go_loop [9] (fun i => ∃ k : Nat, k ≤ xs.length ∧ i = .int .i64 k ∧ x ∉ xs.take k) (fun i => xs.length - (intOf i).toNat)
 case atStart => exact ⟨0, Nat.zero_le _, rfl, by simp⟩
 case round =>
  obtain ⟨k, hk, rfl, hno⟩ := hrel
  have Hno := Lib.hid hno
  clear hno
  by_cases hlt : k < xs.length
  ·obtain ⟨y, hy⟩ := getx xs k hlt
   obtain ⟨b, off, rfl, hcell⟩ := HA.out k y hy
   have Hy := Lib.hid hy
   clear hy
   by_cases hxy : y = x
   ·subst hxy
    go_wp2
    go_ret
    exact ⟨ret_true (by unfold hasB; simpa using List.mem_of_getElem? Hy.out), rfl⟩
   ·go_wp2
    go_round
    case rel =>
     refine ⟨k + 1, by omega, by simp, ?_⟩
     rw [take_snoc Hy.out]
     simp only [List.mem_append, List.mem_singleton, not_or]
     exact ⟨Hno.out, fun e => hxy e.symm⟩
    case measure => simp [intOf]; omega
  ·go_wp2
   go_ret
   have := Hno.out
   rw [take_all xs hlt] at this
   exact ⟨ret_false (by unfold hasB; simpa using this), rfl⟩
theorem IntS.take {w : World} {A : Option Addr} {c : Nat} {xs : List Int} (h : IntS w (.slice A xs.length c) xs) (k : Nat) (hk : k ≤ xs.length) : IntS w (.slice A k c) (xs.take k) := by
 obtain ⟨A', c', hv, hlc, hm, hA⟩ := h
 cases hv
 refine ⟨A, c, by simp [Nat.min_eq_left hk], by simp; omega, hm, fun j x hx => ?_⟩
 have hj : j < k := by have := lt_of_get hx; simp at this; omega
 rw [List.getElem?_take, if_pos hj] at hx
 exact hA j x hx
set_option maxHeartbeats 2000000 in
theorem neIds_any (v : Value) (ids : List Int) (nodes : Int) (w : World) (h : IntS w v ids) : Calls Tryz.prog 132 #[v, .int .i64 nodes] w fun e w' => e = .returned (.bool (sIdsB ids nodes)) ∧ w = w' := by
 have H := Lib.hid h
 obtain ⟨A, c, rfl, hlc, hm, hA⟩ := h
 unfold maxLen at hm
 have HA := Lib.hid hA
 clear hA
 go_enter Tryz.func132, Tryz.ntmps132
 go_wp2
 go_loop [9] (fun i => ∃ k : Nat, k ≤ ids.length ∧ i = .int .i64 k ∧ ∀ j, j < k → inB 1 999999 (ids.getD j 0) = true ∧ hasB (ids.take j) (ids.getD j 0) = false) (fun i => ids.length - (intOf i).toNat)
 case atStart => exact ⟨0, Nat.zero_le _, rfl, fun j hj => by omega⟩
 case round =>
  obtain ⟨k, hk, rfl, hno⟩ := hrel
  have Hno := Lib.hid hno
  clear hno
  by_cases hlt : k < ids.length
  ·obtain ⟨y, hy⟩ := getx ids k hlt
   obtain ⟨b, off, rfl, hcell⟩ := HA.out k y hy
   have hgy : ids.getD k 0 = y := by simp [hy]
   have Hg := Lib.hid hgy
   clear hy hgy
   cases hi : inB 1 999999 y
   ·go_wp2_with (go_at_call 75; refine (l1In_b _ _ _ _).mono ?_; rintro e w' ⟨rfl, rfl⟩)
    go_ret
    refine ⟨ret_false ?_, rfl⟩
    unfold sIdsB
    rw [Bool.and_eq_false_iff]
    left
    rw [List.all_eq_false]
    exact ⟨k, List.mem_range.2 hlt, by rw [Hg.out, hi]; simp⟩
   ·cases hc : hasB (ids.take k) y
    ·go_wp2_with (first | (go_at_call 75; refine (l1In_b _ _ _ _).mono ?_; rintro e w' ⟨rfl, rfl⟩) | (go_at_call 187; refine (l1Has_any _ (ids.take k) y _ (H.out.take k hk)).mono ?_; rintro e w' ⟨rfl, rfl⟩))
     go_round
     case rel =>
      refine ⟨k + 1, by omega, by simp, fun j hj => ?_⟩
      rcases Nat.lt_or_ge j k with h | h
      ·exact Hno.out j h
      ·obtain rfl : j = k := by omega
       rw [Hg.out]; exact ⟨hi, hc⟩
     case measure => simp [intOf]; omega
    ·go_wp2_with (first | (go_at_call 75; refine (l1In_b _ _ _ _).mono ?_; rintro e w' ⟨rfl, rfl⟩) | (go_at_call 187; refine (l1Has_any _ (ids.take k) y _ (H.out.take k hk)).mono ?_; rintro e w' ⟨rfl, rfl⟩))
     go_ret
     refine ⟨ret_false ?_, rfl⟩
     unfold sIdsB
     rw [Bool.and_eq_false_iff]
     left
     rw [List.all_eq_false]
     exact ⟨k, List.mem_range.2 hlt, by rw [Hg.out, hi]; unfold hasB at hc; rw [hc]; simp⟩
  ·have hall : Hid (sIdsB ids nodes = ((ids.length : Int) == 0 || (ids.length : Int) == nodes)) := by
    show _ = _
    unfold sIdsB
    rw [show ((List.range ids.length).all fun i => inB 1 999999 (ids.getD i 0) && !((ids.take i).contains (ids.getD i 0))) = true from List.all_eq_true.2 (fun j hj => by
     have := Hno.out j (by have := List.mem_range.1 hj; omega)
     unfold hasB at this
     rw [this.1, this.2]; rfl), Bool.true_and]
   by_cases h0 : (ids.length : Int) = 0
   ·go_wp2
    go_ret
    exact ⟨ret_true (by rw [hall.out]; simp [h0]), rfl⟩
   ·have hne : ¬ ids = [] := fun e => h0 (by simp [e])
    go_wp2
    go_ret
    refine ⟨ret_bool ?_, rfl⟩
    rw [hall.out, show ((ids.length : Int) == 0) = false by simpa using h0, Bool.false_or]
end Go.Proofs.YtgmdpppljkmabaaGreat
namespace Go.Proofs.YtgmdpppljkmabaaGreat
open Go Go.RowKit
@[simp ↓] theorem run_neq_end (a b c d : Int) (w : World) : (binOp .neq 83 (.agg #[.int .i64 a, .int .i64 b]) (.agg #[.int .i64 c, .int .i64 d])).run Tryz.prog w = .ok (.bool (!eqE (a, b) (c, d))) w := by
 go_simp
 by_cases f1 : a = c
 ·by_cases f2 : b = d
  ·simp [f1, f2, eqE]
  ·simp [f1, f2, eqE]
 ·simp [f1, eqE]
@[simp ↓] theorem run_eql_end (a b c d : Int) (w : World) : (binOp .eql 83 (.agg #[.int .i64 a, .int .i64 b]) (.agg #[.int .i64 c, .int .i64 d])).run Tryz.prog w = .ok (.bool (eqE (a, b) (c, d))) w := by
 go_simp
 by_cases f1 : a = c
 ·by_cases f2 : b = d
  ·simp [f1, f2, eqE]
  ·simp [f1, f2, eqE]
 ·simp [f1, eqE]
theorem NetIn.es {w : World} {a b c : Value} {n : Net} (h : NetIn w a b c n) : EndSS w a n.ends := h.1
theorem NetIn.is {w : World} {a b c : Value} {n : Net} (h : NetIn w a b c n) : IntS w b n.ids := h.2.1
theorem NetIn.ns {w : World} {a b c : Value} {n : Net} (h : NetIn w a b c n) : IntS w c n.inputs := h.2.2
theorem end_zero (ev : Operand → Value) (d : Option Tmp) (ty : TypeId) (pos : String) (af : Array Edge) (W : World) : (execOp ev ⟨d, .alloc 83, ty, pos, af, none⟩).run Tryz.prog W = .ok (.value (ptr W.heap.size)) (W.alloc (.cells #[.int .i64 0, .int .i64 0] 83)) := by
 unfold ptr
 go_simp
theorem end_store (ev : Operand → Value) (ty : TypeId) (pos : String) (af : Array Edge) (W : World) (p x : Operand) (b : Nat) (q1 q2 : Value) (y1 y2 : Int) (h1 : ev p = ptr b) (h2 : ev x = .agg #[.int .i64 y1, .int .i64 y2]) (h3 : W.cell? ⟨b, 0, none⟩ = some q1) (h4 : W.cell? ⟨b, 1, none⟩ = some q2) (h5 : W.frozen? ⟨b, 0, none⟩ = false) (h6 : W.frozen? ⟨b, 1, none⟩ = false) :
  (execOp ev ⟨none, .store 83 p x, ty, pos, af, none⟩).run Tryz.prog W = .ok .skip ((W.setCell ⟨b, 0, none⟩ (.int .i64 y1)).setCell ⟨b, 1, none⟩ (.int .i64 y2)) := by
 unfold ptr at h1
 go_simp
theorem wr64 (z : Int) (h : -9223372036854775808 ≤ z) (h2 : z ≤ 9223372036854775807) : IntKind.i64.wrap z = z := IntWalk.i64_in z ⟨h, h2⟩
end Go.Proofs.YtgmdpppljkmabaaGreat
namespace Go.Proofs.YtgmdpppljkmabaaGreat
open Go.RowKit
set_option maxHeartbeats 2000000 in
theorem neGood_any (ve vi vn : Value) (n : Net) (w : World) (h : NetIn w ve vi vn n) :
  Calls Tryz.prog 55 #[.agg #[ve, vi, vn]] w fun e w' => e = .returned (.bool (netOk n)) ∧ Below w.heap.size w w' := by
 obtain ⟨w0, hw0⟩ : ∃ w0, w0 = w.alloc (.cells #[ve, vi, vn] 27) := ⟨_, rfl⟩
 have hb0 : Below w.heap.size w w0 := by rw [hw0]; exact below_alloc _ _
 have H := Lib.hid (h.keep hb0)
 obtain ⟨h1, h2, h3⟩ := h.keep hb0
 obtain ⟨A, c, rfl, hlc, hm, hA⟩ := h1
 obtain ⟨A2, c2, rfl, _, hm2, _⟩ := h2
 obtain ⟨A3, c3, rfl, _, hm3, _⟩ := h3
 unfold maxLen at hm hm2 hm3
 have p0 : ∀ W, Since w0 W → W.cell? ⟨w.heap.size, 0, none⟩ = some (.slice A n.ends.length c) := fun W hW => bc hW (by rw [hw0]; simp)
 have p1 : ∀ W, Since w0 W → W.cell? ⟨w.heap.size, 1, none⟩ = some (.slice A2 n.ids.length c2) := fun W hW => bc hW (by rw [hw0]; simp)
 have p2 : ∀ W, Since w0 W → W.cell? ⟨w.heap.size, 2, none⟩ = some (.slice A3 n.inputs.length c3) := fun W hW => bc hW (by rw [hw0]; simp)
 have Hb0 := Lib.hid hb0
 have HA := Lib.hid hA
 have Hw0 := Lib.hid hw0
 clear hb0 hA h hw0
 go_enter Tryz.func55, Tryz.ntmps55
 go_upto_region 1 with (fail)
 rw [← Hw0.out]
 refine wp_region_flow0 29 (Since w0) (since_refl _) ?_
 simp only [List.take_succ_cons, List.take_zero, List.drop_succ_cons, List.drop_zero]
 refine flow_val (v := ?_) rfl ?_ ?_; rotate_left; (intro W hW; go_simp; with_reducible rfl)
 simp only [zA]
 refine flow_val (v := ?_) rfl ?_ ?_; rotate_left; (intro W hW; go_simp; with_reducible rfl)
 simp only [zA]
 refine flow_val (v := ?_) rfl ?_ ?_; rotate_left; (intro W hW; go_simp; with_reducible rfl)
 simp only [zA]
 refine flow_op ?_ rfl ?_ ?_; rotate_left; (intro W hW; unfold Gives; go_simp; (with_reducible refine (l1In_b _ _ _ W).mono ?_); rintro e W' ⟨rfl, hb3⟩; first | (refine ⟨?_, Since.trans hW hb3⟩; with_reducible rfl) | (subst hb3; refine ⟨?_, hW⟩; with_reducible rfl))
 simp only [zA]
 refine flow_val (v := ?_) rfl ?_ ?_; rotate_left; (intro W hW; go_simp; with_reducible rfl)
 simp only [zA]
 refine flow_val (v := ?_) rfl ?_ ?_; rotate_left; (intro W hW; go_simp; with_reducible rfl)
 simp only [zA]
 refine flow_gval (v := ?_) rfl rfl ?_ ?_; rotate_left; (intro hb; intro W hW; go_simp; with_reducible rfl)
 simp only [zA]
 refine flow_gval (v := ?_) rfl rfl ?_ ?_; rotate_left; (intro hb; intro W hW; go_simp; with_reducible rfl)
 simp only [zA]
 refine flow_gval (v := ?_) rfl rfl ?_ ?_; rotate_left; (intro hb; intro W hW; go_simp; with_reducible rfl)
 simp only [zA]
 refine flow_gval (v := ?_) rfl rfl ?_ ?_; rotate_left; (intro hb; intro W hW; go_simp; with_reducible rfl)
 simp only [zA]
 refine flow_gval (v := ?_) rfl rfl ?_ ?_; rotate_left; (intro hb; intro W hW; go_simp; with_reducible rfl)
 simp only [zA]
 refine flow_gop (v := ?_) rfl rfl ?_ ?_; rotate_left; (intro hb; intro W hW; unfold Gives; go_simp; (with_reducible refine (neIds_any _ n.ids _ W (H.out.is.keep hW.below)).mono ?_); rintro e W' ⟨rfl, hb3⟩; first | (refine ⟨?_, Since.trans hW hb3⟩; with_reducible rfl) | (subst hb3; refine ⟨?_, hW⟩; with_reducible rfl))
 simp only [zA]
 refine flow_gval (v := ?_) rfl rfl ?_ ?_; rotate_left; (intro hb; intro W hW; go_simp; with_reducible rfl)
 simp only [zA]
 first | refine flow_or rfl rfl ?_ | (refine flow_val (v := ?_) rfl ?_ ?_; rotate_left; (intro W hW; go_simp; with_reducible rfl))
 simp only [zA]
 refine flow_val (v := ?_) rfl ?_ ?_; rotate_left; (intro W hW; go_simp; with_reducible rfl)
 simp only [zA]
 refine flow_gval (v := ?_) rfl rfl ?_ ?_; rotate_left; (intro hb; intro W hW; go_simp; with_reducible rfl)
 simp only [zA]
 refine flow_gval (v := ?_) rfl rfl ?_ ?_; rotate_left; (intro hb; intro W hW; go_simp; with_reducible rfl)
 simp only [zA]
 refine flow_gval (v := ?_) rfl rfl ?_ ?_; rotate_left; (intro hb; intro W hW; go_simp; with_reducible rfl)
 simp only [zA]
 refine flow_gval (v := ?_) rfl rfl ?_ ?_; rotate_left; (intro hb; intro W hW; go_simp; with_reducible rfl)
 simp only [zA]
 refine flow_gval (v := ?_) rfl rfl ?_ ?_; rotate_left; (intro hb; intro W hW; go_simp; with_reducible rfl)
 simp only [zA]
 refine flow_gval (v := ?_) rfl rfl ?_ ?_; rotate_left; (intro hb; intro W hW; go_simp; with_reducible rfl)
 simp only [zA]
 refine flow_gval (v := ?_) rfl rfl ?_ ?_; rotate_left; (intro hb; intro W hW; go_simp; with_reducible rfl)
 simp only [zA]
 first | refine flow_or rfl rfl ?_ | (refine flow_val (v := ?_) rfl ?_ ?_; rotate_left; (intro W hW; go_simp; with_reducible rfl))
 simp only [zA]
 refine flow_val (v := ?_) rfl ?_ ?_; rotate_left; (intro W hW; go_simp; with_reducible rfl)
 simp only [zA]
 refine flow_gval (v := ?_) rfl rfl ?_ ?_; rotate_left; (intro hb; intro W hW; go_simp; with_reducible rfl)
 simp only [zA]
 refine flow_gval (v := ?_) rfl rfl ?_ ?_; rotate_left; (intro hb; intro W hW; go_simp; with_reducible rfl)
 simp only [zA]
 refine flow_gop (v := ?_) rfl rfl ?_ ?_; rotate_left; (intro hb; intro W hW; unfold Gives; go_simp; (with_reducible refine (l1All_any _ n.inputs _ _ W (H.out.ns.keep hW.below)).mono ?_); rintro e W' ⟨rfl, hb3⟩; first | (refine ⟨?_, Since.trans hW hb3⟩; with_reducible rfl) | (subst hb3; refine ⟨?_, hW⟩; with_reducible rfl))
 simp only [zA]
 refine flow_gval (v := ?_) rfl rfl ?_ ?_; rotate_left; (intro hb; intro W hW; go_simp; with_reducible rfl)
 simp only [zA]
 first | refine flow_or rfl rfl ?_ | (refine flow_val (v := ?_) rfl ?_ ?_; rotate_left; (intro W hW; go_simp; with_reducible rfl))
 simp only [zA]
 intro W hW
 cases hg : (!inB 1 40 (n.ends.length : Int) || !sIdsB n.ids n.ends.length || ((n.inputs.length : Int) != n.ends.length) || !n.inputs.all (inB 0 9))
 ·have hr := Lib.hid (show netOk n = (List.range n.ends.length).all fun v => rowOkB n.ends v (n.ends.getD v []) by
   simp only [Bool.or_eq_false_iff, Bool.not_eq_false', bne_eq_false_iff_eq] at hg
   simp [netOk, hg, ← sIds_eq, inputsB])
  have Hg := Lib.hid hg
  have HW := Lib.hid hW
  clear hg
  go_wp2
  go_loopw [39] (fun i wr => ∃ k : Nat, k ≤ n.ends.length ∧ i = .int .i64 k ∧ ((List.range k).all fun v => rowOkB n.ends v (n.ends.getD v [])) = true ∧ Since w0 wr) (fun i _ => n.ends.length - (intOf i).toNat)
  case atStart => exact ⟨0, Nat.zero_le _, rfl, rfl, HW.out⟩
  case round =>
   obtain ⟨k, hk, rfl, hall, hbr⟩ := hrel
   have Hall := Lib.hid hall
   clear hall hW
   by_cases hlt : k < n.ends.length
   ·obtain ⟨es, hes⟩ := getx n.ends k hlt
    obtain ⟨b, off, u, rfl, hc1, hrow⟩ := HA.out k es hes
    have hc2 := have_cell hc1
    obtain ⟨A1, z1, rfl, hz1, hz2, hA1⟩ := hrow
    have HA1 := Lib.hid hA1
    unfold maxLen at hz2
    have Hes := Lib.hid hes
    clear hes hc1 hA1
    by_cases h6 : es.length ≤ 6
    ·go_wp2
     obtain ⟨wo, rfl⟩ : ∃ wo : World, wo = wr := ⟨_, rfl⟩
     go_loopw [49] (fun i wq => ∃ j : Nat, j ≤ es.length ∧ i = .int .i64 j ∧ ((List.range j).all fun i => endOkB n.ends k i (es.getD i (0, 0))) = true ∧ Since w0 wq) (fun i _ => es.length - (intOf i).toNat)
     case atStart => exact ⟨0, Nat.zero_le _, rfl, rfl, hbr⟩
     case round =>
      obtain ⟨j, hj, rfl, hall2, hbq⟩ := hrel
      have Hall2 := Lib.hid hall2
      clear hall2 hbr
      by_cases hlt2 : j < es.length
      ·obtain ⟨⟨x1, x2⟩, he⟩ := getx es j hlt2
       obtain ⟨b1, off1, rfl, hd1, hd2⟩ := HA1.out j _ he
       have q1 := have_cell hd1
       have q2 := have_cell hd2
       have He := Lib.hid he
       clear he hd1 hd2
       have hsw : w.heap.size < wr.heap.size := World.block_lt_of_cell? wr _ (p0 wr hbq)
       go_wp2
       obtain ⟨w1, hw1⟩ : ∃ w1, (wr.alloc (Obj.cells #[Value.int IntKind.i64 x1, Value.int IntKind.i64 x2] 83)) = w1 := ⟨_, rfl⟩
       rw [hw1]
       have hs1 : Since w0 w1 := by rw [← hw1]; exact since_alloc _ hbq
       have r0 := lift_cell p0 hs1
       have r3 : ∀ W, Since w1 W → W.cell? ⟨wr.heap.size, 0, none⟩ = some (.int .i64 x1) := have_cell (by rw [← hw1]; simp)
       have r4 : ∀ W, Since w1 W → W.cell? ⟨wr.heap.size, 1, none⟩ = some (.int .i64 x2) := have_cell (by rw [← hw1]; simp)
       have Hs1 := Lib.hid hs1
       have HP := Lib.hid (And.intro p0 (And.intro p1 p2))
       have HQ := Lib.hid (And.intro hc2 (And.intro q1 q2))
       have Hbq := Lib.hid hbq
       clear hw1 hs1 p0 p1 p2 hc2 q1 q2 hbq
       by_cases hx1 : inB 0 ((n.ends.length : Int) - 1) x1 = true
       ·obtain ⟨p3, p4⟩ := inB_iff.1 hx1
        obtain ⟨k1, rfl⟩ := Int.eq_ofNat_of_zero_le p3
        have hk1 : k1 < n.ends.length := by omega
        obtain ⟨es1, hes1⟩ := getx n.ends k1 hk1
        obtain ⟨b2, off2, u', hA', hc3, hrow'⟩ := HA.out k1 es1 hes1
        injection hA' with hA'
        injection hA' with q3 q4
        subst q3 q4
        obtain ⟨A1', z1', rfl, hz1', hz2', hA1'⟩ := hrow'
        unfold maxLen at hz2'
        have r5 := lift_cell (have_cell hc3) Hs1.out
        have Hes1 := Lib.hid hes1
        have HA1' := Lib.hid hA1'
        clear hes1 hc3 hA1'
        by_cases hx2 : inB 0 ((es1.length : Int) - 1) x2 = true
        ·obtain ⟨p5, p6⟩ := inB_iff.1 hx2
         obtain ⟨i1, rfl⟩ := Int.eq_ofNat_of_zero_le p5
         have hi1 : i1 < es1.length := by omega
         obtain ⟨⟨y1, y2⟩, hy⟩ := getx es1 i1 hi1
         obtain ⟨b3, off3, rfl, hc5, hc6⟩ := HA1'.out i1 _ hy
         have r6 := lift_cell (have_cell hc5) Hs1.out
         have r7 := lift_cell (have_cell hc6) Hs1.out
         have Hy := Lib.hid hy
         have Hx := Lib.hid (And.intro hx1 hx2)
         clear hy hc5 hc6 hx1 hx2
         have m1 : IntKind.i64.wrap ((n.ends.length : Int) - 1) = n.ends.length - 1 := wr64 _ (by omega) (by omega)
         have m2 : IntKind.i64.wrap ((es1.length : Int) - 1) = es1.length - 1 := wr64 _ (by omega) (by omega)
         refine wp_region_flow 38 (Since w1) (by kernel_rfl) (by kernel_rfl) (by simp) (since_drew (since_refl _)) ?_
         simp only [List.take_succ_cons, List.take_zero, List.drop_succ_cons, List.drop_zero]
         refine flow_val (v := ?_) rfl ?_ ?_; rotate_left; (intro W hW; go_simp; with_reducible rfl)
         simp only [zA]
         refine flow_val (v := ?_) rfl ?_ ?_; rotate_left; (intro W hW; go_simp; with_reducible rfl)
         simp only [zA]
         refine flow_val (v := ?_) rfl ?_ ?_; rotate_left; (intro W hW; go_simp; with_reducible rfl)
         simp only [zA]
         refine flow_val (v := ?_) rfl ?_ ?_; rotate_left; (intro W hW; go_simp; with_reducible rfl)
         simp only [zA]
         refine flow_val (v := ?_) rfl ?_ ?_; rotate_left; (intro W hW; go_simp; with_reducible rfl)
         simp only [zA]
         refine flow_val (v := ?_) rfl ?_ ?_; rotate_left; (intro W hW; go_simp; with_reducible rfl)
         simp only [zA]
         refine flow_op ?_ rfl ?_ ?_; rotate_left; (intro W hW; unfold Gives; go_simp; (with_reducible refine (l1In_b _ _ _ W).mono ?_); rintro e W' ⟨rfl, hb3⟩; first | (refine ⟨?_, Since.trans hW hb3⟩; with_reducible rfl) | (subst hb3; refine ⟨?_, hW⟩; with_reducible rfl))
         simp only [zA]
         refine flow_val (v := ?_) rfl ?_ ?_; rotate_left; (intro W hW; go_simp; with_reducible rfl)
         simp only [zA]
         refine flow_val (v := ?_) rfl ?_ ?_; rotate_left; (intro W hW; go_simp; with_reducible rfl)
         simp only [zA]
         refine flow_gval (v := ?_) rfl rfl ?_ ?_; rotate_left; (intro hb; intro W hW; go_simp; with_reducible rfl)
         simp only [zA]
         refine flow_gval (v := ?_) rfl rfl ?_ ?_; rotate_left; (intro hb; intro W hW; go_simp; with_reducible rfl)
         simp only [zA]
         refine flow_gval (v := ?_) rfl rfl ?_ ?_; rotate_left; (intro hb; intro W hW; go_simp; with_reducible rfl)
         simp only [zA]
         refine flow_gval (v := ?_) rfl rfl ?_ ?_; rotate_left; (intro hb; intro W hW; go_simp; with_reducible rfl)
         simp only [zA]
         refine flow_gval (v := ?_) rfl rfl ?_ ?_; rotate_left; (intro hb; intro W hW; go_simp; with_reducible rfl)
         simp only [zA]
         refine flow_gval (v := ?_) rfl rfl ?_ ?_; rotate_left; (intro hb; intro W hW; go_simp; with_reducible rfl)
         simp only [zA]
         refine flow_gval (v := ?_) rfl rfl ?_ ?_; rotate_left; (intro hb; intro W hW; go_simp; with_reducible rfl)
         simp only [zA]
         refine flow_gval (v := ?_) rfl rfl ?_ ?_; rotate_left; (intro hb; intro W hW; go_simp; with_reducible rfl)
         simp only [zA]
         refine flow_gval (v := ?_) rfl rfl ?_ ?_; rotate_left; (intro hb; intro W hW; go_simp; with_reducible rfl)
         simp only [zA]
         refine flow_gval (v := ?_) rfl rfl ?_ ?_; rotate_left; (intro hb; intro W hW; go_simp; with_reducible rfl)
         simp only [zA]
         refine flow_gop (v := ?_) rfl rfl ?_ ?_; rotate_left; (intro hb; intro W hW; unfold Gives; go_simp; (with_reducible refine (l1In_b _ _ _ W).mono ?_); rintro e W' ⟨rfl, hb3⟩; first | (refine ⟨?_, Since.trans hW hb3⟩; with_reducible rfl) | (subst hb3; refine ⟨?_, hW⟩; with_reducible rfl))
         simp only [zA]
         refine flow_gval (v := ?_) rfl rfl ?_ ?_; rotate_left; (intro hb; intro W hW; go_simp; with_reducible rfl)
         simp only [zA]
         first | refine flow_or rfl rfl ?_ | (refine flow_val (v := ?_) rfl ?_ ?_; rotate_left; (intro W hW; go_simp; with_reducible rfl))
         simp only [zA]
         refine flow_val (v := ?_) rfl ?_ ?_; rotate_left; (intro W hW; go_simp; with_reducible rfl)
         simp only [zA]
         refine flow_gval (v := ?_) rfl rfl ?_ ?_; rotate_left; (intro hb; intro W hW; go_simp; with_reducible rfl)
         simp only [zA]
         refine flow_gval (v := ?_) rfl rfl ?_ ?_; rotate_left; (intro hb; intro W hW; go_simp; with_reducible rfl)
         simp only [zA]
         refine flow_gval (v := ?_) rfl rfl ?_ ?_; rotate_left; (intro hb; intro W hW; go_simp; with_reducible rfl)
         simp only [zA]
         refine flow_gval (v := ?_) rfl rfl ?_ ?_; rotate_left; (intro hb; intro W hW; go_simp; with_reducible rfl)
         simp only [zA]
         refine flow_gval (v := ?_) rfl rfl ?_ ?_; rotate_left; (intro hb; intro W hW; go_simp; with_reducible rfl)
         simp only [zA]
         refine flow_gval (v := ?_) rfl rfl ?_ ?_; rotate_left; (intro hb; intro W hW; go_simp; with_reducible rfl)
         simp only [zA]
         refine flow_gval (v := ?_) rfl rfl ?_ ?_; rotate_left; (intro hb; intro W hW; go_simp; with_reducible rfl)
         simp only [zA]
         refine flow_gval (v := ?_) rfl rfl ?_ ?_; rotate_left; (intro hb; intro W hW; go_simp; with_reducible rfl)
         simp only [zA]
         refine flow_gval (v := ?_) rfl rfl ?_ ?_; rotate_left; (intro hb; intro W hW; go_simp; with_reducible rfl)
         simp only [zA]
         refine flow_gval (v := ?_) rfl rfl ?_ ?_; rotate_left; (intro hb; intro W hW; go_simp; with_reducible rfl)
         simp only [zA]
         refine flow_gval (v := ?_) rfl rfl ?_ ?_; rotate_left; (intro hb; intro W hW; go_simp; with_reducible rfl)
         simp only [zA]
         refine flow_gval (v := ?_) rfl rfl ?_ ?_; rotate_left; (intro hb; intro W hW; go_simp; with_reducible rfl)
         simp only [zA]
         refine flow_gval (v := ?_) rfl rfl ?_ ?_; rotate_left; (intro hb; intro W hW; go_simp; with_reducible rfl)
         simp only [zA]
         refine flow_gval (v := ?_) rfl rfl ?_ ?_; rotate_left; (intro hb; intro W hW; go_simp; with_reducible rfl)
         simp only [zA]
         first | refine flow_or rfl rfl ?_ | (refine flow_val (v := ?_) rfl ?_ ?_; rotate_left; (intro W hW; go_simp; with_reducible rfl))
         simp only [zA]
         intro W2 hW2
         have HW2 := Lib.hid hW2
         rw [Hx.out.1, Hx.out.2]
         cases hq : eqE (y1, y2) ((k : Int), (j : Int))
         all_goals
          have Hq := Lib.hid hq
          clear hq hW2 m1 m2
          go_wp2
         ·go_ret
          exact ⟨ret_false (by rw [hr.out]; refine range_all_stop hlt ?_; rw [getD_of Hes.out]; simp only [rowOkB]; rw [Bool.and_eq_false_iff]; exact .inr (range_all_stop hlt2 (by rw [getD_of He.out]; simp [endOkB, Hes1.out, Hy.out, Hq.out]))), Since.after Hb0.out (Hs1.out.after HW2.out)⟩
         ·go_roundw
          case rel => exact ⟨j + 1, by omega, by go_num, by rw [range_all_succ, Hall2.out, getD_of He.out]; simp [endOkB, hasPortB, Hx.out.1, Hx.out.2, Hes1.out, Hy.out, Hq.out], Hs1.out.after HW2.out⟩
          case measure => simp [intOf]; omega
        ·have hx2' : inB 0 ((es1.length : Int) - 1) x2 = false := by simpa using hx2
         have Hx := Lib.hid (And.intro hx1 hx2')
         clear hx1 hx2
         have m1 : IntKind.i64.wrap ((n.ends.length : Int) - 1) = n.ends.length - 1 := wr64 _ (by omega) (by omega)
         have m2 : IntKind.i64.wrap ((es1.length : Int) - 1) = es1.length - 1 := wr64 _ (by omega) (by omega)
         refine wp_region_flow 38 (Since w1) (by kernel_rfl) (by kernel_rfl) (by simp) (since_drew (since_refl _)) ?_
         simp only [List.take_succ_cons, List.take_zero, List.drop_succ_cons, List.drop_zero]
         refine flow_val (v := ?_) rfl ?_ ?_; rotate_left; (intro W hW; go_simp; with_reducible rfl)
         simp only [zA]
         refine flow_val (v := ?_) rfl ?_ ?_; rotate_left; (intro W hW; go_simp; with_reducible rfl)
         simp only [zA]
         refine flow_val (v := ?_) rfl ?_ ?_; rotate_left; (intro W hW; go_simp; with_reducible rfl)
         simp only [zA]
         refine flow_val (v := ?_) rfl ?_ ?_; rotate_left; (intro W hW; go_simp; with_reducible rfl)
         simp only [zA]
         refine flow_val (v := ?_) rfl ?_ ?_; rotate_left; (intro W hW; go_simp; with_reducible rfl)
         simp only [zA]
         refine flow_val (v := ?_) rfl ?_ ?_; rotate_left; (intro W hW; go_simp; with_reducible rfl)
         simp only [zA]
         refine flow_op ?_ rfl ?_ ?_; rotate_left; (intro W hW; unfold Gives; go_simp; (with_reducible refine (l1In_b _ _ _ W).mono ?_); rintro e W' ⟨rfl, hb3⟩; first | (refine ⟨?_, Since.trans hW hb3⟩; with_reducible rfl) | (subst hb3; refine ⟨?_, hW⟩; with_reducible rfl))
         simp only [zA]
         refine flow_val (v := ?_) rfl ?_ ?_; rotate_left; (intro W hW; go_simp; with_reducible rfl)
         simp only [zA]
         refine flow_val (v := ?_) rfl ?_ ?_; rotate_left; (intro W hW; go_simp; with_reducible rfl)
         simp only [zA]
         refine flow_gval (v := ?_) rfl rfl ?_ ?_; rotate_left; (intro hb; intro W hW; go_simp; with_reducible rfl)
         simp only [zA]
         refine flow_gval (v := ?_) rfl rfl ?_ ?_; rotate_left; (intro hb; intro W hW; go_simp; with_reducible rfl)
         simp only [zA]
         refine flow_gval (v := ?_) rfl rfl ?_ ?_; rotate_left; (intro hb; intro W hW; go_simp; with_reducible rfl)
         simp only [zA]
         refine flow_gval (v := ?_) rfl rfl ?_ ?_; rotate_left; (intro hb; intro W hW; go_simp; with_reducible rfl)
         simp only [zA]
         refine flow_gval (v := ?_) rfl rfl ?_ ?_; rotate_left; (intro hb; intro W hW; go_simp; with_reducible rfl)
         simp only [zA]
         refine flow_gval (v := ?_) rfl rfl ?_ ?_; rotate_left; (intro hb; intro W hW; go_simp; with_reducible rfl)
         simp only [zA]
         refine flow_gval (v := ?_) rfl rfl ?_ ?_; rotate_left; (intro hb; intro W hW; go_simp; with_reducible rfl)
         simp only [zA]
         refine flow_gval (v := ?_) rfl rfl ?_ ?_; rotate_left; (intro hb; intro W hW; go_simp; with_reducible rfl)
         simp only [zA]
         refine flow_gval (v := ?_) rfl rfl ?_ ?_; rotate_left; (intro hb; intro W hW; go_simp; with_reducible rfl)
         simp only [zA]
         refine flow_gval (v := ?_) rfl rfl ?_ ?_; rotate_left; (intro hb; intro W hW; go_simp; with_reducible rfl)
         simp only [zA]
         refine flow_gop (v := ?_) rfl rfl ?_ ?_; rotate_left; (intro hb; intro W hW; unfold Gives; go_simp; (with_reducible refine (l1In_b _ _ _ W).mono ?_); rintro e W' ⟨rfl, hb3⟩; first | (refine ⟨?_, Since.trans hW hb3⟩; with_reducible rfl) | (subst hb3; refine ⟨?_, hW⟩; with_reducible rfl))
         simp only [zA]
         refine flow_gval (v := ?_) rfl rfl ?_ ?_; rotate_left; (intro hb; intro W hW; go_simp; with_reducible rfl)
         simp only [zA]
         first | refine flow_or rfl rfl ?_ | (refine flow_val (v := ?_) rfl ?_ ?_; rotate_left; (intro W hW; go_simp; with_reducible rfl))
         simp only [zA]
         refine flow_val (v := ?_) rfl ?_ ?_; rotate_left; (intro W hW; go_simp; with_reducible rfl)
         simp only [zA]
         refine flow_dead rfl rfl (by simp [*]) ?_
         simp only [zA]
         refine flow_dead rfl rfl (by simp [*]) ?_
         simp only [zA]
         refine flow_dead rfl rfl (by simp [*]) ?_
         simp only [zA]
         refine flow_dead rfl rfl (by simp [*]) ?_
         simp only [zA]
         refine flow_dead rfl rfl (by simp [*]) ?_
         simp only [zA]
         refine flow_dead rfl rfl (by simp [*]) ?_
         simp only [zA]
         refine flow_dead rfl rfl (by simp [*]) ?_
         simp only [zA]
         refine flow_dead rfl rfl (by simp [*]) ?_
         simp only [zA]
         refine flow_dead rfl rfl (by simp [*]) ?_
         simp only [zA]
         refine flow_dead rfl rfl (by simp [*]) ?_
         simp only [zA]
         refine flow_dead rfl rfl (by simp [*]) ?_
         simp only [zA]
         refine flow_dead rfl rfl (by simp [*]) ?_
         simp only [zA]
         refine flow_dead rfl rfl (by simp [*]) ?_
         simp only [zA]
         refine flow_dead rfl rfl (by simp [*]) ?_
         simp only [zA]
         first | refine flow_or rfl rfl ?_ | (refine flow_val (v := ?_) rfl ?_ ?_; rotate_left; (intro W hW; go_simp; with_reducible rfl))
         simp only [zA]
         intro W2 hW2
         have HW2 := Lib.hid hW2
         rw [Hx.out.1, Hx.out.2]
         clear hx2' hW2 m1 m2
         go_wp2
         go_ret
         exact ⟨ret_false (by rw [hr.out]; refine range_all_stop hlt ?_; rw [getD_of Hes.out]; simp only [rowOkB]; rw [Bool.and_eq_false_iff]; exact .inr (range_all_stop hlt2 (by rw [getD_of He.out]; simp [endOkB, hasPortB, Hes1.out, Hx.out.2]))), Since.after Hb0.out (Hs1.out.after HW2.out)⟩
       ·have hx1' : inB 0 ((n.ends.length : Int) - 1) x1 = false := by simpa using hx1
        have Hx := Lib.hid hx1'
        clear hx1
        have m1 : IntKind.i64.wrap ((n.ends.length : Int) - 1) = n.ends.length - 1 := wr64 _ (by omega) (by omega)
        refine wp_region_flow 38 (Since w1) (by kernel_rfl) (by kernel_rfl) (by simp) (since_drew (since_refl _)) ?_
        simp only [List.take_succ_cons, List.take_zero, List.drop_succ_cons, List.drop_zero]
        refine flow_val (v := ?_) rfl ?_ ?_; rotate_left; (intro W hW; go_simp; with_reducible rfl)
        simp only [zA]
        refine flow_val (v := ?_) rfl ?_ ?_; rotate_left; (intro W hW; go_simp; with_reducible rfl)
        simp only [zA]
        refine flow_val (v := ?_) rfl ?_ ?_; rotate_left; (intro W hW; go_simp; with_reducible rfl)
        simp only [zA]
        refine flow_val (v := ?_) rfl ?_ ?_; rotate_left; (intro W hW; go_simp; with_reducible rfl)
        simp only [zA]
        refine flow_val (v := ?_) rfl ?_ ?_; rotate_left; (intro W hW; go_simp; with_reducible rfl)
        simp only [zA]
        refine flow_val (v := ?_) rfl ?_ ?_; rotate_left; (intro W hW; go_simp; with_reducible rfl)
        simp only [zA]
        refine flow_op ?_ rfl ?_ ?_; rotate_left; (intro W hW; unfold Gives; go_simp; (with_reducible refine (l1In_b _ _ _ W).mono ?_); rintro e W' ⟨rfl, hb3⟩; first | (refine ⟨?_, Since.trans hW hb3⟩; with_reducible rfl) | (subst hb3; refine ⟨?_, hW⟩; with_reducible rfl))
        simp only [zA]
        refine flow_val (v := ?_) rfl ?_ ?_; rotate_left; (intro W hW; go_simp; with_reducible rfl)
        simp only [zA]
        refine flow_val (v := ?_) rfl ?_ ?_; rotate_left; (intro W hW; go_simp; with_reducible rfl)
        simp only [zA]
        refine flow_dead rfl rfl (by simp [*]) ?_
        simp only [zA]
        refine flow_dead rfl rfl (by simp [*]) ?_
        simp only [zA]
        refine flow_dead rfl rfl (by simp [*]) ?_
        simp only [zA]
        refine flow_dead rfl rfl (by simp [*]) ?_
        simp only [zA]
        refine flow_dead rfl rfl (by simp [*]) ?_
        simp only [zA]
        refine flow_dead rfl rfl (by simp [*]) ?_
        simp only [zA]
        refine flow_dead rfl rfl (by simp [*]) ?_
        simp only [zA]
        refine flow_dead rfl rfl (by simp [*]) ?_
        simp only [zA]
        refine flow_dead rfl rfl (by simp [*]) ?_
        simp only [zA]
        refine flow_dead rfl rfl (by simp [*]) ?_
        simp only [zA]
        refine flow_dead rfl rfl (by simp [*]) ?_
        simp only [zA]
        refine flow_dead rfl rfl (by simp [*]) ?_
        simp only [zA]
        first | refine flow_or rfl rfl ?_ | (refine flow_val (v := ?_) rfl ?_ ?_; rotate_left; (intro W hW; go_simp; with_reducible rfl))
        simp only [zA]
        refine flow_val (v := ?_) rfl ?_ ?_; rotate_left; (intro W hW; go_simp; with_reducible rfl)
        simp only [zA]
        refine flow_dead rfl rfl (by simp [*]) ?_
        simp only [zA]
        refine flow_dead rfl rfl (by simp [*]) ?_
        simp only [zA]
        refine flow_dead rfl rfl (by simp [*]) ?_
        simp only [zA]
        refine flow_dead rfl rfl (by simp [*]) ?_
        simp only [zA]
        refine flow_dead rfl rfl (by simp [*]) ?_
        simp only [zA]
        refine flow_dead rfl rfl (by simp [*]) ?_
        simp only [zA]
        refine flow_dead rfl rfl (by simp [*]) ?_
        simp only [zA]
        refine flow_dead rfl rfl (by simp [*]) ?_
        simp only [zA]
        refine flow_dead rfl rfl (by simp [*]) ?_
        simp only [zA]
        refine flow_dead rfl rfl (by simp [*]) ?_
        simp only [zA]
        refine flow_dead rfl rfl (by simp [*]) ?_
        simp only [zA]
        refine flow_dead rfl rfl (by simp [*]) ?_
        simp only [zA]
        refine flow_dead rfl rfl (by simp [*]) ?_
        simp only [zA]
        refine flow_dead rfl rfl (by simp [*]) ?_
        simp only [zA]
        first | refine flow_or rfl rfl ?_ | (refine flow_val (v := ?_) rfl ?_ ?_; rotate_left; (intro W hW; go_simp; with_reducible rfl))
        simp only [zA]
        intro W2 hW2
        have HW2 := Lib.hid hW2
        rw [Hx.out]
        clear hx1' hW2 m1
        go_wp2
        go_ret
        exact ⟨ret_false (by rw [hr.out]; refine range_all_stop hlt ?_; rw [getD_of Hes.out]; simp only [rowOkB]; rw [Bool.and_eq_false_iff]; exact .inr (range_all_stop hlt2 (by rw [getD_of He.out]; simp [endOkB, hasPortB, Hx.out]))), Since.after Hb0.out (Hs1.out.after HW2.out)⟩
      ·obtain rfl : j = es.length := by omega
       go_wp2
       go_roundw
       case rel => exact ⟨k + 1, by omega, by go_num, by rw [range_all_succ, Hall.out, getD_of Hes.out, Bool.true_and]; unfold rowOkB; rw [Hall2.out]; simp [h6], hbq⟩
       case measure => simp [intOf]; omega
    ·go_wp2
     go_ret
     exact ⟨ret_false (by rw [hr.out]; exact range_all_stop hlt (by rw [getD_of Hes.out]; simp [rowOkB, h6])), Since.after Hb0.out hbr⟩
   ·obtain rfl : k = n.ends.length := by omega
    go_wp2
    go_ret
    exact ⟨ret_true (by rw [hr.out]; exact Hall.out), Since.after Hb0.out hbr⟩
 ·have hr := Lib.hid (show netOk n = false by
   simp only [Bool.or_eq_true, Bool.not_eq_true', bne_iff_ne, ne_eq] at hg
   rcases hg with ((hg | hg) | hg) | hg <;> simp [netOk, hg, ← sIds_eq, inputsB])
  have Hg := Lib.hid hg
  have HW := Lib.hid hW
  clear hg
  go_wp2
  go_ret
  exact ⟨ret_false hr.out, Since.after Hb0.out HW.out⟩
end Go.Proofs.YtgmdpppljkmabaaGreat
namespace Go.Proofs.YtgmdpppljkmabaaGreat
open Go.RowKit
def endAt (ess : List (List (Int × Int))) (v i : Int) : Int × Int := (ess.getD v.toNat []).getD i.toNat (0, 0)
theorem port_at {w : World} {v : Value} {ess : List (List (Int × Int))} {x y : Int} (h : EndSS w v ess) (hp : hasPortB ess x y = true) :
  ∃ (k j b off c b1 off1 z : Nat) (es : List (Int × Int)) (y1 y2 : Int), x = (k : Int) ∧ y = (j : Int) ∧ v = .slice (some ⟨b, off, none⟩) ess.length c ∧ k < ess.length ∧ ess[k]? = some es ∧ j < es.length ∧ es[j]? = some (y1, y2) ∧ endAt ess x y = (y1, y2) ∧
   es.length ≤ z ∧ z ≤ 9223372036854775807 ∧ w.cell? ⟨b, off + k, none⟩ = some (.slice (some ⟨b1, off1, none⟩) es.length z) ∧ w.cell? ⟨b1, off1 + j * 2, none⟩ = some (.int .i64 y1) ∧ w.cell? ⟨b1, off1 + j * 2 + 1, none⟩ = some (.int .i64 y2) := by
 obtain ⟨A, c, rfl, hlc, hm, hA⟩ := h
 unfold hasPortB at hp
 rw [Bool.and_eq_true] at hp
 obtain ⟨p1, p2⟩ := hp
 obtain ⟨p3, p4⟩ := inB_iff.1 p1
 obtain ⟨k, rfl⟩ := Int.eq_ofNat_of_zero_le p3
 have hk : k < ess.length := by omega
 obtain ⟨es, hes⟩ := getx ess k hk
 rw [Int.toNat_natCast, getD_of hes] at p2
 obtain ⟨p5, p6⟩ := inB_iff.1 p2
 obtain ⟨j, rfl⟩ := Int.eq_ofNat_of_zero_le p5
 have hj : j < es.length := by omega
 obtain ⟨⟨y1, y2⟩, hy⟩ := getx es j hj
 obtain ⟨b, off, u, rfl, hc, hrow⟩ := hA k es hes
 obtain ⟨A1, z, rfl, hz1, hz2, hA1⟩ := hrow
 obtain ⟨b1, off1, rfl, hc1, hc2⟩ := hA1 j _ hy
 unfold maxLen at hz2
 exact ⟨k, j, b, off, c, b1, off1, z, es, y1, y2, rfl, rfl, rfl, hk, hes, hj, hy, by simp [endAt, hes, hy], hz1, by omega, hc, hc1, hc2⟩
theorem lab_at {w : World} {v : Value} {ls : List Int} (h : IntS w v ls) {x : Int} (h0 : 0 ≤ x) (h1 : x < ls.length) :
  ∃ (k b off c : Nat) (y : Int), x = (k : Int) ∧ v = .slice (some ⟨b, off, none⟩) ls.length c ∧ k < ls.length ∧ ls[k]? = some y ∧ ls.getD x.toNat 0 = y ∧ w.cell? ⟨b, off + k, none⟩ = some (.int .i64 y) := by
 obtain ⟨k, rfl⟩ := Int.eq_ofNat_of_zero_le h0
 have hk : k < ls.length := by omega
 obtain ⟨y, hy⟩ := getx ls k hk
 obtain ⟨A, c, rfl, _, _, hA⟩ := h
 obtain ⟨b, off, rfl, hc⟩ := hA k y hy
 exact ⟨k, b, off, c, y, rfl, rfl, hk, hy, by simp [hy], hc⟩
theorem netOk_end {n : Net} (h : netOk n = true) {v i : Int} (hp : hasPortB n.ends v i = true) :
  hasPortB n.ends (endAt n.ends v i).1 (endAt n.ends v i).2 = true ∧ endAt n.ends (endAt n.ends v i).1 (endAt n.ends v i).2 = (v, i) := by
 unfold hasPortB at hp
 rw [Bool.and_eq_true] at hp
 obtain ⟨p1, p2⟩ := hp
 obtain ⟨p3, p4⟩ := inB_iff.1 p1
 obtain ⟨k, rfl⟩ := Int.eq_ofNat_of_zero_le p3
 have hk : k < n.ends.length := by omega
 obtain ⟨es, hes⟩ := getx n.ends k hk
 rw [Int.toNat_natCast, getD_of hes] at p2
 obtain ⟨p5, p6⟩ := inB_iff.1 p2
 obtain ⟨j, rfl⟩ := Int.eq_ofNat_of_zero_le p5
 have hj : j < es.length := by omega
 obtain ⟨⟨y1, y2⟩, hy⟩ := getx es j hj
 have e : endAt n.ends (k : Int) (j : Int) = (y1, y2) := by simp [endAt, hes, hy]
 rw [e]
 unfold netOk at h
 rw [Bool.and_eq_true, List.all_eq_true] at h
 have := h.2 k (List.mem_range.2 hk)
 rw [getD_of hes] at this
 unfold rowOkB at this
 rw [Bool.and_eq_true, List.all_eq_true] at this
 have := this.2 j (List.mem_range.2 hj)
 rw [getD_of hy] at this
 unfold endOkB at this
 rw [Bool.and_eq_true] at this
 exact ⟨this.1, by simpa [eqE, endAt] using this.2⟩
theorem netOk_len {n : Net} (h : netOk n = true) : 1 ≤ n.ends.length ∧ n.ends.length ≤ 40 := by
 unfold netOk at h
 simp only [Bool.and_eq_true] at h
 have := inB_iff.1 h.1.1.1
 omega
theorem hasPort_lt {ess : List (List (Int × Int))} {v i : Int} (hp : hasPortB ess v i = true) : 0 ≤ v ∧ v < ess.length := by
 unfold hasPortB at hp
 rw [Bool.and_eq_true] at hp
 have := inB_iff.1 hp.1
 omega
def mayB (ess : List (List (Int × Int))) (p q : Int × Int) : Bool := !eqE p q && !eqE (endAt ess p.1 p.2) q && !eqE (endAt ess p.1 p.2) p && !eqE (endAt ess q.1 q.2) q
def hidB (ess : List (List (Int × Int))) (ls : List Int) (p q : Int × Int) : Bool :=
 mayB ess p q && p.2 == q.2 && (endAt ess p.1 p.2).2 == (endAt ess q.1 q.2).2 && ls.getD p.1.toNat 0 == ls.getD q.1.toNat 0 && ls.getD (endAt ess p.1 p.2).1.toNat 0 == ls.getD (endAt ess q.1 q.2).1.toNat 0
end Go.Proofs.YtgmdpppljkmabaaGreat
namespace Go.Proofs.YtgmdpppljkmabaaGreat
open Go.RowKit
set_option maxHeartbeats 2000000 in
theorem nePort_any (ve vi vn : Value) (n : Net) (v i : Int) (w : World) (h : NetIn w ve vi vn n) :
  Calls Tryz.prog 63 #[.agg #[ve, vi, vn], .int .i64 v, .int .i64 i] w fun e w' => e = .returned (.bool (netOk n && hasPortB n.ends v i)) ∧ Below w.heap.size w w' := by
 obtain ⟨w0, hw0⟩ : ∃ w0, w0 = (w).alloc (.cells #[ve, vi, vn] 27) := ⟨_, rfl⟩
 have hb0 : Below w.heap.size w w0 := by rw [hw0]; exact ((Below.refl _ _).alloc (by simp) _)
 have H := Lib.hid (h.keep hb0)
 obtain ⟨h1, h2, h3⟩ := h.keep hb0
 obtain ⟨A, c, rfl, hlc, hm, hA⟩ := h1
 obtain ⟨A2, c2, rfl, _, hm2, _⟩ := h2
 obtain ⟨A3, c3, rfl, _, hm3, _⟩ := h3
 unfold maxLen at hm hm2 hm3
 have p00 : ∀ W, Since w0 W → W.cell? ⟨w.heap.size, 0, none⟩ = some (.slice A n.ends.length c) := have_cell (by rw [hw0]; simp)
 have p01 : ∀ W, Since w0 W → W.cell? ⟨w.heap.size, 1, none⟩ = some (.slice A2 n.ids.length c2) := have_cell (by rw [hw0]; simp)
 have p02 : ∀ W, Since w0 W → W.cell? ⟨w.heap.size, 2, none⟩ = some (.slice A3 n.inputs.length c3) := have_cell (by rw [hw0]; simp)
 have Hb0 := Lib.hid hb0
 have Hw0 := Lib.hid hw0
 have HA := Lib.hid hA
 clear hA h
 clear hb0 hw0
 cases hv : inB 0 ((n.ends.length : Int) - 1) v
 ·have hr := Lib.hid (show (netOk n && hasPortB n.ends v i) = false by simp [hasPortB, hv])
  have m1 : IntKind.i64.wrap ((n.ends.length : Int) - 1) = n.ends.length - 1 := wr64 _ (by omega) (by omega)
  go_enter Tryz.func63, Tryz.ntmps63
  go_upto_region 1 with (fail)
  rw [← Hw0.out]
  refine wp_region_flow0 22 (Since w0) (since_refl _) ?_
  simp only [List.take_succ_cons, List.take_zero, List.drop_succ_cons, List.drop_zero]
  refine flow_val (v := ?_) rfl ?_ ?_; rotate_left; (intro W hW; go_simp; with_reducible rfl)
  simp only [zA]
  refine flow_op ?_ rfl ?_ ?_; rotate_left; (intro W hW; unfold Gives; go_simp; (with_reducible refine (neGood_any _ _ _ n W (H.out.keep hW.below)).mono ?_); rintro e W' ⟨rfl, hb3⟩; first | (refine ⟨?_, Since.trans hW hb3⟩; with_reducible rfl) | (subst hb3; refine ⟨?_, hW⟩; with_reducible rfl))
  simp only [zA]
  refine flow_val (v := ?_) rfl ?_ ?_; rotate_left; (intro W hW; go_simp; with_reducible rfl)
  simp only [zA]
  refine flow_gval (v := ?_) rfl rfl ?_ ?_; rotate_left; (intro hb; intro W hW; go_simp; with_reducible rfl)
  simp only [zA]
  refine flow_gval (v := ?_) rfl rfl ?_ ?_; rotate_left; (intro hb; intro W hW; go_simp; with_reducible rfl)
  simp only [zA]
  refine flow_gval (v := ?_) rfl rfl ?_ ?_; rotate_left; (intro hb; intro W hW; go_simp; with_reducible rfl)
  simp only [zA]
  refine flow_gval (v := ?_) rfl rfl ?_ ?_; rotate_left; (intro hb; intro W hW; go_simp; with_reducible rfl)
  simp only [zA]
  refine flow_gval (v := ?_) rfl rfl ?_ ?_; rotate_left; (intro hb; intro W hW; go_simp; with_reducible rfl)
  simp only [zA]
  refine flow_gop (v := ?_) rfl rfl ?_ ?_; rotate_left; (intro hb; intro W hW; unfold Gives; go_simp; (with_reducible refine (l1In_b _ _ _ W).mono ?_); rintro e W' ⟨rfl, hb3⟩; first | (refine ⟨?_, Since.trans hW hb3⟩; with_reducible rfl) | (subst hb3; refine ⟨?_, hW⟩; with_reducible rfl))
  simp only [zA]
  first | refine flow_and rfl rfl ?_ | (refine flow_val (v := ?_) rfl ?_ ?_; rotate_left; (intro W hW; go_simp; with_reducible rfl))
  simp only [zA]
  refine flow_val (v := ?_) rfl ?_ ?_; rotate_left; (intro W hW; go_simp; with_reducible rfl)
  simp only [zA]
  refine flow_dead rfl rfl (by simp [*]) ?_
  simp only [zA]
  refine flow_dead rfl rfl (by simp [*]) ?_
  simp only [zA]
  refine flow_dead rfl rfl (by simp [*]) ?_
  simp only [zA]
  refine flow_dead rfl rfl (by simp [*]) ?_
  simp only [zA]
  refine flow_dead rfl rfl (by simp [*]) ?_
  simp only [zA]
  refine flow_dead rfl rfl (by simp [*]) ?_
  simp only [zA]
  refine flow_dead rfl rfl (by simp [*]) ?_
  simp only [zA]
  refine flow_dead rfl rfl (by simp [*]) ?_
  simp only [zA]
  refine flow_dead rfl rfl (by simp [*]) ?_
  simp only [zA]
  first | refine flow_and rfl rfl ?_ | (refine flow_val (v := ?_) rfl ?_ ?_; rotate_left; (intro W hW; go_simp; with_reducible rfl))
  simp only [zA]
  refine flow_val (v := ?_) rfl ?_ ?_; rotate_left; (intro W hW; go_simp; with_reducible rfl)
  simp only [zA]
  intro W hW
  have HW := Lib.hid hW
  clear hW m1
  go_wp2
  go_ret
  exact ⟨ret_bool (by rw [hr.out]), Since.after Hb0.out HW.out⟩
 ·obtain ⟨p3, p4⟩ := inB_iff.1 hv
  obtain ⟨k, rfl⟩ := Int.eq_ofNat_of_zero_le p3
  have hk : k < n.ends.length := by omega
  obtain ⟨es, hes⟩ := getx n.ends k hk
  obtain ⟨b, off, u, rfl, hc3, hrow⟩ := HA.out k es hes
  obtain ⟨A1, z1, rfl, hz1, hz2, _⟩ := hrow
  unfold maxLen at hz2
  have r5 := have_cell hc3
  have hr := Lib.hid (show (netOk n && hasPortB n.ends k i) = (netOk n && inB 0 ((n.ends.length : Int) - 1) k && inB 0 ((es.length : Int) - 1) i) by simp [hasPortB, hes, Bool.and_assoc])
  have m1 : IntKind.i64.wrap ((n.ends.length : Int) - 1) = n.ends.length - 1 := wr64 _ (by omega) (by omega)
  have m2 : IntKind.i64.wrap ((es.length : Int) - 1) = es.length - 1 := wr64 _ (by omega) (by omega)
  have Hv := Lib.hid hv
  clear hes hc3 hv
  go_enter Tryz.func63, Tryz.ntmps63
  go_upto_region 1 with (fail)
  rw [← Hw0.out]
  refine wp_region_flow0 22 (Since w0) (since_refl _) ?_
  simp only [List.take_succ_cons, List.take_zero, List.drop_succ_cons, List.drop_zero]
  refine flow_val (v := ?_) rfl ?_ ?_; rotate_left; (intro W hW; go_simp; with_reducible rfl)
  simp only [zA]
  refine flow_op ?_ rfl ?_ ?_; rotate_left; (intro W hW; unfold Gives; go_simp; (with_reducible refine (neGood_any _ _ _ n W (H.out.keep hW.below)).mono ?_); rintro e W' ⟨rfl, hb3⟩; first | (refine ⟨?_, Since.trans hW hb3⟩; with_reducible rfl) | (subst hb3; refine ⟨?_, hW⟩; with_reducible rfl))
  simp only [zA]
  refine flow_val (v := ?_) rfl ?_ ?_; rotate_left; (intro W hW; go_simp; with_reducible rfl)
  simp only [zA]
  refine flow_gval (v := ?_) rfl rfl ?_ ?_; rotate_left; (intro hb; intro W hW; go_simp; with_reducible rfl)
  simp only [zA]
  refine flow_gval (v := ?_) rfl rfl ?_ ?_; rotate_left; (intro hb; intro W hW; go_simp; with_reducible rfl)
  simp only [zA]
  refine flow_gval (v := ?_) rfl rfl ?_ ?_; rotate_left; (intro hb; intro W hW; go_simp; with_reducible rfl)
  simp only [zA]
  refine flow_gval (v := ?_) rfl rfl ?_ ?_; rotate_left; (intro hb; intro W hW; go_simp; with_reducible rfl)
  simp only [zA]
  refine flow_gval (v := ?_) rfl rfl ?_ ?_; rotate_left; (intro hb; intro W hW; go_simp; with_reducible rfl)
  simp only [zA]
  refine flow_gop (v := ?_) rfl rfl ?_ ?_; rotate_left; (intro hb; intro W hW; unfold Gives; go_simp; (with_reducible refine (l1In_b _ _ _ W).mono ?_); rintro e W' ⟨rfl, hb3⟩; first | (refine ⟨?_, Since.trans hW hb3⟩; with_reducible rfl) | (subst hb3; refine ⟨?_, hW⟩; with_reducible rfl))
  simp only [zA]
  first | refine flow_and rfl rfl ?_ | (refine flow_val (v := ?_) rfl ?_ ?_; rotate_left; (intro W hW; go_simp; with_reducible rfl))
  simp only [zA]
  refine flow_val (v := ?_) rfl ?_ ?_; rotate_left; (intro W hW; go_simp; with_reducible rfl)
  simp only [zA]
  refine flow_gval (v := ?_) rfl rfl ?_ ?_; rotate_left; (intro hb; intro W hW; go_simp; with_reducible rfl)
  simp only [zA]
  refine flow_gval (v := ?_) rfl rfl ?_ ?_; rotate_left; (intro hb; intro W hW; go_simp; with_reducible rfl)
  simp only [zA]
  refine flow_gval (v := ?_) rfl rfl ?_ ?_; rotate_left; (intro hb; intro W hW; go_simp; with_reducible rfl)
  simp only [zA]
  refine flow_gval (v := ?_) rfl rfl ?_ ?_; rotate_left; (intro hb; intro W hW; go_simp; with_reducible rfl)
  simp only [zA]
  refine flow_gval (v := ?_) rfl rfl ?_ ?_; rotate_left; (intro hb; intro W hW; go_simp; with_reducible rfl)
  simp only [zA]
  refine flow_gval (v := ?_) rfl rfl ?_ ?_; rotate_left; (intro hb; intro W hW; go_simp; with_reducible rfl)
  simp only [zA]
  refine flow_gval (v := ?_) rfl rfl ?_ ?_; rotate_left; (intro hb; intro W hW; go_simp; with_reducible rfl)
  simp only [zA]
  refine flow_gval (v := ?_) rfl rfl ?_ ?_; rotate_left; (intro hb; intro W hW; go_simp; with_reducible rfl)
  simp only [zA]
  refine flow_gop (v := ?_) rfl rfl ?_ ?_; rotate_left; (intro hb; intro W hW; unfold Gives; go_simp; (with_reducible refine (l1In_b _ _ _ W).mono ?_); rintro e W' ⟨rfl, hb3⟩; first | (refine ⟨?_, Since.trans hW hb3⟩; with_reducible rfl) | (subst hb3; refine ⟨?_, hW⟩; with_reducible rfl))
  simp only [zA]
  first | refine flow_and rfl rfl ?_ | (refine flow_val (v := ?_) rfl ?_ ?_; rotate_left; (intro W hW; go_simp; with_reducible rfl))
  simp only [zA]
  refine flow_val (v := ?_) rfl ?_ ?_; rotate_left; (intro W hW; go_simp; with_reducible rfl)
  simp only [zA]
  intro W hW
  have HW := Lib.hid hW
  clear hW m1 m2
  go_wp2
  go_ret
  exact ⟨ret_bool (by rw [hr.out]), Since.after Hb0.out HW.out⟩
def nePortB (n : Net) (v i : Int) : Bool := netOk n && hasPortB n.ends v i
theorem nePort_b (ve vi vn : Value) (n : Net) (v i : Int) (w : World) (h : NetIn w ve vi vn n) :
  Calls Tryz.prog 63 #[.agg #[ve, vi, vn], .int .i64 v, .int .i64 i] w fun e w' => e = .returned (.bool (nePortB n v i)) ∧ Below w.heap.size w w' := nePort_any ve vi vn n v i w h
end Go.Proofs.YtgmdpppljkmabaaGreat
