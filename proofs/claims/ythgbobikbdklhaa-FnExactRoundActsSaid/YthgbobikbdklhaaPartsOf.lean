import Derived.Test.YthgbobikbdklhaaFuncs
import Derived.RangeFuncNested
import Derived.RangeFuncBound
import Derived.RangeFuncCalls
import Derived.RangeFuncLeaves
import Derived.RangeFuncBox
import Derived.Shelf.Abstract
import Derived.Shelf.RegionOpen
import Derived.OwnWalkIn
import Derived.TacticsInMore
import Derived.LoopNIn
import Derived.LoopIn
import Derived.Test.YthgbobikbdklhaaParts
import Derived.Test.YthgbobikbdklhaaSorts
namespace Go.Proofs.Ythgbobikbdklhaa
open Go.RowKit Go.Shelf
attribute [local go_sem] Oper.semAt_some
def uptoL {α : Type} (f : Nat → α) (k : Nat) : List α := (List.range k).map f
theorem uptoL_succ {α : Type} (f : Nat → α) (k : Nat) : uptoL f (k + 1) = uptoL f k ++ [f k] := by simp [uptoL, List.range_succ]
theorem uptoL_length {α : Type} (f : Nat → α) (k : Nat) : (uptoL f k).length = k := by simp [uptoL]
/-- what a round keeps: the blocks from lo to hi -/
def KeepMid (lo hi : Nat) (W W' : World) : Prop := W.heap.size ≤ W'.heap.size ∧ ∀ k, lo ≤ k → k < hi → W'.heap[k]? = W.heap[k]?
theorem KeepMid.t {lo hi : Nat} {A B C : World} (h : KeepMid lo hi A B) (k : KeepMid lo hi B C) : KeepMid lo hi A C := ⟨Nat.le_trans h.1 k.1, fun i h1 h2 => (k.2 i h1 h2).trans (h.2 i h1 h2)⟩
theorem KeepMid.refl (lo hi : Nat) (W : World) : KeepMid lo hi W W := ⟨Nat.le_refl _, fun _ _ _ => rfl⟩
theorem KeepMid.b {lo hi : Nat} {w : World} (hh : hi ≤ w.heap.size) (W : World) (l : Nat) (o o' : Obj) (hl : w.heap.size ≤ l) (_ : W.heap[l]? = some o) (_ : o.isCells = false) (_ : o.isWalk = false) : KeepMid lo hi W (W.putObj l o') :=
  ⟨(grownBy_putObj' W l o').size, fun k _ hk => by
    rcases Nat.lt_or_ge k W.heap.size with h | h
    · exact (grownBy_putObj' W l o').block k h (fun e => by cases e; omega)
    · exact World.putObj_heap_other (fun e => by omega)⟩
theorem KeepMid.cell {lo hi : Nat} {W W' : World} (h : KeepMid lo hi W W') {a : Addr} {u : Value} (h1 : lo ≤ a.block) (h2 : a.block < hi) (hc : W.cell? a = some u) : W'.cell? a = some u :=
  (World.cell?_of_block (h.2 a.block h1 h2)).trans hc
/-- a range and where it stands -/
abbrev Rng := { x : Nat × Int // 1 ≤ x.2 ∧ x.2 ≤ 100 }
def encR (x : Rng) : Array Value := #[.int .i64 (x.1.1 : Int), .int .i64 x.1.2]
end Go.Proofs.Ythgbobikbdklhaa
namespace Go.Proofs.Ythgbobikbdklhaa
open Go.RowKit Go.Shelf
attribute [local go_sem] Oper.semAt_some
/-- what is left of a label, and the parts that were split off -/
def pDiv (l : Int) (rs : List Int) : Int := rs.foldl (fun l r => l / r) l
def pRem (l : Int) : List Int → List Int
  | [] => []
  | r :: rs => (l % r) :: pRem (l / r) rs
theorem pDiv_snoc (l : Int) (rs : List Int) (r : Int) : pDiv l (rs ++ [r]) = pDiv l rs / r := by simp [pDiv]
theorem pRem_snoc (l : Int) (rs : List Int) (r : Int) : pRem l (rs ++ [r]) = pRem l rs ++ [pDiv l rs % r] := by
  induction rs generalizing l with
  | nil => simp [pRem, pDiv]
  | cons x rs ih => simp [pRem, ih, pDiv]
theorem pRem_len (l : Int) (rs : List Int) : (pRem l rs).length = rs.length := by
  induction rs generalizing l with
  | nil => rfl
  | cons x rs ih => simp [pRem, ih]
theorem pDiv_bd (l : Int) (rs : List Int) (h0 : 0 ≤ l) (hr : ∀ r ∈ rs, 1 ≤ r) : 0 ≤ pDiv l rs ∧ pDiv l rs ≤ l := by
  induction rs generalizing l with
  | nil => simp [pDiv, h0]
  | cons x rs ih =>
    have hx := hr x (by simp)
    have h1 : 0 ≤ l / x := Int.ediv_nonneg h0 (by omega)
    have h2 : l / x ≤ l := Int.ediv_le_self _ h0
    have := ih (l / x) h1 (fun r hr' => hr r (by simp [hr']))
    exact ⟨this.1, Int.le_trans this.2 h2⟩
def vals (pre : List Rng) : List Int := pre.map fun x => x.1.2
theorem vals_snoc (pre : List Rng) (x : Rng) : vals (pre ++ [x]) = vals pre ++ [x.1.2] := by simp [vals]
theorem vals_pos (pre : List Rng) : ∀ r ∈ vals pre, 1 ≤ r := by
  intro r hr
  obtain ⟨x, _, rfl⟩ := List.mem_map.1 hr
  exact x.2.1
theorem vals_len (pre : List Rng) : (vals pre).length = pre.length := by simp [vals]
/-- between two rounds -/
def PInv (l : Int) (b0 N1 : Nat) (w : World) (pre : List Rng) (W : World) : Prop :=
  Boxed W b0 3 (.int .i64 (pDiv l (vals pre))) ∧ (∃ v, Boxed W (b0 + 1) 23 v ∧ Own W N1 v (pRem l (vals pre))) ∧ Below b0 w W ∧ N1 ≤ W.heap.size
theorem pinv_own (l : Int) (b0 N1 : Nat) (w : World) (hb : b0 ≤ w.heap.size) (B : Nat) (hB : b0 ≤ B) : OwnFrom B (PInv l b0 N1 w) := by
  refine OwnFrom.and (_root_.Go.Own.from (boxed_own b0 3 (fun pre : List Rng => .int .i64 (pDiv l (vals pre)))) _) (OwnFrom.and ?_ (OwnFrom.and (ownFrom_below hb hB) (fun _ _ _ _ hs hg _ => Nat.le_trans hs hg.size)))
  have := _root_.Go.Own.from (holdsRow_own (β := List Rng) N1 (b0 + 1) 23 3 1 (fun pre => (pRem l (vals pre)).length) (fun pre => (pRem l (vals pre)).map (Value.int .i64)) (fun _ _ => True)) B
  intro s W W' row hs hg hr
  obtain ⟨v, h1, h2⟩ := hs
  obtain ⟨v', h1', h2', _⟩ := this s W W' row ⟨v, h1, h2, trivial⟩ hg hr
  exact ⟨v', h1', h2'⟩
theorem own_putObj {W : World} {base : Nat} {v : Value} {xs : List Int} (h : Own W base v xs) {D : Nat} {o : Obj} (o' : Obj) (hD : W.heap[D]? = some o) (ho : o.isCells = false) : Own (W.putObj D o') base v xs := ownsRow_putObj h o' hD ho
/-- append(v, x), x in the new block a -/
theorem app1 {w : World} {base : Nat} {v : Value} {xs : List Int} (h : Own w base v xs) (x : Int) (ty : TypeId) (b : Nat) (hc : w.cell? ⟨b, 0, none⟩ = some (.int .i64 x)) (hl : xs.length + 1 ≤ 17592186044416) (hb : base ≤ w.heap.size) :
    ∃ g c w', (Builtin.append_ #[23, 23] ty #[v, .slice (some ⟨b, 0, none⟩) 1 1]).run Try.prog w = .ok (.slice (some ⟨g, 0, none⟩) (xs.length + 1) c) w' ∧ Own w' base (.slice (some ⟨g, 0, none⟩) (xs.length + 1) c) (xs ++ [x]) ∧ w.grownBy w' v.ownBlock ∧ (some g = v.ownBlock ∨ g = w.heap.size) := by
  obtain ⟨i0, hi, hz0, hz1, hz2⟩ := info_parts int_info
  obtain ⟨v', w', hrun, h2, h3, _, h5⟩ := run_append_own_at (P := Try.prog) w base 23 ty 3 i0 (.int .i64 0) 1 8 Try.underlying23 hi hz0 hz1 hz2 rfl (by decide) v xs.length (xs.map (Value.int .i64)) h ⟨b, 0, none⟩ 1 1 [.int .i64 x] rfl
    (by intro j u hj; match j, hj with | 0, hj => (simp at hj; subst hj; simpa [Addr.add] using hc) | j + 1, hj => simp at hj) (by simp [Value.oneCell']) (by unfold maxLen; omega) (by omega) hb
  obtain ⟨g, c, rfl⟩ := ownsRow_succ h2
  refine ⟨g, c, w', hrun, ?_, h3, ?_⟩
  · unfold Own
    simpa using h2
  · rcases h5 with h5 | h5
    · exact .inl (by simpa [Value.ownBlock] using h5)
    · exact .inr (by simpa [Value.ownBlock] using h5)
/-- what append answers, veiled -/
def AppRes (P : Program) (ty : TypeId) (v s : Value) (w : World) : Result Next := ((Builtin.append_ #[23, 23] ty #[v, s]).run P w).andThen fun v' w' => .ok (.value v') w'
theorem veil_app (ro : Option Nat) (ρ : Operand → Value) (dst : Option Tmp) (s x : Operand) (ty : TypeId) (pos : String) (after : Array Edge) (guard : Option (Nat × Bool)) (w : World) :
    Sem.run Try.prog (Oper.semAt ro ρ { dst := dst, op := Op.call { callee := .builtin .append, args := #[s, x], argTypes := #[23, 23] }, type := ty, pos := pos, after := after, guard := guard }) w = AppRes Try.prog ty (ρ s) (ρ x) w := by
  rw [Oper.semAt_eq _ _ _ (by intro c hc; cases hc)]
  simp [execOp, resolve, invoke, builtin, AppRes]
theorem stepIn_res {F : Fence} {nF : Nat} {Y : Nat → Option Bool} {o : Oper} {a : Act} {w : World} {K : Act → World → Prop} {Q : Exit → Act → World → Prop} {E : Prop} (s x : Operand)
    (hgd : o.guard = none) (ho : o.op = .call { callee := .builtin .append, args := #[s, x], argTypes := #[23, 23] }) (v' : Value) (w' : World)
    (hr : AppRes Try.prog o.type (a.eval s) (a.eval x) w = .ok (.value v') w') (h : K (a.put o.dst v') w') :
    if Region.wanted o Y = true then Oper.wpIn F nF Try.prog o a w K Q else E := by
  rw [if_pos (by simp [Region.wanted, hgd])]
  unfold Oper.wpIn
  refine ⟨by simp [Oper.about, ho, resolve, Target.leads, Sem.run_pure], ?_⟩
  rw [Oper.semAt_plain F _ _ (by rw [ho]; intro c hc'; cases hc')]
  unfold AppRes at hr
  simp only [execOp, ho, resolve, invoke, builtin, Sem.run_bind, Sem.run_pure, Result.andThen_ok, List.map_toArray, List.map_cons, List.map_nil]
  generalize (Builtin.append_ #[23, 23] o.type #[a.eval s, a.eval x]).run Try.prog w = R at hr ⊢
  cases R with
  | ok v1 w1 => simp [Result.andThen] at hr; obtain ⟨rfl, rfl⟩ := hr; exact h
  | halt h1 w1 => simp [Result.andThen] at hr
theorem wpListIn_res {F : Fence} {nF : Nat} {ops : Array Oper} {rest : List Oper} {o : Oper} {a : Act} {w : World} {Q : Exit → Act → World → Prop} (s x : Operand)
    (hgd : o.guard = none) (ho : o.op = .call { callee := .builtin .append, args := #[s, x], argTypes := #[23, 23] }) (v' : Value) (w' : World)
    (hr : AppRes Try.prog o.type (a.eval s) (a.eval x) w = .ok (.value v') w') (h : wpListIn F nF Try.prog ops Q rest (a.put o.dst v') w') : wpListIn F nF Try.prog ops Q (o :: rest) a w := by
  refine wpListIn_plain hgd fun K hK => ?_
  have := stepIn_res (F := F) (nF := nF) (Y := fun _ => none) (o := o) (a := a) (w := w) (K := K) (Q := Q) (E := False) s x hgd ho v' w' hr (hK _ _ h)
  rwa [if_pos (by simp [Region.wanted, hgd])] at this
theorem ranges_pos (s : Int) : ∀ r ∈ rangesL s, 1 ≤ r ∧ r ≤ 100 := by
  intro r hr
  unfold rangesL at hr
  split at hr
  · simp at hr; omega
  · split at hr
    · simp at hr; omega
    · simp at hr
/-- the j-th range -/
def rngAt (s : Int) (j : Nat) : Rng := ⟨(j, if h : j < (rangesL s).length then (rangesL s)[j] else 1), by
  by_cases h : j < (rangesL s).length
  · simp only [h, dif_pos]; exact ranges_pos s _ (List.getElem_mem h)
  · simp [h]⟩
theorem rngAt_spec (s : Int) (j : Nat) (h : j < (rangesL s).length) : (rngAt s j).1.1 = j ∧ (rangesL s)[j]? = some (rngAt s j).1.2 := by
  refine ⟨rfl, ?_⟩
  simp [rngAt, h]
theorem vals_upto (s : Int) : vals (uptoL (fun j => rngAt s ((rangesL s).length - 1 - j)) (rangesL s).length) = (rangesL s).reverse := by
  apply List.ext_getElem
  · simp [vals, uptoL]
  · intro i h1 h2
    have hi : i < (rangesL s).length := by simpa using h2
    simp [vals, uptoL, rngAt, show (rangesL s).length - 1 - i < (rangesL s).length by omega]
theorem len_ranges (s : Int) : (rangesL s).length ≤ 3 := by unfold rangesL; (split; · decide); split <;> decide
theorem pinv_step {l q r : Int} {b0 N1 g' c' : Nat} {w W w2 : World} {pre : List Rng} {x : Rng} {v : Value} {o : Obj} (hr : x.1.2 = r) (hq : pDiv l (vals pre) = q) (hN : b0 + 2 ≤ N1)
    (hb1 : Boxed W b0 3 (.int .i64 q)) (hb2 : Boxed W (b0 + 1) 23 v) (hown : Own W N1 v (pRem l (vals pre))) (hB : Below b0 w W) (hsz : N1 ≤ W.heap.size)
    (hown2 : Own w2 N1 (.slice (some ⟨g', 0, none⟩) ((pRem l (vals pre)).length + 1) c') (pRem l (vals pre) ++ [q % r])) (hgr : (W.alloc o).drew.grownBy w2 v.ownBlock) :
    (Boxed w2 b0 3 (.int .i64 q) ∧ Boxed w2 (b0 + 1) 23 v) ∧ KeepsFrom N1 W ((w2.setCell ⟨b0 + 1, 0, none⟩ (.slice (some ⟨g', 0, none⟩) ((pRem l (vals pre)).length + 1) c')).setCell ⟨b0, 0, none⟩ (.int .i64 (q / r))) ∧
      KeepMid (b0 + 2) N1 W ((w2.setCell ⟨b0 + 1, 0, none⟩ (.slice (some ⟨g', 0, none⟩) ((pRem l (vals pre)).length + 1) c')).setCell ⟨b0, 0, none⟩ (.int .i64 (q / r))) ∧
      PInv l b0 N1 w (pre ++ [x]) ((w2.setCell ⟨b0 + 1, 0, none⟩ (.slice (some ⟨g', 0, none⟩) ((pRem l (vals pre)).length + 1) c')).setCell ⟨b0, 0, none⟩ (.int .i64 (q / r))) := by
  have hlt : ∀ k, v.ownBlock = some k → N1 ≤ k := fun k hk => (World.ownsRow.lt hown k hk).1
  have hne0 : some b0 ≠ v.ownBlock := fun e => by have := hlt b0 e.symm; omega
  have hne1 : some (b0 + 1) ≠ v.ownBlock := fun e => by have := hlt (b0 + 1) e.symm; omega
  have k1 : Boxed w2 b0 3 (.int .i64 q) := (show Boxed (W.alloc o).drew b0 _ _ from hb1.alloc o).kept hgr hne0
  have k2 : Boxed w2 (b0 + 1) 23 v := (show Boxed (W.alloc o).drew (b0 + 1) _ _ from hb2.alloc o).kept hgr hne1
  have hg := hown2.blk
  have k3 := (k2.set (.slice (some ⟨g', 0, none⟩) ((pRem l (vals pre)).length + 1) c'))
  have k4 := (k1.other (show b0 ≠ b0 + 1 by omega) (.slice (some ⟨g', 0, none⟩) ((pRem l (vals pre)).length + 1) c')).set (.int .i64 (q / r))
  have k5 := k3.other (show b0 + 1 ≠ b0 by omega) (.int .i64 (q / r))
  have o3 : Own (w2.setCell ⟨b0 + 1, 0, none⟩ (.slice (some ⟨g', 0, none⟩) ((pRem l (vals pre)).length + 1) c')) N1 (.slice (some ⟨g', 0, none⟩) ((pRem l (vals pre)).length + 1) c') (pRem l (vals pre) ++ [q % r]) :=
    World.ownsRow.kept hown2 (grownBy_setCell' w2 (b0 + 1) _) (.inr (by simp [Value.ownBlock]; omega))
  have o4 : Own ((w2.setCell ⟨b0 + 1, 0, none⟩ (.slice (some ⟨g', 0, none⟩) ((pRem l (vals pre)).length + 1) c')).setCell ⟨b0, 0, none⟩ (.int .i64 (q / r))) N1 (.slice (some ⟨g', 0, none⟩) ((pRem l (vals pre)).length + 1) c') (pRem l (vals pre) ++ [q % r]) :=
    World.ownsRow.kept o3 (grownBy_setCell' _ b0 _) (.inr (by simp [Value.ownBlock]; omega))
  have hblk : ∀ k, k < W.heap.size → k ≠ b0 → k ≠ b0 + 1 → v.ownBlock ≠ some k → ((w2.setCell ⟨b0 + 1, 0, none⟩ (.slice (some ⟨g', 0, none⟩) ((pRem l (vals pre)).length + 1) c')).setCell ⟨b0, 0, none⟩ (.int .i64 (q / r))).heap[k]? = W.heap[k]? := by
    intro k hk h1 h2 h3
    rw [Below.heap_setCell _ _ _ k h1, Below.heap_setCell _ _ _ k h2, hgr.block k (by show k < (W.alloc o).heap.size; simp; omega) (fun e => h3 e.symm)]
    exact Below.heap_alloc W o k hk
  have hsz2 : W.heap.size ≤ ((w2.setCell ⟨b0 + 1, 0, none⟩ (.slice (some ⟨g', 0, none⟩) ((pRem l (vals pre)).length + 1) c')).setCell ⟨b0, 0, none⟩ (.int .i64 (q / r))).heap.size := by
    have := hgr.size
    simp [World.setCell] at *
    omega
  refine ⟨⟨k1, k2⟩, ⟨hsz2, ?_⟩, ⟨hsz2, fun k h1 h2 => hblk k (by omega) (by omega) (by omega) (fun e => by have := hlt k e; omega)⟩, ?_, ⟨_, k5, ?_⟩, ?_, by omega⟩
  · intro k o' hk hko hc
    refine (hblk k (Array.getElem?_eq_some_iff.1 hko).1 (by omega) (by omega) (fun e => ?_)).trans hko
    rcases World.ownsRow.lt hown k e with ⟨_, _⟩
    rcases hown.2 with ⟨rfl, _⟩ | ⟨gg, cap, cur, rfl, _, hgg, _⟩
    · simp [Value.ownBlock] at e
    · simp only [Value.ownBlock, Option.some.injEq] at e
      subst e
      rw [hgg] at hko
      cases hko
      simp [Obj.isCells] at hc
  · rw [vals_snoc, pDiv_snoc, hq, hr]; exact k4
  · rw [vals_snoc, pRem_snoc, hq, hr]; exact o4
  · refine hB.trans ⟨?_, ?_, ?_, hsz2, fun k hk => hblk k (by have := hB.size; omega) (by omega) (by omega) (fun e => by have := hlt k e; omega)⟩
    · exact hgr.os
    · exact hgr.tape
    · exact hgr.output
end Go.Proofs.Ythgbobikbdklhaa
namespace Go.Proofs.Ythgbobikbdklhaa
open Go.RowKit
/-- the parts of a label -/
def partsL (s l : Int) : List Int := pDiv l (rangesL s).reverse :: (pRem l (rangesL s).reverse).reverse
end Go.Proofs.Ythgbobikbdklhaa
