/- Parts of the proof: walks of functions and plain laws. -/
import Derived.Test.YtgmdpppljkmabaaGreatP0
import Derived.RangeFuncNested
import Derived.RangeFuncBound
import Derived.RangeFuncCalls
import Derived.RangeFuncLeaves
import Derived.RangeFuncBox
import Derived.Shelf.Abstract
import Derived.Shelf.RegionOpen
import Derived.OwnWalkIn
import Derived.TacticsInMore
import Derived.LoopNIn
import Derived.LoopIn
import Derived.Test.YtgmdpppljkmabaaGreatP8
import Derived.Test.YtgmdpppljkmabaaGreatP1
namespace Go.Proofs.YtgmdpppljkmabaaGreat
open Go.RowKit Go.Shelf
attribute [local go_sem] Oper.semAt_some
def uptoL {α : Type} (f : Nat → α) (k : Nat) : List α := (List.range k).map f
theorem uptoL_succ {α : Type} (f : Nat → α) (k : Nat) : uptoL f (k + 1) = uptoL f k ++ [f k] := by simp [uptoL, List.range_succ]
theorem uptoL_length {α : Type} (f : Nat → α) (k : Nat) : (uptoL f k).length = k := by simp [uptoL]
def KeepMid (lo hi : Nat) (W W' : World) : Prop := W.heap.size ≤ W'.heap.size ∧ ∀ k, lo ≤ k → k < hi → W'.heap[k]? = W.heap[k]?
theorem KeepMid.t {lo hi : Nat} {A B C : World} (h : KeepMid lo hi A B) (k : KeepMid lo hi B C) : KeepMid lo hi A C := ⟨Nat.le_trans h.1 k.1, fun i h1 h2 => (k.2 i h1 h2).trans (h.2 i h1 h2)⟩
theorem KeepMid.refl (lo hi : Nat) (W : World) : KeepMid lo hi W W := ⟨Nat.le_refl _, fun _ _ _ => rfl⟩
theorem KeepMid.b {lo hi : Nat} {w : World} (hh : hi ≤ w.heap.size) (W : World) (l : Nat) (o o' : Obj) (hl : w.heap.size ≤ l) (_ : W.heap[l]? = some o) (_ : o.isCells = false) (_ : o.isWalk = false) : KeepMid lo hi W (W.putObj l o') :=
 ⟨(grownBy_putObj' W l o').size, fun k _ hk => by
  rcases Nat.lt_or_ge k W.heap.size with h | h
  ·exact (grownBy_putObj' W l o').block k h (fun e => by cases e; omega)
  ·exact World.putObj_heap_other (fun e => by omega)⟩
theorem KeepMid.cell {lo hi : Nat} {W W' : World} (h : KeepMid lo hi W W') {a : Addr} {u : Value} (h1 : lo ≤ a.block) (h2 : a.block < hi) (hc : W.cell? a = some u) : W'.cell? a = some u :=
 (World.cell?_of_block (h.2 a.block h1 h2)).trans hc
abbrev Rng := { x : Nat × Int // 1 ≤ x.2 ∧ x.2 ≤ 100 }
def encR (x : Rng) : Array Value := #[.int .i64 (x.1.1 : Int), .int .i64 x.1.2]
set_option maxRecDepth 100000 in
set_option maxHeartbeats 2000000 in
theorem bw1_in (F : Fence) (n : Nat) (hf : F.fn 215) (hro : F.round = none) (hn : 1 ≤ n) (l Bs lo hi b off len cap : Nat) (g : Nat → Rng) (hg : ∀ j, j < len → (g j).1.1 = j) (hreach : len ≤ 1000) (hb1 : lo ≤ b) (hb2 : b < hi) (hB1 : lo ≤ Bs) (hB2 : Bs < hi) (J Jx : List Rng → World → Prop)
  (hY : ∀ pre x W, J pre W → pre.length < len → YieldAt F (n - 1) Tryz.prog l (encR x) W fun e W' =>
   (e = .returned (.bool true) ∧ J (pre ++ [x]) W' ∧ KeepMid lo hi W W') ∨ (e = .returned (.bool false) ∧ Jx (pre ++ [x]) W'))
  (W : World) (hBs : W.cell? ⟨Bs, 0, none⟩ = some (.slice (some ⟨b, off, none⟩) len cap)) (hc : ∀ j, j < len → W.cell? ⟨b, off + j, none⟩ = some (.int .i64 (g j).1.2)) (h0 : J [] W) :
  CallsIn F n Tryz.prog 215 #[.func (.yield l) #[] #[], .pointer (some ⟨Bs, 0, none⟩)] W fun e W' => (∃ v, e = .returned v) ∧
   ((∃ ys, ys = uptoL (fun j => g (len - 1 - j)) len ∧ J ys W') ∨ (∃ pre, (∃ k, k ≤ len ∧ pre = uptoL (fun j => g (len - 1 - j)) k) ∧ Jx pre W')) := by
 refine callsIn_of_wp Tryz.func215 rfl hf ?_ hro
 simp only [Tryz.ntmps215, List.size_toArray, List.length_cons, List.length_nil, Nat.reduceAdd, Nat.reduceSub, Array.replicate_succ, Array.replicate_zero, List.push_toArray, List.append_toArray, List.nil_append, List.cons_append]
 have Hg := Lib.hid hg
 clear hg
 gi_wp2
 gi_loopw [3] (fun i wr => ∃ k : Nat, k ≤ len ∧ i = .int .i64 ((len : Int) - 1 - k) ∧ J (uptoL (fun j => g (len - 1 - j)) k) wr ∧ KeepMid lo hi W wr)
  (fun i _ => (intOf i + 1).toNat)
 case atStart => exact ⟨0, Nat.zero_le _, by simp, h0, KeepMid.refl _ _ _⟩
 case round =>
  obtain ⟨k, hk, rfl, hJs, hnx⟩ := hrel
  have hBr : wr.cell? ⟨Bs, 0, none⟩ = some (.slice (some ⟨b, off, none⟩) len cap) := hnx.cell hB1 hB2 hBs
  by_cases hlt : k < len
  ·obtain ⟨q, hq⟩ : ∃ q, len - 1 - k = q := ⟨_, rfl⟩
   have hqi : ((len : Int) - 1 - k) = (q : Int) := by omega
   rw [hqi]
   have hcx : wr.cell? ⟨b, off + q, none⟩ = some (.int .i64 (g q).1.2) := hnx.cell hb1 hb2 (hc q (by omega))
   obtain ⟨fn, tmps, assign, body, hy, hR⟩ := hY _ (g q) wr hJs (by rw [uptoL_length]; exact hlt)
   unfold encR at hy
   rw [Hg.out q (by omega)] at hy
   have hq2 : q < len := by omega
   have Hq := Lib.hid hq
   have Hqi := Lib.hid hqi
   clear hq hqi
   gi_wp2
   refine hR.mono ?_
   rintro e W3 (⟨rfl, hJ3, hk3⟩ | ⟨rfl, hJx3⟩)
   ·gi_wp2
    go_roundw
    case rel => exact ⟨k + 1, by omega, by have := Hqi.out; congr 1; omega, by rw [uptoL_succ, Hq.out]; exact hJ3, hnx.t hk3⟩
    case measure => simp [intOf]
   ·gi_wp2
    refine bodyPost_ret (results_none rfl _ _ _) rfl ?_
    exact ⟨⟨_, rfl⟩, .inr ⟨_, ⟨k + 1, by omega, by rw [uptoL_succ, Hq.out]⟩, hJx3⟩⟩
  ·obtain rfl : k = len := by omega
   gi_wp2
   go_end0
   exact ⟨⟨_, rfl⟩, .inl ⟨_, rfl, hJs⟩⟩
set_option maxRecDepth 100000 in
set_option maxHeartbeats 1000000 in
theorem bw1_nil_in (F : Fence) (n : Nat) (hf : F.fn 215) (hro : F.round = none) (l Bs c : Nat) (A : Option Addr) (J : List Rng → World → Prop) (W : World) (hBs : W.cell? ⟨Bs, 0, none⟩ = some (.slice A 0 c)) (h0 : J [] W) :
  CallsIn F n Tryz.prog 215 #[.func (.yield l) #[] #[], .pointer (some ⟨Bs, 0, none⟩)] W fun e W' => (∃ v, e = .returned v) ∧ J [] W' := by
 refine callsIn_of_wp Tryz.func215 rfl hf ?_ hro
 simp only [Tryz.ntmps215, List.size_toArray, List.length_cons, List.length_nil, Nat.reduceAdd, Nat.reduceSub, Array.replicate_succ, Array.replicate_zero, List.push_toArray, List.append_toArray, List.nil_append, List.cons_append]
 gi_wp2
 gi_loopw [3] (fun i wr => i = .int .i64 (-1) ∧ J [] wr) (fun _ _ => 0)
 case atStart => exact ⟨rfl, h0⟩
 case round =>
  obtain ⟨rfl, hJs⟩ := hrel
  gi_wp2
  go_end0
  exact ⟨⟨_, rfl⟩, hJs⟩
set_option maxHeartbeats 1000000 in
theorem bw_in (F : Fence) (n : Nat) (hf : F.fn 176) (hro : F.round = none) (a : Option Addr) (len cap : Nat) (w : World) :
  CallsIn F n Tryz.prog 176 #[.slice a len cap] w fun e w' => e = .returned (.func (.func 215) #[] #[.pointer (some ⟨w.heap.size, 0, none⟩)]) ∧ w' = w.alloc (.cells #[.slice a len cap] 25) := by
 refine callsIn_of_wp Tryz.func176 rfl hf ?_ hro
 simp only [Tryz.ntmps176, List.size_toArray, List.length_cons, List.length_nil, Nat.reduceAdd, Nat.reduceSub, Array.replicate_succ, Array.replicate_zero, List.push_toArray, List.append_toArray, List.nil_append, List.cons_append]
 gi_wp2
 go_ret
 exact ⟨rfl, rfl⟩
end Go.Proofs.YtgmdpppljkmabaaGreat
namespace Go.Proofs.YtgmdpppljkmabaaGreat
open Go.RowKit Go.Shelf
attribute [local go_sem] Oper.semAt_some
def pDiv (l : Int) (rs : List Int) : Int := rs.foldl (fun l r => l / r) l
def pRem (l : Int) : List Int → List Int
 | [] => []
 | r :: rs => (l % r) :: pRem (l / r) rs
theorem pDiv_snoc (l : Int) (rs : List Int) (r : Int) : pDiv l (rs ++ [r]) = pDiv l rs / r := by simp [pDiv]
theorem pRem_snoc (l : Int) (rs : List Int) (r : Int) : pRem l (rs ++ [r]) = pRem l rs ++ [pDiv l rs % r] := by
 induction rs generalizing l with
 | nil => simp [pRem, pDiv]
 | cons x rs ih => simp [pRem, ih, pDiv]
theorem pRem_len (l : Int) (rs : List Int) : (pRem l rs).length = rs.length := by
 induction rs generalizing l with
 | nil => rfl
 | cons x rs ih => simp [pRem, ih]
theorem pDiv_bd (l : Int) (rs : List Int) (h0 : 0 ≤ l) (hr : ∀ r ∈ rs, 1 ≤ r) : 0 ≤ pDiv l rs ∧ pDiv l rs ≤ l := by
 induction rs generalizing l with
 | nil => simp [pDiv, h0]
 | cons x rs ih =>
  have hx := hr x (by simp)
  have h1 : 0 ≤ l / x := Int.ediv_nonneg h0 (by omega)
  have h2 : l / x ≤ l := Int.ediv_le_self _ h0
  have := ih (l / x) h1 (fun r hr' => hr r (by simp [hr']))
  exact ⟨this.1, Int.le_trans this.2 h2⟩
def vals (pre : List Rng) : List Int := pre.map fun x => x.1.2
theorem vals_snoc (pre : List Rng) (x : Rng) : vals (pre ++ [x]) = vals pre ++ [x.1.2] := by simp [vals]
theorem vals_pos (pre : List Rng) : ∀ r ∈ vals pre, 1 ≤ r := by
 intro r hr
 obtain ⟨x, _, rfl⟩ := List.mem_map.1 hr
 exact x.2.1
theorem vals_len (pre : List Rng) : (vals pre).length = pre.length := by simp [vals]
def PInv (l : Int) (b0 N1 : Nat) (w : World) (pre : List Rng) (W : World) : Prop :=
 Boxed W b0 3 (.int .i64 (pDiv l (vals pre))) ∧ (∃ v, Boxed W (b0 + 1) 25 v ∧ Own W N1 v (pRem l (vals pre))) ∧ Below b0 w W ∧ N1 ≤ W.heap.size
theorem pinv_own (l : Int) (b0 N1 : Nat) (w : World) (hb : b0 ≤ w.heap.size) (B : Nat) (hB : b0 ≤ B) : OwnFrom B (PInv l b0 N1 w) := by
 refine OwnFrom.and (_root_.Go.Own.from (boxed_own b0 3 (fun pre : List Rng => .int .i64 (pDiv l (vals pre)))) _) (OwnFrom.and ?_ (OwnFrom.and (ownFrom_below hb hB) (fun _ _ _ _ hs hg _ => Nat.le_trans hs hg.size)))
 have := _root_.Go.Own.from (holdsRow_own (β := List Rng) N1 (b0 + 1) 25 3 1 (fun pre => (pRem l (vals pre)).length) (fun pre => (pRem l (vals pre)).map (Value.int .i64)) (fun _ _ => True)) B
 intro s W W' row hs hg hr
 obtain ⟨v, h1, h2⟩ := hs
 obtain ⟨v', h1', h2', _⟩ := this s W W' row ⟨v, h1, h2, trivial⟩ hg hr
 exact ⟨v', h1', h2'⟩
theorem bw_stops (F : Fence) (n : Nat) (hf : F.fn 215) (hro : F.round = none) (hn : 1 ≤ n) (Bs lo hi : Nat) (sv : Value) (zs : List Int) (g : Nat → Rng) (hg : ∀ j, j < zs.length → (g j).1.1 = j ∧ zs[j]? = some (g j).1.2) (hreach : zs.length ≤ 1000) (w : World) (hB1 : lo ≤ Bs) (hB2 : Bs < hi) (_ : hi ≤ w.heap.size)
  (hc : w.cell? ⟨Bs, 0, none⟩ = some sv) (hI : Own w lo sv zs) (hlt : ∀ k, sv.ownBlock = some k → k < hi) :
  SeqStopsK F n Tryz.prog 215 #[.pointer (some ⟨Bs, 0, none⟩)] encR (KeepMid lo hi) (fun ys => ys = uptoL (fun j => g (zs.length - 1 - j)) zs.length)
   (fun pre => ∃ k, k ≤ zs.length ∧ pre = uptoL (fun j => g (zs.length - 1 - j)) k) zs.length w := fun l J Jx W hW _ _ hY h0 => by
 have hc' := bc hW hc
 have hI' := hI.keep hW
 rcases hI'.cases with ⟨rfl, rfl⟩ | ⟨gb, c, rfl, hgb, _⟩
 ·exact (bw1_nil_in F n hf hro l Bs 0 none J W hc' h0).mono fun e W' ⟨he, hj⟩ => ⟨he, .inl ⟨_, rfl, hj⟩⟩
 ·exact bw1_in F n hf hro hn l Bs lo hi gb 0 zs.length c g (fun j hj => (hg j hj).1) hreach hgb (hlt gb rfl) hB1 hB2 J Jx hY W hc' (fun j hj => by rw [Nat.zero_add]; exact hI'.cell (hg j hj).2) h0
theorem own_putObj {W : World} {base : Nat} {v : Value} {xs : List Int} (h : Own W base v xs) {D : Nat} {o : Obj} (o' : Obj) (hD : W.heap[D]? = some o) (ho : o.isCells = false) : Own (W.putObj D o') base v xs := ownsRow_putObj h o' hD ho
theorem app1 {w : World} {base : Nat} {v : Value} {xs : List Int} (h : Own w base v xs) (x : Int) (ty : TypeId) (b : Nat) (hc : w.cell? ⟨b, 0, none⟩ = some (.int .i64 x)) (hl : xs.length + 1 ≤ 17592186044416) (hb : base ≤ w.heap.size) :
  ∃ g c w', (Builtin.append_ #[25, 25] ty #[v, .slice (some ⟨b, 0, none⟩) 1 1]).run Tryz.prog w = .ok (.slice (some ⟨g, 0, none⟩) (xs.length + 1) c) w' ∧ Own w' base (.slice (some ⟨g, 0, none⟩) (xs.length + 1) c) (xs ++ [x]) ∧ w.grownBy w' v.ownBlock ∧ (some g = v.ownBlock ∨ g = w.heap.size) := by
 obtain ⟨i0, hi, hz0, hz1, hz2⟩ := info_parts int_info
 obtain ⟨v', w', hrun, h2, h3, _, h5⟩ := run_append_own_at (P := Tryz.prog) w base 25 ty 3 i0 (.int .i64 0) 1 8 Tryz.underlying25 hi hz0 hz1 hz2 rfl (by decide) v xs.length (xs.map (Value.int .i64)) h ⟨b, 0, none⟩ 1 1 [.int .i64 x] rfl
  (by intro j u hj; match j, hj with | 0, hj => (simp at hj; subst hj; simpa [Addr.add] using hc) | j + 1, hj => simp at hj) (by simp [Value.oneCell']) (by unfold maxLen; omega) (by omega) hb
 obtain ⟨g, c, rfl⟩ := ownsRow_succ h2
 refine ⟨g, c, w', hrun, ?_, h3, ?_⟩
 ·unfold Own
  simpa using h2
 ·rcases h5 with h5 | h5
  ·exact .inl (by simpa [Value.ownBlock] using h5)
  ·exact .inr (by simpa [Value.ownBlock] using h5)
def AppRes (P : Program) (ty : TypeId) (v s : Value) (w : World) : Result Next := ((Builtin.append_ #[25, 25] ty #[v, s]).run P w).andThen fun v' w' => .ok (.value v') w'
theorem stepIn_res {F : Fence} {nF : Nat} {Y : Nat → Option Bool} {o : Oper} {a : Act} {w : World} {K : Act → World → Prop} {Q : Exit → Act → World → Prop} {E : Prop} (s x : Operand)
  (hgd : o.guard = none) (ho : o.op = .call { callee := .builtin .append, args := #[s, x], argTypes := #[25, 25] }) (v' : Value) (w' : World)
  (hr : AppRes Tryz.prog o.type (a.eval s) (a.eval x) w = .ok (.value v') w') (h : K (a.put o.dst v') w') :
  if Region.wanted o Y = true then Oper.wpIn F nF Tryz.prog o a w K Q else E := by
 rw [if_pos (by simp [Region.wanted, hgd])]
 unfold Oper.wpIn
 refine ⟨by simp [Oper.about, ho, resolve, Target.leads, Sem.run_pure], ?_⟩
 rw [Oper.semAt_plain F _ _ (by rw [ho]; intro c hc'; cases hc')]
 unfold AppRes at hr
 simp only [execOp, ho, resolve, invoke, builtin, Sem.run_bind, Sem.run_pure, Result.andThen_ok, List.map_toArray, List.map_cons, List.map_nil]
 generalize (Builtin.append_ #[25, 25] o.type #[a.eval s, a.eval x]).run Tryz.prog w = R at hr ⊢
 cases R with
 | ok v1 w1 => simp [Result.andThen] at hr; obtain ⟨rfl, rfl⟩ := hr; exact h
 | halt h1 w1 => simp [Result.andThen] at hr
theorem wpListIn_res {F : Fence} {nF : Nat} {ops : Array Oper} {rest : List Oper} {o : Oper} {a : Act} {w : World} {Q : Exit → Act → World → Prop} (s x : Operand)
  (hgd : o.guard = none) (ho : o.op = .call { callee := .builtin .append, args := #[s, x], argTypes := #[25, 25] }) (v' : Value) (w' : World)
  (hr : AppRes Tryz.prog o.type (a.eval s) (a.eval x) w = .ok (.value v') w') (h : wpListIn F nF Tryz.prog ops Q rest (a.put o.dst v') w') : wpListIn F nF Tryz.prog ops Q (o :: rest) a w := by
 refine wpListIn_plain hgd fun K hK => ?_
 have := stepIn_res (F := F) (nF := nF) (Y := fun _ => none) (o := o) (a := a) (w := w) (K := K) (Q := Q) (E := False) s x hgd ho v' w' hr (hK _ _ h)
 rwa [if_pos (by simp [Region.wanted, hgd])] at this
theorem ranges_pos (s : Int) : ∀ r ∈ rangesL s, 1 ≤ r ∧ r ≤ 100 := by
 intro r hr
 unfold rangesL at hr
 split at hr
 ·simp at hr; omega
 ·split at hr
  ·simp at hr; omega
  ·simp at hr
def rngAt (s : Int) (j : Nat) : Rng := ⟨(j, if h : j < (rangesL s).length then (rangesL s)[j] else 1), by
 by_cases h : j < (rangesL s).length
 ·simp only [h, dif_pos]; exact ranges_pos s _ (List.getElem_mem h)
 ·simp [h]⟩
theorem rngAt_spec (s : Int) (j : Nat) (h : j < (rangesL s).length) : (rngAt s j).1.1 = j ∧ (rangesL s)[j]? = some (rngAt s j).1.2 := by
 refine ⟨rfl, ?_⟩
 simp [rngAt, h]
theorem vals_upto (s : Int) : vals (uptoL (fun j => rngAt s ((rangesL s).length - 1 - j)) (rangesL s).length) = (rangesL s).reverse := by
 apply List.ext_getElem
 ·simp [vals, uptoL]
 ·intro i h1 h2
  have hi : i < (rangesL s).length := by simpa using h2
  simp [vals, uptoL, rngAt, show (rangesL s).length - 1 - i < (rangesL s).length by omega]
theorem len_ranges (s : Int) : (rangesL s).length ≤ 3 := by unfold rangesL; (split; · decide); split <;> decide
theorem pinv_step {l q r : Int} {b0 N1 g' c' : Nat} {w W w2 : World} {pre : List Rng} {x : Rng} {v : Value} {o : Obj} (hr : x.1.2 = r) (hq : pDiv l (vals pre) = q) (hN : b0 + 2 ≤ N1)
  (hb1 : Boxed W b0 3 (.int .i64 q)) (hb2 : Boxed W (b0 + 1) 25 v) (hown : Own W N1 v (pRem l (vals pre))) (hB : Below b0 w W) (hsz : N1 ≤ W.heap.size)
  (hown2 : Own w2 N1 (.slice (some ⟨g', 0, none⟩) ((pRem l (vals pre)).length + 1) c') (pRem l (vals pre) ++ [q % r])) (hgr : (W.alloc o).drew.grownBy w2 v.ownBlock) :
  (Boxed w2 b0 3 (.int .i64 q) ∧ Boxed w2 (b0 + 1) 25 v) ∧ KeepsFrom N1 W ((w2.setCell ⟨b0 + 1, 0, none⟩ (.slice (some ⟨g', 0, none⟩) ((pRem l (vals pre)).length + 1) c')).setCell ⟨b0, 0, none⟩ (.int .i64 (q / r))) ∧
   KeepMid (b0 + 2) N1 W ((w2.setCell ⟨b0 + 1, 0, none⟩ (.slice (some ⟨g', 0, none⟩) ((pRem l (vals pre)).length + 1) c')).setCell ⟨b0, 0, none⟩ (.int .i64 (q / r))) ∧
   PInv l b0 N1 w (pre ++ [x]) ((w2.setCell ⟨b0 + 1, 0, none⟩ (.slice (some ⟨g', 0, none⟩) ((pRem l (vals pre)).length + 1) c')).setCell ⟨b0, 0, none⟩ (.int .i64 (q / r))) := by
 have hlt : ∀ k, v.ownBlock = some k → N1 ≤ k := fun k hk => (World.ownsRow.lt hown k hk).1
 have hne0 : some b0 ≠ v.ownBlock := fun e => by have := hlt b0 e.symm; omega
 have hne1 : some (b0 + 1) ≠ v.ownBlock := fun e => by have := hlt (b0 + 1) e.symm; omega
 have k1 : Boxed w2 b0 3 (.int .i64 q) := (show Boxed (W.alloc o).drew b0 _ _ from hb1.alloc o).kept hgr hne0
 have k2 : Boxed w2 (b0 + 1) 25 v := (show Boxed (W.alloc o).drew (b0 + 1) _ _ from hb2.alloc o).kept hgr hne1
 have hg := hown2.blk
 have k3 := (k2.set (.slice (some ⟨g', 0, none⟩) ((pRem l (vals pre)).length + 1) c'))
 have k4 := (k1.other (show b0 ≠ b0 + 1 by omega) (.slice (some ⟨g', 0, none⟩) ((pRem l (vals pre)).length + 1) c')).set (.int .i64 (q / r))
 have k5 := k3.other (show b0 + 1 ≠ b0 by omega) (.int .i64 (q / r))
 have o3 : Own (w2.setCell ⟨b0 + 1, 0, none⟩ (.slice (some ⟨g', 0, none⟩) ((pRem l (vals pre)).length + 1) c')) N1 (.slice (some ⟨g', 0, none⟩) ((pRem l (vals pre)).length + 1) c') (pRem l (vals pre) ++ [q % r]) :=
  World.ownsRow.kept hown2 (grownBy_setCell' w2 (b0 + 1) _) (.inr (by simp [Value.ownBlock]; omega))
 have o4 : Own ((w2.setCell ⟨b0 + 1, 0, none⟩ (.slice (some ⟨g', 0, none⟩) ((pRem l (vals pre)).length + 1) c')).setCell ⟨b0, 0, none⟩ (.int .i64 (q / r))) N1 (.slice (some ⟨g', 0, none⟩) ((pRem l (vals pre)).length + 1) c') (pRem l (vals pre) ++ [q % r]) :=
  World.ownsRow.kept o3 (grownBy_setCell' _ b0 _) (.inr (by simp [Value.ownBlock]; omega))
 have hblk : ∀ k, k < W.heap.size → k ≠ b0 → k ≠ b0 + 1 → v.ownBlock ≠ some k → ((w2.setCell ⟨b0 + 1, 0, none⟩ (.slice (some ⟨g', 0, none⟩) ((pRem l (vals pre)).length + 1) c')).setCell ⟨b0, 0, none⟩ (.int .i64 (q / r))).heap[k]? = W.heap[k]? := by
  intro k hk h1 h2 h3
  rw [Below.heap_setCell _ _ _ k h1, Below.heap_setCell _ _ _ k h2, hgr.block k (by show k < (W.alloc o).heap.size; simp; omega) (fun e => h3 e.symm)]
  exact Below.heap_alloc W o k hk
 have hsz2 : W.heap.size ≤ ((w2.setCell ⟨b0 + 1, 0, none⟩ (.slice (some ⟨g', 0, none⟩) ((pRem l (vals pre)).length + 1) c')).setCell ⟨b0, 0, none⟩ (.int .i64 (q / r))).heap.size := by
  have := hgr.size
  simp [World.setCell] at *
  omega
 refine ⟨⟨k1, k2⟩, ⟨hsz2, ?_⟩, ⟨hsz2, fun k h1 h2 => hblk k (by omega) (by omega) (by omega) (fun e => by have := hlt k e; omega)⟩, ?_, ⟨_, k5, ?_⟩, ?_, by omega⟩
 ·intro k o' hk hko hc
  refine (hblk k (Array.getElem?_eq_some_iff.1 hko).1 (by omega) (by omega) (fun e => ?_)).trans hko
  rcases World.ownsRow.lt hown k e with ⟨_, _⟩
  rcases hown.2 with ⟨rfl, _⟩ | ⟨gg, cap, cur, rfl, _, hgg, _⟩
  ·simp [Value.ownBlock] at e
  ·simp only [Value.ownBlock, Option.some.injEq] at e
   subst e
   rw [hgg] at hko
   cases hko
   simp [Obj.isCells] at hc
 ·rw [vals_snoc, pDiv_snoc, hq, hr]; exact k4
 ·rw [vals_snoc, pRem_snoc, hq, hr]; exact o4
 ·refine hB.trans ⟨?_, ?_, ?_, hsz2, fun k hk => hblk k (by have := hB.size; omega) (by omega) (by omega) (fun e => by have := hlt k e; omega)⟩
  ·exact hgr.os
  ·exact hgr.tape
  ·exact hgr.output
set_option maxRecDepth 100000 in
set_option maxHeartbeats 2000000 in
theorem partsOf_in (n : Nat) (hn : 4 ≤ n) (s l : Int) (h0 : 0 ≤ l) (h1 : l ≤ 999999999999) (w : World) :
  CallsIn Fence.wide n Tryz.prog 110 #[.int .i64 s, .int .i64 l] w fun e W' => ∃ v, e = .returned v ∧ Own W' w.heap.size v (pDiv l (rangesL s).reverse :: (pRem l (rangesL s).reverse).reverse) ∧ Below w.heap.size w W' := by
 have hn1 : 1 ≤ n := by omega
 have hl3 := len_ranges s
 refine callsIn_of_wp_marks Tryz.func110 rfl trivial ?_ rfl
 simp only [Tryz.ntmps110, List.size_toArray, List.length_cons, List.length_nil, Nat.reduceAdd, Nat.reduceSub, Array.replicate_succ, Array.replicate_zero, List.push_toArray, List.append_toArray, List.nil_append, List.cons_append]
 gi_wp2_with fail
 refine ⟨trivial, (callsIn_wide.2 (rangesOf_any _ _)).mono ?_⟩
 rintro e w1 ⟨u, rfl, ho, hb1⟩
 obtain ⟨A, c, hu, hcc, hcm⟩ : ∃ A c, u = .slice A (rangesL s).length c ∧ (rangesL s).length ≤ c ∧ c ≤ maxLen := by obtain ⟨A, c, h1, h2, h3, _⟩ := ho.ints; exact ⟨A, c, h1, h2, h3⟩
 subst hu
 have bL : Boxed w1 w.heap.size 3 (.int .i64 l) := (hb1.block w.heap.size (by simp; omega)).trans ((Boxed.new w 3 (.int .i64 l)).alloc _)
 have bO : Boxed w1 (w.heap.size + 1) 25 (.slice none 0 0) := by
  have := Boxed.new (w.alloc (.cells #[.int .i64 l] 3)) 25 (.slice none 0 0)
  rw [World.size_alloc] at this
  exact (hb1.block (w.heap.size + 1) (by simp)).trans this
 have hB0 : Below w.heap.size w w1 := (((Below.refl _ w).alloc (Nat.le_refl _) _).alloc (by simp) _).trans (hb1.mono (by simp; omega))
 have hsz : w.heap.size + 2 ≤ w1.heap.size := by have := hb1.size; simp at this; omega
 have hub : ∀ k, (Value.slice A (rangesL s).length c).ownBlock = some k → k < w1.heap.size := fun k hk => (World.ownsRow.lt ho k hk).2
 have Ho := Lib.hid (ho.mono (show w.heap.size + 2 ≤ _ by simp))
 have HbL := Lib.hid bL
 have HbO := Lib.hid bO
 have HB0 := Lib.hid hB0
 have Hub := Lib.hid hub
 clear ho bL bO hB0 hb1 hub
 gi_wp2_with (refine ⟨trivial, ?_⟩; gi_at_call 176; refine (bw_in Fence.wide (n - 1) trivial rfl _ _ _ _).mono ?_; rintro e w' ⟨rfl, rfl⟩)
 have hW0 : (w1.alloc (.cells #[.slice A (rangesL s).length c] 25)).heap.size = w1.heap.size + 1 := by simp
 have hbW : Below w1.heap.size w1 (w1.alloc (.cells #[.slice A (rangesL s).length c] 25)) := below_alloc _ _
 refine wpIn_rangeFunc_ownG rfl hn1 (gf := 215) (lb := #[.pointer (some ⟨w1.heap.size, 0, none⟩)]) rfl trivial (enters_of Tryz.func215 (by kernel_rfl) rfl)
  (bw_stops Fence.wide (n - 1) trivial rfl (by omega) w1.heap.size (w.heap.size + 2) (w1.heap.size + 1) _ (rangesL s) (rngAt s) (rngAt_spec s) (by omega) (w1.alloc (.cells #[.slice A (rangesL s).length c] 25)) (by omega) (by omega) (by simp)
   (by simp) (Ho.out.keep hbW) (fun k hk => by have := Hub.out k hk; omega)) KeepMid.t (KeepMid.b (by simp)) (Below.refl _ _) (fun _ => rfl)
  (PInv l w.heap.size (w1.heap.size + 1) w)
  (fun _ _ _ => False)
  (pinv_own l w.heap.size (w1.heap.size + 1) w (Nat.le_refl _) _ (by simp; omega))
  (fun _ _ _ _ _ hs _ _ => hs)
  ⟨HbL.out.alloc _, ⟨_, HbO.out.alloc _, own_nil _ _⟩, HB0.out.trans (hbW.mono (by omega)), by simp⟩
  (fun x => { tmps := #[.int .i64 s, .int .i64 l, undef, .pointer (some ⟨w.heap.size, 0, none⟩), .slice none 0 0, .pointer (some ⟨w.heap.size + 1, 0, none⟩), undef, .int .i64 x.1.2, .int .i64 s, .slice A (rangesL s).length c, .func (.func 215) #[] #[.pointer (some ⟨w1.heap.size, 0, none⟩)], .int .i64 (x.1.1 : Int), .int .i64 x.1.2, undef, undef, undef, undef, undef, undef, undef, undef, undef, undef, undef, undef, undef, undef, undef, undef], defers := [] }) ?assign ?body ?done ?stop
 case assign =>
  intro l x W K hK
  unfold encR
  gi_wp2
  exact hK
 case body =>
  rintro lr pre x W ⟨hb1, ⟨v, hb2, hown⟩, hB, hszW⟩ hlt
  have hx := x.2
  have hpl : (pRem l (vals pre)).length ≤ 3 := by rw [pRem_len, vals_len]; omega
  obtain ⟨hq0, hq1⟩ := pDiv_bd l (vals pre) h0 (vals_pos pre)
  obtain ⟨r, hr⟩ : ∃ r, x.1.2 = r := ⟨_, rfl⟩
  rw [hr] at hx ⊢
  obtain ⟨q, hq⟩ : ∃ q, pDiv l (vals pre) = q := ⟨_, rfl⟩
  rw [hq] at hq0 hq1 hb1
  obtain ⟨g', c', w2, hrun, hown2, hgr2, hg2⟩ := app1 (w := (W.alloc (.cells #[.int .i64 (q % r)] 3)).drew) (show Own _ (w1.heap.size + 1) v (pRem l (vals pre)) from (hown.keep (below_alloc W _).drew)) (q % r) 25 W.heap.size (by simp) (by omega) (by simp; omega)
  have hc1 := hb1.cell
  have hc2 := hb2.cell
  obtain ⟨⟨k1, k2⟩, s1, s2, s3⟩ := pinv_step hr hq (by omega) hb1 hb2 hown hB hszW hown2 hgr2
  have hd1 := k1.cell
  have hd2 := k2.cell
  have hf1 := k1.frozen
  have hf2 := k2.frozen
  have hc3 : (W.alloc (Obj.cells #[Value.int IntKind.i64 (q % r)] 3)).cell? ⟨w.heap.size + 1, 0, none⟩ = some v := (hb2.alloc _).cell
  have ht : q.tmod r = q % r := Int.tmod_eq_emod_of_nonneg hq0
  have hres : AppRes Tryz.prog 25 v (Value.slice (some { block := W.heap.size, off := 0 }) 1 1) (W.alloc (Obj.cells #[Value.int IntKind.i64 (q % r)] 3)).drew = .ok (.value (Value.slice (some { block := g', off := 0 }) ((pRem l (vals pre)).length + 1) c')) w2 := by unfold AppRes; rw [hrun]; rfl
  have hr0 : r ≠ 0 := by omega
  obtain ⟨hr1, hr2⟩ := hx
  have s0 := s1
  rw [← hW0] at s0
  clear hrun hb1 hb2 hown hB hown2 hgr2 hg2 k1 k2 hq hr s1 hW0
  generalize hpn : (pRem l (vals pre)).length = pn at *
  gi_wp2
  refine wpIn_region_any (by kernel_rfl) ?_
  change wpAnyIn _ _ _ _ _ _ _ _ _ (World.drew _)
  refine wpAnyIn_ready (rs := [0, 1, 2]) (by kernel_rfl) (by simp) ?_
  refine AllReadyIn.cons rfl (fun K hK => ?_) ?_
  ·go_simp
   refine hK _ _ ?_
   clear hK K
   refine wpAnyIn_ready (rs := [1, 2]) (by kernel_rfl) (by simp) ?_
   refine AllReadyIn.cons rfl (fun K hK => ?_) ?_
   ·go_simp
    refine hK _ _ ?_
    clear hK K
    refine wpAnyIn_ready (rs := [2]) (by kernel_rfl) (by simp) ?_
    refine AllReadyIn.cons rfl (fun K hK => ?_) AllReadyIn.nil
    go_simp
    refine hK _ _ ?_
    clear hK K
    refine wpAnyIn_ready (rs := [3]) (by kernel_rfl) (by simp) ?_
    refine AllReadyIn.cons rfl (fun K hK => ?_) AllReadyIn.nil
    go_simp
    refine hK _ _ ?_
    clear hK K
    refine wpAnyIn_ready (rs := [4]) (by kernel_rfl) (by simp) ?_
    refine AllReadyIn.cons rfl (fun K hK => ?_) AllReadyIn.nil
    go_simp
    refine hK _ _ ?_
    clear hK K
    refine wpAnyIn_ready (rs := [5]) (by kernel_rfl) (by simp) ?_
    refine AllReadyIn.cons rfl (fun K hK => ?_) AllReadyIn.nil
    refine stepIn_res (.tmp 13) (.tmp 17) rfl rfl _ w2 hres ?_
    refine hK _ _ ?_
    clear hK K
    refine wpAnyIn_ready (rs := [6]) (by kernel_rfl) (by simp) ?_
    refine AllReadyIn.cons rfl (fun K hK => ?_) AllReadyIn.nil
    go_simp
    refine hK _ _ ?_
    clear hK K
    refine wpAnyIn_done (by kernel_rfl) ?_ _
    gi_wp2
    exact ⟨s0, s2, s3⟩
   refine AllReadyIn.cons rfl (fun K hK => ?_) AllReadyIn.nil
   go_simp
   refine hK _ _ ?_
   clear hK K
   refine wpAnyIn_ready (rs := [1]) (by kernel_rfl) (by simp) ?_
   refine AllReadyIn.cons rfl (fun K hK => ?_) AllReadyIn.nil
   go_simp
   refine hK _ _ ?_
   clear hK K
   refine wpAnyIn_ready (rs := [3]) (by kernel_rfl) (by simp) ?_
   refine AllReadyIn.cons rfl (fun K hK => ?_) AllReadyIn.nil
   go_simp
   refine hK _ _ ?_
   clear hK K
   refine wpAnyIn_ready (rs := [4]) (by kernel_rfl) (by simp) ?_
   refine AllReadyIn.cons rfl (fun K hK => ?_) AllReadyIn.nil
   go_simp
   refine hK _ _ ?_
   clear hK K
   refine wpAnyIn_ready (rs := [5]) (by kernel_rfl) (by simp) ?_
   refine AllReadyIn.cons rfl (fun K hK => ?_) AllReadyIn.nil
   refine stepIn_res (.tmp 13) (.tmp 17) rfl rfl _ w2 hres ?_
   refine hK _ _ ?_
   clear hK K
   refine wpAnyIn_ready (rs := [6]) (by kernel_rfl) (by simp) ?_
   refine AllReadyIn.cons rfl (fun K hK => ?_) AllReadyIn.nil
   go_simp
   refine hK _ _ ?_
   clear hK K
   refine wpAnyIn_done (by kernel_rfl) ?_ _
   gi_wp2
   exact ⟨s0, s2, s3⟩
  refine AllReadyIn.cons rfl (fun K hK => ?_) ?_
  ·go_simp
   refine hK _ _ ?_
   clear hK K
   refine wpAnyIn_ready (rs := [0, 2]) (by kernel_rfl) (by simp) ?_
   refine AllReadyIn.cons rfl (fun K hK => ?_) ?_
   ·go_simp
    refine hK _ _ ?_
    clear hK K
    refine wpAnyIn_ready (rs := [2]) (by kernel_rfl) (by simp) ?_
    refine AllReadyIn.cons rfl (fun K hK => ?_) AllReadyIn.nil
    go_simp
    refine hK _ _ ?_
    clear hK K
    refine wpAnyIn_ready (rs := [3]) (by kernel_rfl) (by simp) ?_
    refine AllReadyIn.cons rfl (fun K hK => ?_) AllReadyIn.nil
    go_simp
    refine hK _ _ ?_
    clear hK K
    refine wpAnyIn_ready (rs := [4]) (by kernel_rfl) (by simp) ?_
    refine AllReadyIn.cons rfl (fun K hK => ?_) AllReadyIn.nil
    go_simp
    refine hK _ _ ?_
    clear hK K
    refine wpAnyIn_ready (rs := [5]) (by kernel_rfl) (by simp) ?_
    refine AllReadyIn.cons rfl (fun K hK => ?_) AllReadyIn.nil
    refine stepIn_res (.tmp 13) (.tmp 17) rfl rfl _ w2 hres ?_
    refine hK _ _ ?_
    clear hK K
    refine wpAnyIn_ready (rs := [6]) (by kernel_rfl) (by simp) ?_
    refine AllReadyIn.cons rfl (fun K hK => ?_) AllReadyIn.nil
    go_simp
    refine hK _ _ ?_
    clear hK K
    refine wpAnyIn_done (by kernel_rfl) ?_ _
    gi_wp2
    exact ⟨s0, s2, s3⟩
   refine AllReadyIn.cons rfl (fun K hK => ?_) AllReadyIn.nil
   go_simp
   refine hK _ _ ?_
   clear hK K
   refine wpAnyIn_ready (rs := [0, 3]) (by kernel_rfl) (by simp) ?_
   refine AllReadyIn.cons rfl (fun K hK => ?_) ?_
   ·go_simp
    refine hK _ _ ?_
    clear hK K
    refine wpAnyIn_ready (rs := [3]) (by kernel_rfl) (by simp) ?_
    refine AllReadyIn.cons rfl (fun K hK => ?_) AllReadyIn.nil
    go_simp
    refine hK _ _ ?_
    clear hK K
    refine wpAnyIn_ready (rs := [4]) (by kernel_rfl) (by simp) ?_
    refine AllReadyIn.cons rfl (fun K hK => ?_) AllReadyIn.nil
    go_simp
    refine hK _ _ ?_
    clear hK K
    refine wpAnyIn_ready (rs := [5]) (by kernel_rfl) (by simp) ?_
    refine AllReadyIn.cons rfl (fun K hK => ?_) AllReadyIn.nil
    refine stepIn_res (.tmp 13) (.tmp 17) rfl rfl _ w2 hres ?_
    refine hK _ _ ?_
    clear hK K
    refine wpAnyIn_ready (rs := [6]) (by kernel_rfl) (by simp) ?_
    refine AllReadyIn.cons rfl (fun K hK => ?_) AllReadyIn.nil
    go_simp
    refine hK _ _ ?_
    clear hK K
    refine wpAnyIn_done (by kernel_rfl) ?_ _
    gi_wp2
    exact ⟨s0, s2, s3⟩
   refine AllReadyIn.cons rfl (fun K hK => ?_) AllReadyIn.nil
   go_simp
   refine hK _ _ ?_
   clear hK K
   refine wpAnyIn_ready (rs := [0, 4]) (by kernel_rfl) (by simp) ?_
   refine AllReadyIn.cons rfl (fun K hK => ?_) ?_
   ·go_simp
    refine hK _ _ ?_
    clear hK K
    refine wpAnyIn_ready (rs := [4]) (by kernel_rfl) (by simp) ?_
    refine AllReadyIn.cons rfl (fun K hK => ?_) AllReadyIn.nil
    go_simp
    refine hK _ _ ?_
    clear hK K
    refine wpAnyIn_ready (rs := [5]) (by kernel_rfl) (by simp) ?_
    refine AllReadyIn.cons rfl (fun K hK => ?_) AllReadyIn.nil
    refine stepIn_res (.tmp 13) (.tmp 17) rfl rfl _ w2 hres ?_
    refine hK _ _ ?_
    clear hK K
    refine wpAnyIn_ready (rs := [6]) (by kernel_rfl) (by simp) ?_
    refine AllReadyIn.cons rfl (fun K hK => ?_) AllReadyIn.nil
    go_simp
    refine hK _ _ ?_
    clear hK K
    refine wpAnyIn_done (by kernel_rfl) ?_ _
    gi_wp2
    exact ⟨s0, s2, s3⟩
   refine AllReadyIn.cons rfl (fun K hK => ?_) AllReadyIn.nil
   go_simp
   refine hK _ _ ?_
   clear hK K
   refine wpAnyIn_ready (rs := [0]) (by kernel_rfl) (by simp) ?_
   refine AllReadyIn.cons rfl (fun K hK => ?_) AllReadyIn.nil
   go_simp
   refine hK _ _ ?_
   clear hK K
   refine wpAnyIn_ready (rs := [5]) (by kernel_rfl) (by simp) ?_
   refine AllReadyIn.cons rfl (fun K hK => ?_) AllReadyIn.nil
   refine stepIn_res (.tmp 13) (.tmp 17) rfl rfl _ w2 hres ?_
   refine hK _ _ ?_
   clear hK K
   refine wpAnyIn_ready (rs := [6]) (by kernel_rfl) (by simp) ?_
   refine AllReadyIn.cons rfl (fun K hK => ?_) AllReadyIn.nil
   go_simp
   refine hK _ _ ?_
   clear hK K
   refine wpAnyIn_done (by kernel_rfl) ?_ _
   gi_wp2
   exact ⟨s0, s2, s3⟩
  refine AllReadyIn.cons rfl (fun K hK => ?_) AllReadyIn.nil
  go_simp
  refine hK _ _ ?_
  clear hK K
  refine wpAnyIn_ready (rs := [0, 1]) (by kernel_rfl) (by simp) ?_
  refine AllReadyIn.cons rfl (fun K hK => ?_) ?_
  ·go_simp
   refine hK _ _ ?_
   clear hK K
   refine wpAnyIn_ready (rs := [1]) (by kernel_rfl) (by simp) ?_
   refine AllReadyIn.cons rfl (fun K hK => ?_) AllReadyIn.nil
   go_simp
   refine hK _ _ ?_
   clear hK K
   refine wpAnyIn_ready (rs := [3]) (by kernel_rfl) (by simp) ?_
   refine AllReadyIn.cons rfl (fun K hK => ?_) AllReadyIn.nil
   go_simp
   refine hK _ _ ?_
   clear hK K
   refine wpAnyIn_ready (rs := [4]) (by kernel_rfl) (by simp) ?_
   refine AllReadyIn.cons rfl (fun K hK => ?_) AllReadyIn.nil
   go_simp
   refine hK _ _ ?_
   clear hK K
   refine wpAnyIn_ready (rs := [5]) (by kernel_rfl) (by simp) ?_
   refine AllReadyIn.cons rfl (fun K hK => ?_) AllReadyIn.nil
   refine stepIn_res (.tmp 13) (.tmp 17) rfl rfl _ w2 hres ?_
   refine hK _ _ ?_
   clear hK K
   refine wpAnyIn_ready (rs := [6]) (by kernel_rfl) (by simp) ?_
   refine AllReadyIn.cons rfl (fun K hK => ?_) AllReadyIn.nil
   go_simp
   refine hK _ _ ?_
   clear hK K
   refine wpAnyIn_done (by kernel_rfl) ?_ _
   gi_wp2
   exact ⟨s0, s2, s3⟩
  refine AllReadyIn.cons rfl (fun K hK => ?_) AllReadyIn.nil
  go_simp
  refine hK _ _ ?_
  clear hK K
  refine wpAnyIn_ready (rs := [0, 3]) (by kernel_rfl) (by simp) ?_
  refine AllReadyIn.cons rfl (fun K hK => ?_) ?_
  ·go_simp
   refine hK _ _ ?_
   clear hK K
   refine wpAnyIn_ready (rs := [3]) (by kernel_rfl) (by simp) ?_
   refine AllReadyIn.cons rfl (fun K hK => ?_) AllReadyIn.nil
   go_simp
   refine hK _ _ ?_
   clear hK K
   refine wpAnyIn_ready (rs := [4]) (by kernel_rfl) (by simp) ?_
   refine AllReadyIn.cons rfl (fun K hK => ?_) AllReadyIn.nil
   go_simp
   refine hK _ _ ?_
   clear hK K
   refine wpAnyIn_ready (rs := [5]) (by kernel_rfl) (by simp) ?_
   refine AllReadyIn.cons rfl (fun K hK => ?_) AllReadyIn.nil
   refine stepIn_res (.tmp 13) (.tmp 17) rfl rfl _ w2 hres ?_
   refine hK _ _ ?_
   clear hK K
   refine wpAnyIn_ready (rs := [6]) (by kernel_rfl) (by simp) ?_
   refine AllReadyIn.cons rfl (fun K hK => ?_) AllReadyIn.nil
   go_simp
   refine hK _ _ ?_
   clear hK K
   refine wpAnyIn_done (by kernel_rfl) ?_ _
   gi_wp2
   exact ⟨s0, s2, s3⟩
  refine AllReadyIn.cons rfl (fun K hK => ?_) AllReadyIn.nil
  go_simp
  refine hK _ _ ?_
  clear hK K
  refine wpAnyIn_ready (rs := [0, 4]) (by kernel_rfl) (by simp) ?_
  refine AllReadyIn.cons rfl (fun K hK => ?_) ?_
  ·go_simp
   refine hK _ _ ?_
   clear hK K
   refine wpAnyIn_ready (rs := [4]) (by kernel_rfl) (by simp) ?_
   refine AllReadyIn.cons rfl (fun K hK => ?_) AllReadyIn.nil
   go_simp
   refine hK _ _ ?_
   clear hK K
   refine wpAnyIn_ready (rs := [5]) (by kernel_rfl) (by simp) ?_
   refine AllReadyIn.cons rfl (fun K hK => ?_) AllReadyIn.nil
   refine stepIn_res (.tmp 13) (.tmp 17) rfl rfl _ w2 hres ?_
   refine hK _ _ ?_
   clear hK K
   refine wpAnyIn_ready (rs := [6]) (by kernel_rfl) (by simp) ?_
   refine AllReadyIn.cons rfl (fun K hK => ?_) AllReadyIn.nil
   go_simp
   refine hK _ _ ?_
   clear hK K
   refine wpAnyIn_done (by kernel_rfl) ?_ _
   gi_wp2
   exact ⟨s0, s2, s3⟩
  refine AllReadyIn.cons rfl (fun K hK => ?_) AllReadyIn.nil
  go_simp
  refine hK _ _ ?_
  clear hK K
  refine wpAnyIn_ready (rs := [0]) (by kernel_rfl) (by simp) ?_
  refine AllReadyIn.cons rfl (fun K hK => ?_) AllReadyIn.nil
  go_simp
  refine hK _ _ ?_
  clear hK K
  refine wpAnyIn_ready (rs := [5]) (by kernel_rfl) (by simp) ?_
  refine AllReadyIn.cons rfl (fun K hK => ?_) AllReadyIn.nil
  refine stepIn_res (.tmp 13) (.tmp 17) rfl rfl _ w2 hres ?_
  refine hK _ _ ?_
  clear hK K
  refine wpAnyIn_ready (rs := [6]) (by kernel_rfl) (by simp) ?_
  refine AllReadyIn.cons rfl (fun K hK => ?_) AllReadyIn.nil
  go_simp
  refine hK _ _ ?_
  clear hK K
  refine wpAnyIn_done (by kernel_rfl) ?_ _
  gi_wp2
  exact ⟨s0, s2, s3⟩
 case done =>
  rintro D ys W hD rfl ⟨hb1, ⟨v, hb2, hown⟩, hB, hszW⟩ hK
  rw [vals_upto] at hb1 hown
  have hpl : (pRem l (rangesL s).reverse).length ≤ 3 := by rw [pRem_len, List.length_reverse]; omega
  obtain ⟨q, hq⟩ : ∃ q, pDiv l (rangesL s).reverse = q := ⟨_, rfl⟩
  rw [hq] at hb1
  have Hq := Lib.hid hq
  obtain ⟨g', c', w2, hrun, hown2, hgr2, hg2⟩ := app1 (w := W.alloc (.cells #[.int .i64 q] 3)) (hown.keep (below_alloc W _)) q 25 W.heap.size (by simp) (by omega) (by simp; omega)
  have hres : AppRes Tryz.prog 25 v (Value.slice (some { block := W.heap.size, off := 0 }) 1 1) (W.alloc (Obj.cells #[Value.int IntKind.i64 q] 3)) = .ok (.value (Value.slice (some { block := g', off := 0 }) ((pRem l (rangesL s).reverse).length + 1) c')) w2 := by unfold AppRes; rw [hrun]; rfl
  have hlt : ∀ k, v.ownBlock = some k → w1.heap.size + 1 ≤ k := fun k hk => (World.ownsRow.lt hown k hk).1
  have hDlt : D < W.heap.size := (Array.getElem?_eq_some_iff.1 hK).1
  have hDv : some D ≠ v.ownBlock := by
   intro e
   rcases hown.2 with ⟨rfl, _⟩ | ⟨gg, cap, cur, rfl, _, hgg, _⟩
   ·simp [Value.ownBlock] at e
   ·simp only [Value.ownBlock, Option.some.injEq] at e
    subst e
    rw [hgg] at hK; cases hK
  have hDg : D ≠ g' := by
   rcases hg2 with e | e
   ·intro h; subst h; exact hDv e
   ·simp at e; omega
  have hgb := hown2.blk
  have k2 : Boxed w2 (w.heap.size + 1) 25 v := (hb2.alloc _).kept hgr2 (fun e => by have := hlt _ e.symm; omega)
  have hK2 : w2.heap[D]? = some (.deferred (some [])) := (hgr2.block D (by simp; omega) hDv).trans ((Below.heap_alloc W _ D hDlt).trans hK)
  have hB2 : Below w.heap.size w w2 := hB.trans (((below_alloc W (.cells #[.int .i64 q] 3)).mono (by omega)).grown hgr2 (by simp; omega) (fun k e => by have := hlt k e; omega))
  have hc1 := hb1.cell
  have hc2 := hb2.cell
  have hd2 := k2.cell
  have hf2 := k2.frozen
  simp only [hW0] at hD
  have k3 := k2.set (.slice (some ⟨g', 0, none⟩) ((pRem l (rangesL s).reverse).length + 1) c')
  have hK3 : (w2.setCell ⟨w.heap.size + 1, 0, none⟩ (.slice (some ⟨g', 0, none⟩) ((pRem l (rangesL s).reverse).length + 1) c')).heap[D]? = some (.deferred (some [])) := (Below.heap_setCell _ _ _ D (by simp; omega)).trans hK2
  have o3 : Own (w2.setCell ⟨w.heap.size + 1, 0, none⟩ (.slice (some ⟨g', 0, none⟩) ((pRem l (rangesL s).reverse).length + 1) c')) (w1.heap.size + 1) (.slice (some ⟨g', 0, none⟩) ((pRem l (rangesL s).reverse).length + 1) c') (pRem l (rangesL s).reverse ++ [q]) :=
   World.ownsRow.kept hown2 (grownBy_setCell' w2 (w.heap.size + 1) _) (.inr (by simp [Value.ownBlock]; omega))
  have hB3 : Below w.heap.size w (w2.setCell ⟨w.heap.size + 1, 0, none⟩ (.slice (some ⟨g', 0, none⟩) ((pRem l (rangesL s).reverse).length + 1) c')) := hB2.setCell (by simp) _
  have H3 := Lib.hid k3
  have HK3 := Lib.hid hK3
  have HO3 := Lib.hid o3
  have HB3 := Lib.hid hB3
  have Hgb := Lib.hid hgb
  have hdg := hDg
  have Hsz2 : w.heap.size + 1 < w2.heap.size := k2.lt
  clear k3 hK3 o3 hB3 hrun hown2 hgr2 hg2 hK2 hB2 hK hown hB hb1 hb2 k2 hlt hDv hDg hq hgb
  generalize hpn : (pRem l (rangesL s).reverse).length + 1 = pn at *
  have Hpn := Lib.hid hpn
  clear hpn
  gi_wp2_with (gi_at_builtin; refine wpListIn_res (.tmp 22) (.tmp 24) rfl rfl _ w2 hres ?_)
  refine ⟨trivial, (callsIn_wide.2 (reverse_any _ _ _ _ HO3.out)).mono ?_⟩
  rintro e w4 ⟨rfl, ho4, hg4⟩
  have hgb := Hgb.out
  have k4 := (H3.out.kept hg4 (by simp [Value.ownBlock]; omega)).cell
  have hK4 : w4.heap[D]? = some (.deferred (some [])) := (hg4.block D (by simp [World.setCell]; have := (Array.getElem?_eq_some_iff.1 HK3.out).1; simpa [World.setCell] using this) (by simp [Value.ownBlock]; omega)).trans HK3.out
  have hB4 : Below w.heap.size w w4 := HB3.out.grown hg4 HB3.out.size (fun k e => by simp [Value.ownBlock] at e; omega)
  have HO4 := Lib.hid ho4
  have HB4 := Lib.hid hB4
  have HK4 := Lib.hid hK4
  clear ho4 hg4 hB4 hK4 hgb
  gi_wp2
  refine ⟨by simp, .inl ⟨_, _, rfl, run_takeDeferred HK4.out, ?_⟩⟩
  refine ⟨_, results_tmp rfl _ _ _, _, rfl, ?_, HB4.out.trans (belowK_b (w := w) (Nat.le_refl _) w4 D _ _ (by omega) HK4.out rfl rfl)⟩
  have := own_putObj HO4.out (.deferred none) HK4.out rfl
  rw [List.reverse_append, ← Hq.out] at this
  exact this.mono (by omega)
 case stop =>
  rintro D c pre W _ _ h _
  exact h.elim
end Go.Proofs.YtgmdpppljkmabaaGreat
namespace Go.Proofs.YtgmdpppljkmabaaGreat
open Go.RowKit
def partsL (s l : Int) : List Int := pDiv l (rangesL s).reverse :: (pRem l (rangesL s).reverse).reverse
theorem partsOf_any (s l : Int) (h0 : 0 ≤ l) (h1 : l ≤ 999999999999) (w : World) :
  Calls Tryz.prog 110 #[.int .i64 s, .int .i64 l] w fun e W' => ∃ v, e = .returned v ∧ Own W' w.heap.size v (partsL s l) ∧ Below w.heap.size w W' :=
 callsIn_wide.1 (partsOf_in 4 (Nat.le_refl _) s l h0 h1 w)

end Go.Proofs.YtgmdpppljkmabaaGreat
