/- Parts of the proof: walks of functions and plain laws. -/
import Derived.Test.YtgmdpppljkmabaaGreatP0
import Derived.Test.YtgmdpppljkmabaaGreatP12
import Derived.Test.YtgmdpppljkmabaaGreatP6
import Derived.Test.YtgmdpppljkmabaaGreatP4
import Derived.Test.YtgmdpppljkmabaaGreatP11
import Derived.Test.YtgmdpppljkmabaaGreatP5
import Derived.ArgAppend
import Derived.Laws.CopyOwn
import Derived.Shelf.Bits.Mul64
namespace Go.Proofs.YtgmdpppljkmabaaGreat
open Go.RowKit
/-! lists of lists of four numbers, made by append, with their own blocks -/
abbrev Q4 := Int × Int × Int × Int
def lst4 (x : Q4) : List Int := [x.1, x.2.1, x.2.2.1, x.2.2.2]
theorem rowR_info : (Tryz.prog.info? 25).map (fun i => (i.zero, i.size, i.bytes)) = some (some (.slice none 0 0), 1, 24) := by kernel_rfl
def fourR (x : Q4) : Obj := .cells #[.int .i64 x.1, .int .i64 x.2.1, .int .i64 x.2.2.1, .int .i64 x.2.2.2] 3
def rowR (b : Nat) : Value := .slice (some ⟨b, 0, none⟩) 4 4
def OwnR (W : World) (base bd : Nat) (u : Value) (L : List Q4) : Prop :=
 ∃ bs : List Nat, bs.length = L.length ∧ W.ownsRow base 25 1 u L.length (bs.map rowR) ∧ (∀ (k : Nat) (x : Q4) (b : Nat), L[k]? = some x → bs[k]? = some b → base ≤ b ∧ b < bd ∧ W.heap[b]? = some (fourR x) ∧ u.ownBlock ≠ some b) ∧ bs.Nodup
theorem ownR_nil (W : World) (base bd : Nat) : OwnR W base bd (.slice none 0 0) [] := ⟨[], rfl, World.ownsRow_nil W base _ _, fun k x b hx => by simp at hx, List.nodup_nil⟩
theorem OwnR.keep {W W' : World} {base bd : Nat} {u : Value} {L : List Q4} (h : OwnR W base bd u L) (hs : Since W W') : OwnR W' base bd u L := by
 obtain ⟨bs, h1, h2, h3, h4⟩ := h
 refine ⟨bs, h1, ownsRow_stable h2 fun j hj => hs.below.block j (World.ownsRow.lt h2 j (by simpa using hj)).2, fun k x b hx hb => ?_, h4⟩
 obtain ⟨q1, q2, q3, q4⟩ := h3 k x b hx hb
 exact ⟨q1, q2, by rw [hs.below.block b (Array.getElem?_eq_some_iff.1 q3).1]; exact q3, q4⟩
theorem OwnR.up {W : World} {base bd bd' : Nat} {u : Value} {L : List Q4} (h : OwnR W base bd u L) (hb : bd ≤ bd') : OwnR W base bd' u L := by
 obtain ⟨bs, h1, h2, h3, h4⟩ := h
 exact ⟨bs, h1, h2, fun k x b hx hb' => ⟨(h3 k x b hx hb').1, Nat.lt_of_lt_of_le (h3 k x b hx hb').2.1 hb, (h3 k x b hx hb').2.2⟩, h4⟩
theorem OwnR.lt {W : World} {base bd b : Nat} {u : Value} {L : List Q4} (h : OwnR W base bd u L) (e : u.ownBlock = some b) : base ≤ b ∧ b < W.heap.size := by
 obtain ⟨bs, h1, h2, _⟩ := h
 exact World.ownsRow.lt h2 b e
theorem sing_flat : ∀ (bs : List Nat), (bs.map fun b => [b]).flatten = bs
 | [] => rfl
 | a :: r => by rw [List.map_cons, List.flatten_cons, sing_flat r]; rfl
theorem OwnR.toII {W : World} {base base' bd : Nat} {u : Value} {L : List Q4} (h : OwnR W base bd u L) (hb : base' ≤ base) : ∃ S, OwnII W base' u (L.map lst4) S := by
 obtain ⟨bs, h1, h2, h3, h4⟩ := h
 refine ⟨u.ownBlock.toList ++ (bs.map fun b => [b]).flatten, lawII.mono (show OwnII W base u (L.map lst4) _ from ⟨bs.map rowR, bs.map fun b => [b], by simpa using h2, by simp [h1], fun k v x T hv hx hT => ?_, rfl, ?_⟩) hb⟩
 ·rw [List.getElem?_map] at hv hx hT
  obtain ⟨b, hb1, rfl⟩ := Option.map_eq_some_iff.1 hv
  obtain ⟨y, hy, rfl⟩ := Option.map_eq_some_iff.1 hx
  rw [hb1] at hT
  simp at hT
  subst hT
  obtain ⟨q1, q2, q3, q4⟩ := h3 k y b hy hb1
  refine ⟨⟨rfl, Or.inr ⟨b, 4, _, rfl, q1, q3, Nat.le_refl _, by unfold maxLen; omega, rfl, rfl⟩⟩, rfl⟩
 ·rw [sing_flat]
  rw [List.nodup_append]
  refine ⟨by cases u.ownBlock <;> simp, h4, ?_⟩
  intro a ha c hc e
  subst e
  obtain ⟨k, hk, hkc⟩ := List.getElem_of_mem hc
  obtain ⟨q1, q2, q3, q4⟩ := h3 k (L[k]'(by omega)) a (List.getElem?_eq_getElem (by omega)) (by rw [List.getElem?_eq_getElem hk, hkc])
  exact q4 (by simpa using ha)
theorem app_rowR2 {w w0 : World} {ops : Array Oper} {rest : List Oper} {o : Oper} {a : Act} {Q : Exit → Act → World → Prop} (hgd : o.guard = none) (s x : Operand)
  (ho : o.op = .call { callee := .builtin .append, args := #[s, x], argTypes := #[30, 30] }) {v : Value} {L : List Q4} {bd : Nat} (hs : a.eval s = v) (h : OwnR w w0.heap.size bd v L) (b r : Nat) (y : Q4)
  (hx : a.eval x = .slice (some ⟨b, 0, none⟩) 1 1) (hc : w.cell? ⟨b, 0, none⟩ = some (rowR r)) (hr : w0.heap.size ≤ r) (hbr : bd ≤ r) (hr2 : w.heap[r]? = some (fourR y)) (hr3 : v.ownBlock ≠ some r) (hl : L.length + 1 ≤ 1000000) (hsn : Since w0 w)
  (k : ∀ g cap w', OwnR w' w0.heap.size w'.heap.size (.slice (some ⟨g, 0, none⟩) (L.length + 1) cap) (L ++ [y]) → Since w0 w' → (∀ j, j < w.heap.size → v.ownBlock ≠ some j → w'.heap[j]? = w.heap[j]?) → (v.ownBlock = some g ∨ g = w.heap.size) → wpList Tryz.prog ops Q rest (a.put o.dst (.slice (some ⟨g, 0, none⟩) (L.length + 1) cap)) w') : wpList Tryz.prog ops Q (o :: rest) a w := by
 obtain ⟨i0, hi, hz0, hz1, hz2⟩ := info_parts rowR_info
 obtain ⟨bs, h1, h2, h3, h4⟩ := h
 refine wpList_append_lies w hgd s x 30 ho w0.heap.size 25 i0 _ 1 24 Tryz.underlying30 hi hz0 hz1 hz2 rfl (by decide) v L.length (bs.map rowR) hs h2 ⟨b, 0, none⟩ 1 1 [rowR r] hx rfl
  (by intro j u hj; match j, hj with | 0, hj => (simp at hj; subst hj; simpa [Addr.add] using hc) | j + 1, hj => simp at hj) (by simp [Value.oneCell', rowR]) (by omega) (by unfold maxLen; omega) (by omega) hsn.below.size w.heap.size rfl ?_
 intro g cap w' q1 q2 q3 q4
 have hbel : Since w0 w' := Below.grown hsn q2 hsn.below.size (fun q hq => (World.ownsRow.lt h2 q hq).1)
 have hrl : r < w.heap.size := (Array.getElem?_eq_some_iff.1 hr2).1
 have hrb : w'.heap[r]? = some (fourR y) := by rw [q2.block r hrl (fun e => hr3 e.symm)]; exact hr2
 have hsz : r < w'.heap.size := (Array.getElem?_eq_some_iff.1 hrb).1
 have hgr : g ≠ r := fun e => by
  subst e
  rcases q3 with q3 | q3
  ·exact hr3 q3
  ·omega
 have hlt : ∀ c ∈ bs, c < bd := fun c hc => by
  obtain ⟨k, hk, hkc⟩ := List.getElem_of_mem hc
  exact (h3 k (L[k]'(by omega)) c (List.getElem?_eq_getElem (by omega)) (by rw [List.getElem?_eq_getElem hk, hkc])).2.1
 refine k g cap w' ⟨bs ++ [r], by simp [h1], by simpa using q1, fun k x b' hx hb => ?_, ?_⟩ hbel (fun j hj hne => q2.block j hj (fun e => hne e.symm)) q3
 ·rcases Nat.lt_or_ge k L.length with hk | hk
  ·rw [List.getElem?_append_left hk] at hx
   rw [List.getElem?_append_left (by omega)] at hb
   obtain ⟨p1, p2, p3, p4⟩ := h3 k x b' hx hb
   have hbl := (Array.getElem?_eq_some_iff.1 p3).1
   refine ⟨p1, by omega, by rw [q2.block b' hbl (fun e => p4 e.symm)]; exact p3, fun e => ?_⟩
   have e2 : g = b' := by simpa [Value.ownBlock] using e
   subst e2
   rcases q3 with q3 | q3
   ·exact p4 q3
   ·omega
  ·have hk1 : k = L.length := by
    have := lt_of_get hx
    simp at this; omega
   subst hk1
   rw [List.getElem?_append_right (Nat.le_refl _), Nat.sub_self] at hx
   rw [← h1, List.getElem?_append_right (Nat.le_refl _), Nat.sub_self] at hb
   simp at hx hb
   subst hx hb
   refine ⟨hr, hsz, hrb, fun e => hgr ?_⟩
   simpa [Value.ownBlock] using e
 ·rw [List.nodup_append]
  refine ⟨h4, by simp, ?_⟩
  intro a ha c hc e
  simp at hc
  subst e hc
  have := hlt _ ha
  omega
theorem app_rowR {w w0 : World} {ops : Array Oper} {rest : List Oper} {o : Oper} {a : Act} {Q : Exit → Act → World → Prop} (hgd : o.guard = none) (s x : Operand)
  (ho : o.op = .call { callee := .builtin .append, args := #[s, x], argTypes := #[30, 30] }) {v : Value} {L : List Q4} {bd : Nat} (hs : a.eval s = v) (h : OwnR w w0.heap.size bd v L) (b r : Nat) (y : Q4)
  (hx : a.eval x = .slice (some ⟨b, 0, none⟩) 1 1) (hc : w.cell? ⟨b, 0, none⟩ = some (rowR r)) (hr : w0.heap.size ≤ r) (hbr : bd ≤ r) (hr2 : w.heap[r]? = some (fourR y)) (hr3 : v.ownBlock ≠ some r) (hl : L.length + 1 ≤ 1000000) (hsn : Since w0 w)
  (k : ∀ g cap w', OwnR w' w0.heap.size w'.heap.size (.slice (some ⟨g, 0, none⟩) (L.length + 1) cap) (L ++ [y]) → Since w0 w' → wpList Tryz.prog ops Q rest (a.put o.dst (.slice (some ⟨g, 0, none⟩) (L.length + 1) cap)) w') : wpList Tryz.prog ops Q (o :: rest) a w :=
 app_rowR2 hgd s x ho hs h b r y hx hc hr hbr hr2 hr3 hl hsn fun g cap w' h1 h2 _ _ => k g cap w' h1 h2
end Go.Proofs.YtgmdpppljkmabaaGreat
namespace Go.Proofs.YtgmdpppljkmabaaGreat
/-! the crossings: the program's pairs of ports, and the reference's -/
def rowP (len : Nat → Nat) (v : Nat) : List (Nat × Nat) := (List.range (len v)).map fun i => (v, i)
def pairsOf {β : Type} (c : Nat × Nat → Nat × Nat → Bool) (f : Nat × Nat → Nat × Nat → β) : List (Nat × Nat) → List β
 | [] => []
 | p :: ps => (ps.filter (c p)).map (f p) ++ pairsOf c f ps
def portsFrom (len : Nat → Nat) (v n : Nat) : List (Nat × Nat) := (List.range' v n).flatMap (rowP len)
def crossAt {β : Type} (len : Nat → Nat) (c : Nat × Nat → Nat × Nat → Bool) (f : Nat × Nat → Nat × Nat → β) (v n i : Nat) : List β :=
 ((List.range' (v + 1) n).filter fun w => decide (i < len w) && c (v, i) (w, i)).map fun w => f (v, i) (w, i)
def crossAll {β : Type} (len : Nat → Nat) (c : Nat × Nat → Nat × Nat → Bool) (f : Nat × Nat → Nat × Nat → β) (v n : Nat) : List β :=
 (List.range' v n).flatMap fun u => (List.range (len u)).flatMap fun i => crossAt len c f u (v + n - (u + 1)) i
section
variable {β : Type} {len : Nat → Nat} {c : Nat × Nat → Nat × Nat → Bool} {f : Nat × Nat → Nat × Nat → β}
theorem filt_one (n i : Nat) (p : Nat → Bool) (hp : ∀ j, p j = true → i = j) : (List.range n).filter p = if decide (i < n) && p i then [i] else [] := by
 induction n with
 | zero => simp
 | succ n ih =>
  rw [List.range_succ, List.filter_append, ih]
  by_cases hin : i = n
  ·subst hin
   cases hpi : p i <;> simp [hpi]
  ·have hpn : p n = false := by
    cases h : p n
    ·rfl
    ·exact absurd (hp n h) hin
   have e : decide (i < n + 1) = decide (i < n) := by
    apply decide_eq_decide.2; omega
   rw [e]
   simp [hpn]
theorem filt_row (hc : ∀ p q, c p q = true → p.2 = q.2) (v i w : Nat) : (rowP len w).filter (c (v, i)) = if decide (i < len w) && c (v, i) (w, i) then [(w, i)] else [] := by
 unfold rowP
 rw [List.filter_map, filt_one (len w) i (c (v, i) ∘ fun i => (w, i)) (fun j hj => hc (v, i) (w, j) hj)]
 simp only [Function.comp]
 split <;> rfl
theorem filt_ports (hc : ∀ p q, c p q = true → p.2 = q.2) (v i u n : Nat) : (portsFrom len u n).filter (c (v, i)) = ((List.range' u n).filter fun w => decide (i < len w) && c (v, i) (w, i)).map fun w => (w, i) := by
 induction n generalizing u with
 | zero => rfl
 | succ n ih =>
  have ih := ih (u + 1)
  unfold portsFrom at ih ⊢
  rw [List.range'_succ, List.flatMap_cons, List.filter_append, ih, filt_row hc, List.filter_cons]
  split <;> simp
theorem pairs_row (hc : ∀ p q, c p q = true → p.2 = q.2) (v n : Nat) (js : List Nat) (hjs : js.Nodup) : pairsOf c f ((js.map fun i => (v, i)) ++ portsFrom len (v + 1) n) = (js.flatMap fun i => crossAt len c f v n i) ++ pairsOf c f (portsFrom len (v + 1) n) := by
 induction js with
 | nil => rfl
 | cons i js ih =>
  have h1 := List.nodup_cons.1 hjs
  rw [List.map_cons, List.cons_append, pairsOf, ih h1.2, List.filter_append, filt_ports hc, List.flatMap_cons, List.append_assoc]
  congr 1
  have : (js.map fun i => (v, i)).filter (c (v, i)) = [] := by
   rw [List.filter_eq_nil_iff]
   intro q hq
   obtain ⟨j, hj, rfl⟩ := List.mem_map.1 hq
   intro h
   have := hc _ _ h
   simp at this
   subst this
   exact h1.1 hj
  rw [this, List.nil_append, crossAt, List.map_map]
  rfl
theorem pairs_all (hc : ∀ p q, c p q = true → p.2 = q.2) (v n : Nat) : pairsOf c f (portsFrom len v n) = crossAll len c f v n := by
 induction n generalizing v with
 | zero => rfl
 | succ n ih =>
  have h := pairs_row (f := f) (len := len) hc v n (List.range (len v)) List.nodup_range
  unfold crossAll
  rw [List.range'_succ, List.flatMap_cons]
  have e : portsFrom len v (n + 1) = (List.range (len v)).map (fun i => (v, i)) ++ portsFrom len (v + 1) n := by
   unfold portsFrom
   rw [List.range'_succ, List.flatMap_cons]; rfl
  rw [e, h, ih (v + 1), crossAll, show v + (n + 1) - (v + 1) = n by omega]
  congr 1
  simp only [show ∀ u, v + (n + 1) - (u + 1) = v + 1 + n - (u + 1) by omega]
end
end Go.Proofs.YtgmdpppljkmabaaGreat
namespace Go.Proofs.YtgmdpppljkmabaaGreat
open Go.RowKit
/-! distances from a node, by a walk that grows -/
def bstep (cur : Int) (st : List Int × List Int) (x : Int) : List Int × List Int := if st.1.getD x.toNat 0 < 0 then (st.1.set x.toNat (st.1.getD cur.toNat 0 + 1), st.2 ++ [x]) else st
def bsee (n : Net) (cur : Int) : List Int := (n.ends.getD cur.toNat []).map fun e => e.1
def bfs (n : Net) : Nat → List Int × List Int → Nat → List Int
 | 0, st, _ => st.1
 | f + 1, st, i => if i < st.2.length then bfs n f ((bsee n (st.2.getD i 0)).foldl (bstep (st.2.getD i 0)) st) (i + 1) else st.1
def bfsStart (n : Net) (v : Nat) : List Int × List Int := ((List.replicate n.ends.length (-1)).set v 0, [(v : Int)])
def distB (n : Net) (v : Nat) : List Int := bfs n (n.ends.length + 1) (bfsStart n v) 0
structure BI (N : Nat) (st : List Int × List Int) : Prop where
 len : st.1.length = N
 walk : ∀ x ∈ st.2, 0 ≤ x ∧ x < N
 cnt : st.2.length + st.1.countP (fun x => decide (x < 0)) = N
 val : ∀ x ∈ st.1, -1 ≤ x ∧ x < st.2.length
theorem BI.start {n : Net} {v : Nat} (hv : v < n.ends.length) : BI n.ends.length (bfsStart n v) where
 len := by simp [bfsStart]
 walk := fun x hx => by simp [bfsStart] at hx; omega
 cnt := by
  unfold bfsStart
  rw [List.countP_set (by simpa using hv)]
  simp [List.countP_replicate]
  omega
 val := fun x hx => by
  unfold bfsStart at hx ⊢
  rcases List.mem_or_eq_of_mem_set hx with hx | rfl
  ·have := List.eq_of_mem_replicate hx
   subst this
   simp
  ·simp
theorem BI.bd {N : Nat} {st : List Int × List Int} (h : BI N st) : st.2.length ≤ N := by have := h.cnt; omega
theorem BI.step {N : Nat} {st : List Int × List Int} (h : BI N st) {cur x : Int} (hc : 0 ≤ cur ∧ cur < N) (hx : 0 ≤ x ∧ x < N) : BI N (bstep cur st x) := by
 unfold bstep
 split
 ·rename_i hneg
  have hxl : x.toNat < st.1.length := by rw [h.len]; omega
  have hcl : cur.toNat < st.1.length := by rw [h.len]; omega
  have hx1 : st.1[x.toNat] < 0 := by rwa [List.getD_eq_getElem?_getD, List.getElem?_eq_getElem hxl] at hneg
  have hcv : -1 ≤ st.1.getD cur.toNat 0 ∧ st.1.getD cur.toNat 0 < st.2.length := by
   rw [List.getD_eq_getElem?_getD, List.getElem?_eq_getElem hcl]
   exact h.val _ (List.getElem_mem hcl)
  obtain ⟨q, hq⟩ : ∃ q, q = st.1.getD cur.toNat 0 := ⟨_, rfl⟩
  rw [← hq] at hcv ⊢
  refine ⟨by simp [h.len], fun y hy => ?_, ?_, fun y hy => ?_⟩
  ·rcases List.mem_append.1 hy with hy | hy
   ·exact h.walk y hy
   ·simp at hy; subst hy; exact hx
  ·have h2 := h.cnt
   have h3 : 0 < st.1.countP (fun x => decide (x < 0)) := List.countP_pos_iff.2 ⟨_, List.getElem_mem hxl, by simpa using hx1⟩
   have e1 : (decide (st.1[x.toNat] < 0)) = true := by simpa using hx1
   have e2 : (decide (q + 1 < 0)) = false := by simp; omega
   show (st.2 ++ [x]).length + _ = _
   rw [List.countP_set hxl, e1, e2, List.length_append]
   simp
   omega
  ·show _ ∧ y < ((st.2 ++ [x]).length : Nat)
   rw [List.length_append]
   rcases List.mem_or_eq_of_mem_set hy with hy | rfl
   ·have := h.val y hy; simp; omega
   ·simp; omega
 ·exact h
theorem see_in {n : Net} (hn : netOk n = true) {cur : Int} (hc : 0 ≤ cur ∧ cur < n.ends.length) : ∀ x ∈ bsee n cur, 0 ≤ x ∧ x < n.ends.length := by
 obtain ⟨k, rfl⟩ := Int.eq_ofNat_of_zero_le hc.1
 obtain ⟨es, hes⟩ := getx n.ends k (by omega)
 obtain ⟨-, hin⟩ := netOk_row hn hes
 intro x hx
 unfold bsee at hx
 rw [Int.toNat_natCast, List.getD_eq_getElem?_getD, hes] at hx
 obtain ⟨e, he, rfl⟩ := List.mem_map.1 hx
 exact hin e he
end Go.Proofs.YtgmdpppljkmabaaGreat
namespace Go.Proofs.YtgmdpppljkmabaaGreat
open Go.RowKit
end Go.Proofs.YtgmdpppljkmabaaGreat
namespace Go.Proofs.YtgmdpppljkmabaaGreat
open Go.RowKit
/-! edges: rows of four integers -/
abbrev Ed := Int × Int × Int × Int
def encD (e : Ed) : List Value := [.int .i64 e.1, .int .i64 e.2.1, .int .i64 e.2.2.1, .int .i64 e.2.2.2]
def OwnD (w : World) (base : Nat) (v : Value) (xs : List Ed) : Prop := w.ownsRow base 136 4 v xs.length (xs.flatMap encD)
theorem encD_get : ∀ {xs : List Ed} {k : Nat} {x : Ed}, xs[k]? = some x → (xs.flatMap encD)[k * 4]? = some (.int .i64 x.1) ∧ (xs.flatMap encD)[k * 4 + 1]? = some (.int .i64 x.2.1) ∧ (xs.flatMap encD)[k * 4 + 2]? = some (.int .i64 x.2.2.1) ∧ (xs.flatMap encD)[k * 4 + 3]? = some (.int .i64 x.2.2.2)
 | [], _, _, h => by simp at h
 | y :: xs, 0, x, h => by simp at h; subst h; simp [encD]
 | y :: xs, k + 1, x, h => by
  obtain ⟨h1, h2, h3, h4⟩ := encD_get (xs := xs) (k := k) (x := x) (by simpa using h)
  have e : ∀ j, ((y :: xs).flatMap encD)[(k + 1) * 4 + j]? = (xs.flatMap encD)[k * 4 + j]? := fun j => by
   rw [List.flatMap_cons, List.getElem?_append_right (by simp [encD]; omega)]
   congr 1
   simp [encD]; omega
  exact ⟨(e 0).trans h1, (e 1).trans h2, (e 2).trans h3, (e 3).trans h4⟩
theorem OwnD.keep {w w' : World} {base : Nat} {v : Value} {xs : List Ed} (h : OwnD w base v xs) (hb : Since w w') : OwnD w' base v xs := ownsRow_stable h fun k hk => hb.below.block k (World.ownsRow.lt h k (by simpa using hk)).2
theorem OwnD.mono {w : World} {base base' : Nat} {v : Value} {xs : List Ed} (h : OwnD w base v xs) (hb : base' ≤ base) : OwnD w base' v xs := ownsRow_mono h hb
def EdgeS (W : World) (v : Value) (xs : List Ed) : Prop := ∃ A c, v = .slice A xs.length c ∧ c ≤ maxLen ∧ xs.length ≤ c ∧ ∀ k x, xs[k]? = some x → ∃ b, A = some ⟨b, 0, none⟩ ∧ W.cell? ⟨b, k * 4, none⟩ = some (.int .i64 x.1) ∧ W.cell? ⟨b, k * 4 + 1, none⟩ = some (.int .i64 x.2.1) ∧ W.cell? ⟨b, k * 4 + 2, none⟩ = some (.int .i64 x.2.2.1) ∧ W.cell? ⟨b, k * 4 + 3, none⟩ = some (.int .i64 x.2.2.2)
theorem OwnD.read {w : World} {base : Nat} {v : Value} {xs : List Ed} (h : OwnD w base v xs) : EdgeS w v xs := by
 have h' := h
 rcases h.2 with ⟨rfl, hn⟩ | ⟨g, cap, cur, rfl, hb, hg, hnc, hcm, hsz, htk⟩
 ·have : xs = [] := List.eq_nil_of_length_eq_zero hn
  subst this
  exact ⟨none, 0, rfl, Nat.zero_le _, Nat.le_refl _, fun k x hk => by simp at hk⟩
 ·refine ⟨_, cap, rfl, hcm, hnc, fun k x hk => ⟨g, rfl, ?_⟩⟩
  obtain ⟨h1, h2, h3, h4⟩ := encD_get hk
  have hkl := lt_of_get hk
  exact ⟨by rw [World.ownsRow.cellAt (cap := cap) h' _ (by omega)]; exact h1, by rw [World.ownsRow.cellAt (cap := cap) h' _ (by omega)]; exact h2, by rw [World.ownsRow.cellAt (cap := cap) h' _ (by omega)]; exact h3, by rw [World.ownsRow.cellAt (cap := cap) h' _ (by omega)]; exact h4⟩
end Go.Proofs.YtgmdpppljkmabaaGreat
namespace Go.Proofs.YtgmdpppljkmabaaGreat
open Go.RowKit
def keepE (v i : Nat) (e : Int × Int) : Bool := decide ((v : Int) < e.1) || (((v : Int) == e.1) && decide ((i : Int) ≤ e.2))
def eone (v i : Nat) (e : Int × Int) : List Ed := if keepE v i e then [((v : Int), (i : Int), e.1, e.2)] else []
def erow (v : Nat) (es : List (Int × Int)) (i : Nat) : List Ed := (List.range i).flatMap fun j => eone v j (es.getD j (0, 0))
def rowOf (n : Net) (u : Nat) : List (Int × Int) := n.ends.getD u []
def edgesTo (n : Net) (v : Nat) : List Ed := (List.range v).flatMap fun u => erow u (rowOf n u) (rowOf n u).length
def edgesB (n : Net) : List Ed := edgesTo n n.ends.length
theorem erow_succ (v : Nat) (es : List (Int × Int)) (i : Nat) : erow v es (i + 1) = erow v es i ++ eone v i (es.getD i (0, 0)) := by
 unfold erow
 rw [List.range_succ, List.flatMap_append]
 simp
theorem edgesTo_succ (n : Net) (v : Nat) : edgesTo n (v + 1) = edgesTo n v ++ erow v (rowOf n v) (rowOf n v).length := by
 unfold edgesTo
 rw [List.range_succ, List.flatMap_append]
 simp
theorem erow_len (v : Nat) (es : List (Int × Int)) (i : Nat) : (erow v es i).length ≤ i := by
 induction i with
 | zero => simp [erow]
 | succ i ih =>
  rw [erow_succ, List.length_append]
  have : (eone v i (es.getD i (0, 0))).length ≤ 1 := by unfold eone; split <;> simp
  omega
theorem mem_edges {n : Net} {e : Ed} : e ∈ edgesB n ↔ ∃ v i, v < n.ends.length ∧ i < (rowOf n v).length ∧ keepE v i ((rowOf n v).getD i (0, 0)) = true ∧ e = ((v : Int), (i : Int), ((rowOf n v).getD i (0, 0)).1, ((rowOf n v).getD i (0, 0)).2) := by
 unfold edgesB edgesTo erow
 simp only [List.mem_flatMap, List.mem_range]
 constructor
 ·rintro ⟨v, hv, i, hi, he⟩
  unfold eone at he
  split at he
  ·rename_i hk
   exact ⟨v, i, hv, hi, hk, by simpa using he⟩
  ·simp at he
 ·rintro ⟨v, i, hv, hi, hk, rfl⟩
  exact ⟨v, hv, i, hi, by unfold eone; rw [if_pos hk]; simp⟩
end Go.Proofs.YtgmdpppljkmabaaGreat
namespace Go.Proofs.YtgmdpppljkmabaaGreat
open Go.RowKit
end Go.Proofs.YtgmdpppljkmabaaGreat
namespace Go.Proofs.YtgmdpppljkmabaaGreat
open Go.RowKit
/-! a slice of integers of the call's own that begins anywhere in its row (a queue) -/
def QA (W : World) (base g off cap : Nat) (xs : List Int) : Prop :=
 base ≤ g ∧ xs.length ≤ cap ∧ cap ≤ maxLen ∧ ∃ cur : Array Value, W.heap[g]? = some (.cells cur 3 (0, 0)) ∧ off + cap ≤ cur.size ∧ ∀ j x, xs[j]? = some x → cur[off + j]? = some (.int .i64 x)
theorem QA.cell {W : World} {base g off cap : Nat} {xs : List Int} (h : QA W base g off cap xs) {j : Nat} {x : Int} (hx : xs[j]? = some x) : W.cell? ⟨g, off + j, none⟩ = some (.int .i64 x) := by
 obtain ⟨-, -, -, cur, h1, -, h3⟩ := h
 simp [World.cell?, h1, h3 j x hx]
theorem QA.lt {W : World} {base g off cap : Nat} {xs : List Int} (h : QA W base g off cap xs) : g < W.heap.size := by
 obtain ⟨-, -, -, cur, h1, -⟩ := h
 exact (Array.getElem?_eq_some_iff.1 h1).1
theorem QA.stable {W W' : World} {base g off cap : Nat} {xs : List Int} (h : QA W base g off cap xs) (hs : W'.heap[g]? = W.heap[g]?) : QA W' base g off cap xs := by
 obtain ⟨h1, h2, h3, cur, h4, h5⟩ := h
 exact ⟨h1, h2, h3, cur, hs.trans h4, h5⟩
theorem QA.since {W W' : World} {base g off cap : Nat} {xs : List Int} (h : QA W base g off cap xs) (hs : Since W W') : QA W' base g off cap xs := h.stable (hs.below.block g h.lt)
theorem QA.other {W : World} {base g off cap : Nat} {xs : List Int} (h : QA W base g off cap xs) {b : Nat} (hb : g ≠ b) (k : Nat) (v : Value) : QA (W.setCell ⟨b, k, none⟩ v) base g off cap xs := h.stable (Below.heap_setCell W _ v g hb)
theorem QA.tail {W : World} {base g off cap : Nat} {x : Int} {xs : List Int} (h : QA W base g off cap (x :: xs)) : QA W base g (off + 1) (cap - 1) xs := by
 obtain ⟨h1, h2, h3, cur, h4, h5, h6⟩ := h
 rw [List.length_cons] at h2
 exact ⟨h1, by omega, by omega, cur, h4, by omega, fun j y hy => by
  have := h6 (j + 1) y (by simpa using hy)
  rwa [show off + (j + 1) = off + 1 + j by omega] at this⟩
theorem QA.nil {W : World} {base g off cap : Nat} {xs : List Int} (h : QA W base g off cap xs) : QA W base g off 0 [] := by
 obtain ⟨h1, h2, h3, cur, h4, h5, h6⟩ := h
 exact ⟨h1, Nat.le_refl _, Nat.zero_le _, cur, h4, by omega, fun j y hy => by simp at hy⟩
theorem QA.one (W : World) (base : Nat) (x : Int) (h : base ≤ W.heap.size) : QA (W.alloc (.cells #[.int .i64 x] 3)) base W.heap.size 0 1 [x] := by
 refine ⟨h, Nat.le_refl _, by simp [maxLen], #[.int .i64 x], ?_, by simp, fun j y hy => ?_⟩
 ·show (W.heap.push _)[W.heap.size]? = _
  rw [Array.getElem?_push_size]
 ·have := lt_of_get hy
  simp at this
  subst this
  simpa using hy
end Go.Proofs.YtgmdpppljkmabaaGreat
namespace Go.Proofs.YtgmdpppljkmabaaGreat
open Go.RowKit
end Go.Proofs.YtgmdpppljkmabaaGreat
namespace Go.Proofs.YtgmdpppljkmabaaGreat
open Go.RowKit
end Go.Proofs.YtgmdpppljkmabaaGreat
namespace Go.Proofs.YtgmdpppljkmabaaGreat
open Go.RowKit
end Go.Proofs.YtgmdpppljkmabaaGreat
namespace Go.Proofs.YtgmdpppljkmabaaGreat
open Go.RowKit
section
variable {α : Type} {p : α → Bool} {xs : List α}
end
end Go.Proofs.YtgmdpppljkmabaaGreat
namespace Go.Proofs.YtgmdpppljkmabaaGreat
open Go.RowKit
end Go.Proofs.YtgmdpppljkmabaaGreat
namespace Go.Proofs.YtgmdpppljkmabaaGreat
open Go.RowKit
end Go.Proofs.YtgmdpppljkmabaaGreat
namespace Go.Proofs.YtgmdpppljkmabaaGreat
open Go.RowKit
/-! all crossings of a network -/
def lenE (n : Net) (v : Nat) : Nat := (n.ends.getD v []).length
def cE (n : Net) (ls : List Int) (p q : Nat × Nat) : Bool := hidB n.ends ls ((p.1 : Int), (p.2 : Int)) ((q.1 : Int), (q.2 : Int))
def fE (p q : Nat × Nat) : Q4 := ((p.1 : Int), (p.2 : Int), (q.1 : Int), (q.2 : Int))
theorem cE_port {n : Net} {ls : List Int} (p q : Nat × Nat) (h : cE n ls p q = true) : p.2 = q.2 := by
 unfold cE hidB at h
 simp only [Bool.and_eq_true, beq_iff_eq] at h
 have := h.1.1.1.2
 omega
def cross3 (n : Net) (ls : List Int) (u i t : Nat) : List Q4 := ((List.range' (u + 1) t).filter fun w => decide (i < lenE n w) && cE n ls (u, i) (w, i)).map fun w => fE (u, i) (w, i)
def cross2 (n : Net) (ls : List Int) (u j : Nat) : List Q4 := (List.range j).flatMap fun i => cross3 n ls u i (n.ends.length - (u + 1))
def crossTo (n : Net) (ls : List Int) (k : Nat) : List Q4 := (List.range k).flatMap fun u => cross2 n ls u (lenE n u)
def crossings (n : Net) (ls : List Int) : List Q4 := crossTo n ls n.ends.length
theorem crossTo_succ (n : Net) (ls : List Int) (k : Nat) : crossTo n ls (k + 1) = crossTo n ls k ++ cross2 n ls k (lenE n k) := by
 unfold crossTo
 rw [List.range_succ, List.flatMap_append]
 simp
theorem cross2_succ (n : Net) (ls : List Int) (u j : Nat) : cross2 n ls u (j + 1) = cross2 n ls u j ++ cross3 n ls u j (n.ends.length - (u + 1)) := by
 unfold cross2
 rw [List.range_succ, List.flatMap_append]
 simp
theorem cross3_succ (n : Net) (ls : List Int) (u i t : Nat) : cross3 n ls u i (t + 1) = cross3 n ls u i t ++ if decide (i < lenE n (u + 1 + t)) && cE n ls (u, i) (u + 1 + t, i) then [fE (u, i) (u + 1 + t, i)] else [] := by
 unfold cross3
 rw [show List.range' (u + 1) (t + 1) = List.range' (u + 1) t ++ [u + 1 + t] by rw [List.range'_concat]; simp, List.filter_append, List.map_append]
 congr 1
 cases h : (decide (i < lenE n (u + 1 + t)) && cE n ls (u, i) (u + 1 + t, i)) <;> simp [h]
theorem cross3_len (n : Net) (ls : List Int) (u i t : Nat) : (cross3 n ls u i t).length ≤ t := by
 unfold cross3
 rw [List.length_map]
 refine Nat.le_trans (List.length_filter_le _ _) ?_
 simp
theorem flat_len {α β : Type} (f : α → List β) (b : Nat) : ∀ (l : List α), (∀ x ∈ l, (f x).length ≤ b) → (l.flatMap f).length ≤ l.length * b
 | [], _ => by simp
 | x :: r, h => by
  rw [List.flatMap_cons, List.length_append, List.length_cons, Nat.add_mul, Nat.one_mul]
  have h1 := h x (by simp)
  have h2 := flat_len f b r (fun y hy => h y (List.mem_cons_of_mem _ hy))
  omega
theorem cross2_len (n : Net) (ls : List Int) (u j : Nat) : (cross2 n ls u j).length ≤ j * n.ends.length := by
 have := flat_len (fun i => cross3 n ls u i (n.ends.length - (u + 1))) n.ends.length (List.range j) (fun i _ => Nat.le_trans (cross3_len n ls u i _) (by omega))
 rw [List.length_range] at this
 exact this
theorem lenE_le {n : Net} (hn : netOk n = true) (u : Nat) : lenE n u ≤ 6 := by
 unfold lenE
 cases h : n.ends[u]? with
 | none => simp [h]
 | some es =>
  have := (netOk_row hn h).1
  simp [h]
  omega
theorem crossTo_len {n : Net} (ls : List Int) (hn : netOk n = true) (k : Nat) : (crossTo n ls k).length ≤ k * 240 := by
 have hl := (netOk_len hn).2
 have := flat_len (fun u => cross2 n ls u (lenE n u)) 240 (List.range k) (fun u _ => Nat.le_trans (cross2_len n ls u _) (by have := lenE_le hn u; calc lenE n u * n.ends.length ≤ 6 * 40 := Nat.mul_le_mul (by omega) (by omega)
                                                                           _ = 240 := rfl))
 rw [List.length_range] at this
 exact this
theorem crossings_all (n : Net) (ls : List Int) : crossings n ls = pairsOf (cE n ls) fE (portsFrom (lenE n) 0 n.ends.length) := by
 rw [pairs_all cE_port]
 unfold crossings crossTo crossAll cross2 cross3 crossAt
 simp only [List.range_eq_range', Nat.zero_add]
/-! the pairs of the program, one port after the other -/
def pairRow (n : Net) (ls : List Int) (ps : List (Nat × Nat)) (a t : Nat) : List Q4 := (((ps.drop (a + 1)).take t).filter (cE n ls (ps.getD a (0, 0)))).map (fE (ps.getD a (0, 0)))
def pairTo (n : Net) (ls : List Int) (ps : List (Nat × Nat)) (k : Nat) : List Q4 := (List.range k).flatMap fun a => pairRow n ls ps a (ps.length - (a + 1))
theorem pairTo_succ (n : Net) (ls : List Int) (ps : List (Nat × Nat)) (k : Nat) : pairTo n ls ps (k + 1) = pairTo n ls ps k ++ pairRow n ls ps k (ps.length - (k + 1)) := by
 unfold pairTo
 rw [List.range_succ, List.flatMap_append]
 simp
theorem pairRow_succ {n : Net} {ls : List Int} {ps : List (Nat × Nat)} {a t : Nat} {q : Nat × Nat} (h : ps[a + 1 + t]? = some q) : pairRow n ls ps a (t + 1) = pairRow n ls ps a t ++ if cE n ls (ps.getD a (0, 0)) q then [fE (ps.getD a (0, 0)) q] else [] := by
 unfold pairRow
 rw [take_snoc (show (ps.drop (a + 1))[t]? = some q by rw [List.getElem?_drop]; exact h), List.filter_append, List.map_append]
 congr 1
 generalize ps.getD a (0, 0) = p
 cases h : cE n ls p q <;> simp [h]
theorem pairRow_len (n : Net) (ls : List Int) (ps : List (Nat × Nat)) (a t : Nat) : (pairRow n ls ps a t).length ≤ t := by
 unfold pairRow
 rw [List.length_map]
 refine Nat.le_trans (List.length_filter_le _ _) ?_
 rw [List.length_take]
 omega
theorem pairTo_len (n : Net) (ls : List Int) (ps : List (Nat × Nat)) (k : Nat) : (pairTo n ls ps k).length ≤ k * ps.length := by
 have := flat_len (fun a => pairRow n ls ps a (ps.length - (a + 1))) ps.length (List.range k) (fun i _ => Nat.le_trans (pairRow_len n ls ps i _) (by omega))
 rw [List.length_range] at this
 exact this
theorem pairTo_all (n : Net) (ls : List Int) : ∀ (ps : List (Nat × Nat)), pairTo n ls ps ps.length = pairsOf (cE n ls) fE ps
 | [] => rfl
 | p :: r => by
  have ih := pairTo_all n ls r
  unfold pairTo at ih ⊢
  rw [List.length_cons, List.range_succ_eq_map, List.flatMap_cons, List.flatMap_map, pairsOf, ← ih]
  congr 1
  ·unfold pairRow
   simp
  ·congr 1
   funext a
   unfold pairRow
   simp
def endsOf (ps : List (Nat × Nat)) : List (Int × Int) := ps.map fun p => ((p.1 : Int), (p.2 : Int))
theorem portsFrom_succ (len : Nat → Nat) (k : Nat) : portsFrom len 0 (k + 1) = portsFrom len 0 k ++ rowP len k := by
 unfold portsFrom
 rw [show List.range' 0 (k + 1) = List.range' 0 k ++ [k] by rw [List.range'_concat]; simp, List.flatMap_append]
 simp
theorem ports_len {n : Net} (hn : netOk n = true) (k : Nat) : (portsFrom (lenE n) 0 k).length ≤ k * 6 := by
 have := flat_len (rowP (lenE n)) 6 (List.range' 0 k) (fun u _ => by unfold rowP; rw [List.length_map, List.length_range]; exact lenE_le hn u)
 rw [List.length_range'] at this
 exact this
theorem ports_mem {n : Net} {p : Nat × Nat} (h : p ∈ portsFrom (lenE n) 0 n.ends.length) : p.1 < n.ends.length ∧ p.2 < lenE n p.1 := by
 unfold portsFrom at h
 obtain ⟨u, hu, hp⟩ := List.mem_flatMap.1 h
 unfold rowP at hp
 obtain ⟨i, hi, rfl⟩ := List.mem_map.1 hp
 simp at hu hi
 exact ⟨hu, hi⟩
theorem port_has {n : Net} {v i : Nat} (hv : v < n.ends.length) (hi : i < lenE n v) : hasPortB n.ends (v : Int) (i : Int) = true := by
 unfold hasPortB inB
 unfold lenE at hi
 simp only [Bool.and_eq_true, decide_eq_true_eq, Int.toNat_natCast]
 omega
end Go.Proofs.YtgmdpppljkmabaaGreat
namespace Go.Proofs.YtgmdpppljkmabaaGreat
open Go.RowKit
def crossOkB (n : Net) (ls : List Int) : Bool := netOk n && ((ls.length : Int) == (n.ends.length : Int))
def fnExactCrossingsOf_d (n : Net) (ls : List Int) : List (List Int) := if crossOkB n ls = true then (crossings n ls).map lst4 else []
def fnExactCrossingsOf_r1 (n : Net) (ls : List Int) : Bool := crossOkB n ls
theorem cx_bad {n : Net} {ls : List Int} (h : (!netOk n || ((ls.length : Int) != (n.ends.length : Int))) = true) : crossOkB n ls = false := by
 unfold crossOkB
 cases h1 : netOk n
 ·rfl
 ·simp only [h1, Bool.not_true, Bool.false_or, bne_iff_ne] at h
  rw [beq_eq_false_iff_ne.2 h]
  rfl
theorem cx_good {n : Net} {ls : List Int} (h : (!netOk n || ((ls.length : Int) != (n.ends.length : Int))) = false) : crossOkB n ls = true ∧ netOk n = true ∧ ls.length = n.ends.length := by
 simp only [Bool.or_eq_false_iff, Bool.not_eq_false', bne_eq_false_iff_eq] at h
 refine ⟨?_, h.1, by omega⟩
 unfold crossOkB
 rw [h.1, h.2]
 simp
theorem cx_tup {n : Net} {ls : List Int} (h : crossOkB n ls = true) (u : Value) : Ending.returned (.tuple #[u, .bool true]) = .returned (.tuple #[u, .bool (fnExactCrossingsOf_r1 n ls)]) := by
 unfold fnExactCrossingsOf_r1
 rw [h]
theorem cx_tupF {n : Net} {ls : List Int} (h : crossOkB n ls = false) (u : Value) : Ending.returned (.tuple #[u, .bool false]) = .returned (.tuple #[u, .bool (fnExactCrossingsOf_r1 n ls)]) := by
 unfold fnExactCrossingsOf_r1
 rw [h]
set_option maxRecDepth 100000 in
set_option maxHeartbeats 8000000 in
theorem fnExactCrossingsOf_spec (ve vi vn : Value) (n : Net) (vl : Value) (ls : List Int) (w : World) (h : NetIn w ve vi vn n) (hl : IntS w vl ls) (_ : szNet n ≤ 1048576) (_ : ls.length ≤ 1048576) :
  Calls Tryz.prog 10 #[.agg #[ve, vi, vn], vl] w fun e w' => ∃ u, e = .returned (.tuple #[u, .bool (fnExactCrossingsOf_r1 n ls)]) ∧ IntSS w' u (fnExactCrossingsOf_d n ls) ∧ Below w.heap.size w w' := by
 have HL0 := Lib.hid hl
 obtain ⟨LA, lc, rfl, _, hlm, _⟩ := hl
 unfold maxLen at hlm
 obtain ⟨w0, hw0⟩ : ∃ w0, w0 = (w).alloc (.cells #[ve, vi, vn] 27) := ⟨_, rfl⟩
 have hb0 : Below w.heap.size w w0 := by rw [hw0]; exact ((Below.refl _ _).alloc (by simp) _)
 have H := Lib.hid (h.keep hb0)
 obtain ⟨h1, h2, h3⟩ := h.keep hb0
 obtain ⟨A, c, rfl, hlc, hm, hA⟩ := h1
 obtain ⟨A2, c2, rfl, _, hm2, _⟩ := h2
 obtain ⟨A3, c3, rfl, _, hm3, _⟩ := h3
 unfold maxLen at hm hm2 hm3
 have p00 : ∀ W, Since w0 W → W.cell? ⟨w.heap.size, 0, none⟩ = some (.slice A n.ends.length c) := have_cell (by rw [hw0]; simp)
 have p01 : ∀ W, Since w0 W → W.cell? ⟨w.heap.size, 1, none⟩ = some (.slice A2 n.ids.length c2) := have_cell (by rw [hw0]; simp)
 have p02 : ∀ W, Since w0 W → W.cell? ⟨w.heap.size, 2, none⟩ = some (.slice A3 n.inputs.length c3) := have_cell (by rw [hw0]; simp)
 have Hb0 := Lib.hid hb0
 have Hw0 := Lib.hid hw0
 have HA := Lib.hid hA
 clear hA h
 clear hb0 hw0
 have HL := Lib.hid (HL0.out.keep Hb0.out)
 go_enter Tryz.func10, Tryz.ntmps10
 go_upto_region 1 with (fail)
 rw [← Hw0.out]
 refine wp_region_flow0 11 (Since w0) (since_refl _) ?_
 simp only [List.take_succ_cons, List.take_zero, List.drop_succ_cons, List.drop_zero]
 refine flow_val (v := ?_) rfl ?_ ?_; rotate_left; (intro W hW; go_simp; with_reducible rfl)
 simp only [zA]
 refine flow_op ?_ rfl ?_ ?_; rotate_left; (intro W hW; unfold Gives; go_simp; (with_reducible refine (neGood_any _ _ _ n W (H.out.keep hW.below)).mono ?_); rintro e W' ⟨rfl, hb3⟩; first | (refine ⟨?_, Since.trans hW hb3⟩; with_reducible rfl) | (subst hb3; refine ⟨?_, hW⟩; with_reducible rfl))
 simp only [zA]
 refine flow_val (v := ?_) rfl ?_ ?_; rotate_left; (intro W hW; go_simp; with_reducible rfl)
 simp only [zA]
 refine flow_val (v := ?_) rfl ?_ ?_; rotate_left; (intro W hW; go_simp; with_reducible rfl)
 simp only [zA]
 refine flow_gval (v := ?_) rfl rfl ?_ ?_; rotate_left; (intro hb; intro W hW; go_simp; with_reducible rfl)
 simp only [zA]
 refine flow_gval (v := ?_) rfl rfl ?_ ?_; rotate_left; (intro hb; intro W hW; go_simp; with_reducible rfl)
 simp only [zA]
 refine flow_gval (v := ?_) rfl rfl ?_ ?_; rotate_left; (intro hb; intro W hW; go_simp; with_reducible rfl)
 simp only [zA]
 refine flow_gval (v := ?_) rfl rfl ?_ ?_; rotate_left; (intro hb; intro W hW; go_simp; with_reducible rfl)
 simp only [zA]
 refine flow_gval (v := ?_) rfl rfl ?_ ?_; rotate_left; (intro hb; intro W hW; go_simp; with_reducible rfl)
 simp only [zA]
 refine flow_gval (v := ?_) rfl rfl ?_ ?_; rotate_left; (intro hb; intro W hW; go_simp; with_reducible rfl)
 simp only [zA]
 first | refine flow_or rfl rfl ?_ | (refine flow_val (v := ?_) rfl ?_ ?_; rotate_left; (intro W hW; go_simp; with_reducible rfl))
 simp only [zA]
 intro W1 hW1
 cases hg : (!netOk n || ((ls.length : Int) != (n.ends.length : Int)))
 ·obtain ⟨hok, hn, hll⟩ := cx_good hg
  have Hok := Lib.hid hok
  have Hn := Lib.hid hn
  have Hll := Lib.hid hll
  have hn40 := (netOk_len hn).2
  have HCL := Lib.hid (crossTo_len ls hn)
  have HLE := Lib.hid (lenE_le hn)
  clear hg hok hn hll
  go_wp2
  go_loopw [6, 25] (fun u i wr => ∃ k : Nat, k ≤ n.ends.length ∧ i = .int .i64 k ∧ OwnR wr w0.heap.size wr.heap.size u (crossTo n ls k) ∧ Since w0 wr) (fun _ i _ => n.ends.length - (intOf i).toNat)
  case atStart => exact ⟨0, Nat.zero_le _, rfl, ownR_nil _ _ _, hW1⟩
  case round =>
   obtain ⟨k, hk, rfl, ho, hsr⟩ := hrel
   have Ho := Lib.hid ho
   clear hW1 ho
   by_cases hlt : k < n.ends.length
   ·obtain ⟨es, hes⟩ := getx n.ends k hlt
    obtain ⟨b, offr, cr, ur, hA1, hkr, hc1, hrow⟩ := row_at H.out.es hes
    cases hA1
    obtain ⟨A1, z1, rfl, hz1, hz2, _⟩ := hrow
    unfold maxLen at hz2
    have q5 := have_cell hc1
    have Hle : Hid (lenE n k = es.length) := by show _ = _; unfold lenE; simp [hes]
    have m3 : IntKind.i64.wrap ((k : Int) + 1) = (k : Int) + 1 := wr64 _ (by omega) (by omega)
    have Hk := Lib.hid (And.intro hk hlt)
    have hk2 := hlt
    clear hes hc1 hk
    go_wp2
    go_loopw [6, 32] (fun u i wr => ∃ j : Nat, j ≤ es.length ∧ i = .int .i64 j ∧ OwnR wr w0.heap.size wr.heap.size u (crossTo n ls k ++ cross2 n ls k j) ∧ Since w0 wr) (fun _ i _ => es.length - (intOf i).toNat)
    case atStart => exact ⟨0, Nat.zero_le _, rfl, by simpa [cross2] using Ho.out, hsr⟩
    case round =>
     obtain ⟨j, hj, rfl, ho, hsr2⟩ := hrel
     have Ho2 := Lib.hid ho
     clear hsr ho
     by_cases hlt2 : j < es.length
     ·have Hj := Lib.hid (And.intro hj hlt2)
      obtain ⟨L0, hL0⟩ : ∃ L0, L0 = crossTo n ls k ++ cross2 n ls k j := ⟨_, rfl⟩
      rw [← hL0] at Ho2
      have HL0l : Hid (L0.length ≤ 10000) := by
       show _ ≤ _
       rw [hL0, List.length_append]
       have h1 := HCL.out k
       have h2 := cross2_len n ls k j
       have h3 := HLE.out k
       have h4 := Hle.out
       have h5 : j * n.ends.length ≤ 6 * 40 := Nat.mul_le_mul (by omega) (by omega)
       omega
      have Hnx : Hid (crossTo n ls k ++ cross2 n ls k (j + 1) = L0 ++ cross3 n ls k j (n.ends.length - (k + 1))) := by show _ = _; rw [cross2_succ, hL0, List.append_assoc]
      clear hL0 hj
      go_wp2
      go_loopw [6, 10] (fun u i wr => ∃ x : Nat, k + 1 ≤ x ∧ x ≤ n.ends.length ∧ i = .int .i64 x ∧ OwnR wr w0.heap.size wr.heap.size u (L0 ++ cross3 n ls k j (x - (k + 1))) ∧ Since w0 wr) (fun _ i _ => n.ends.length - (intOf i).toNat)
      case atStart => exact ⟨k + 1, Nat.le_refl _, by omega, by go_num, by simpa [cross3] using Ho2.out, hsr2⟩
      case round =>
       obtain ⟨x, hx1, hx2, rfl, ho, hsr3⟩ := hrel
       have Ho3 := Lib.hid ho
       clear hsr2 ho
       by_cases hlt3 : x < n.ends.length
       ·obtain ⟨ew, hew⟩ := getx n.ends x hlt3
        obtain ⟨b2, offr2, cr2, ur2, hA2, hkr2, hc2, hrow2⟩ := row_at H.out.es hew
        cases hA2
        obtain ⟨A2', z2', rfl, hz3, hz4, _⟩ := hrow2
        unfold maxLen at hz4
        have q6 := lift_cell (have_cell hc2) hsr3
        have q00 := lift_cell p00 hsr3
        have q01 := lift_cell p01 hsr3
        have q02 := lift_cell p02 hsr3
        have Hlw : Hid (lenE n x = ew.length) := by show _ = _; unfold lenE; simp [hew]
        have m4 : IntKind.i64.wrap ((x : Int) + 1) = (x : Int) + 1 := wr64 _ (by omega) (by omega)
        obtain ⟨LL, hLL⟩ : ∃ LL, LL = L0 ++ cross3 n ls k j (x - (k + 1)) := ⟨_, rfl⟩
        rw [← hLL] at Ho3
        have hLl : LL.length + 1 ≤ 1000000 := by
         rw [hLL, List.length_append]
         have h1 := HL0l.out
         have h2 := cross3_len n ls k j (x - (k + 1))
         omega
        obtain ⟨zb, hzb⟩ : ∃ zb, zb = (decide (j < ew.length) && hidB n.ends ls ((k : Int), (j : Int)) ((x : Int), (j : Int))) := ⟨_, rfl⟩
        have Hn3 : Hid (L0 ++ cross3 n ls k j (x + 1 - (k + 1)) = LL ++ if zb then [((k : Int), (j : Int), (x : Int), (j : Int))] else []) := by
         show _ = _
         rw [show x + 1 - (k + 1) = (x - (k + 1)) + 1 by omega, cross3_succ, hLL, List.append_assoc, show k + 1 + (x - (k + 1)) = x by omega, Hlw.out, hzb]
         rfl
        have Hzb := Lib.hid hzb
        have Hpa : Hid (hasPortB n.ends (k : Int) (j : Int) = true) := port_has hk2 (by rw [Hle.out]; exact Hj.out.2)
        have Hpb : Hid ((j : Int) < (ew.length : Int) → hasPortB n.ends (x : Int) (j : Int) = true) := fun hh => port_has hlt3 (by rw [Hlw.out]; omega)
        have HSr := Lib.hid hsr3
        have hww : Since wr wr := since_refl _
        clear hew hc2 hLL hzb hsr3
        go_upto_region 13 with (fail)
        refine wp_region_flow0 17 (Since wr) (hww) ?_
        simp only [List.take_succ_cons, List.take_zero, List.drop_succ_cons, List.drop_zero]
        refine flow_val (v := ?_) rfl ?_ ?_; rotate_left; (intro W hW; go_simp; with_reducible rfl)
        simp only [zA]
        refine flow_val (v := ?_) rfl ?_ ?_; rotate_left; (intro W hW; go_simp; with_reducible rfl)
        simp only [zA]
        refine flow_val (v := ?_) rfl ?_ ?_; rotate_left; (intro W hW; go_simp; with_reducible rfl)
        simp only [zA]
        refine flow_val (v := ?_) rfl ?_ ?_; rotate_left; (intro W hW; go_simp; with_reducible rfl)
        simp only [zA]
        refine flow_val (v := ?_) rfl ?_ ?_; rotate_left; (intro W hW; go_simp; with_reducible rfl)
        simp only [zA]
        refine flow_val (v := ?_) rfl ?_ ?_; rotate_left; (intro W hW; go_simp; with_reducible rfl)
        simp only [zA]
        refine flow_val (v := ?_) rfl ?_ ?_; rotate_left; (intro W hW; go_simp; with_reducible rfl)
        simp only [zA]
        refine flow_val (v := ?_) rfl ?_ ?_; rotate_left; (intro W hW; go_simp; with_reducible rfl)
        simp only [zA]
        refine flow_val (v := ?_) rfl ?_ ?_; rotate_left; (intro W hW; go_simp; with_reducible rfl)
        simp only [zA]
        refine flow_gval (v := ?_) rfl rfl ?_ ?_; rotate_left; (intro hb; intro W hW; go_simp; with_reducible rfl)
        simp only [zA]
        refine flow_gval (v := ?_) rfl rfl ?_ ?_; rotate_left; (intro hb; intro W hW; go_simp; with_reducible rfl)
        simp only [zA]
        refine flow_gval (v := ?_) rfl rfl ?_ ?_; rotate_left; (intro hb; intro W hW; go_simp; with_reducible rfl)
        simp only [zA]
        refine flow_gval (v := ?_) rfl rfl ?_ ?_; rotate_left; (intro hb; intro W hW; go_simp; with_reducible rfl)
        simp only [zA]
        refine flow_gval (v := ?_) rfl rfl ?_ ?_; rotate_left; (intro hb; intro W hW; go_simp; with_reducible rfl)
        simp only [zA]
        refine flow_gval (v := ?_) rfl rfl ?_ ?_; rotate_left; (intro hb; intro W hW; go_simp; with_reducible rfl)
        simp only [zA]
        refine flow_gop (v := ?_) rfl rfl ?_ ?_; rotate_left; (intro hb; intro W hW; unfold Gives; go_simp; (with_reducible refine (atHidden_any _ _ _ _ n ls (k : Int) (j : Int) (x : Int) (j : Int) W (H.out.keep (HSr.out.after hW).below) (HL.out.keep (HSr.out.after hW).below) Hn.out Hll.out Hpa.out (Hpb.out (by simpa using hb))).mono ?_); rintro e W' ⟨rfl, hb3⟩; first | (refine ⟨?_, Since.trans hW hb3⟩; with_reducible rfl) | (subst hb3; refine ⟨?_, hW⟩; with_reducible rfl))
        simp only [zA]
        first | refine flow_and rfl rfl ?_ | (refine flow_val (v := ?_) rfl ?_ ?_; rotate_left; (intro W hW; go_simp; with_reducible rfl))
        simp only [zA]
        intro w6 hW6
        have hs6 := HSr.out.after hW6
        have Ho6 := Lib.hid (Ho3.out.keep hW6)
        have Hsz6 := Lib.hid hW6.below.size
        clear q00 q01 q02 q6 hww hW6
        cases hc : (decide (j < ew.length) && hidB n.ends ls ((k : Int), (j : Int)) ((x : Int), (j : Int)))
        ·have Hn4 : Hid (L0 ++ cross3 n ls k j (x + 1 - (k + 1)) = LL) := by show _ = _; rw [Hn3.out, Hzb.out, hc]; simp
         clear hc
         go_wp2
         go_roundw
         case rel => exact ⟨x + 1, by omega, by omega, by go_num, by rw [Hn4.out]; exact Ho6.out.up Hsz6.out, hs6⟩
         case measure => simp [intOf]; omega
        ·have Hn4 : Hid (L0 ++ cross3 n ls k j (x + 1 - (k + 1)) = LL ++ [((k : Int), (j : Int), (x : Int), (j : Int))]) := by show _ = _; rw [Hn3.out, Hzb.out, hc]; simp
         clear hc
         obtain ⟨w8, hw8⟩ : ∃ w8, w8 = (w6.alloc (fourR ((k : Int), (j : Int), (x : Int), (j : Int)))).alloc (.cells #[rowR w6.heap.size] 25) := ⟨_, rfl⟩
         have hs8 : Since w0 w8 := by rw [hw8]; exact since_alloc _ (since_alloc _ hs6)
         have Ho8 : Hid (OwnR w8 w0.heap.size w6.heap.size u6 LL) := by show OwnR _ _ _ _ _; rw [hw8]; exact (Ho6.out.up Hsz6.out).keep (since_alloc _ (since_alloc _ (since_refl _)))
         have c8 : w8.cell? ⟨w6.heap.size + 1, 0, none⟩ = some (rowR w6.heap.size) := by rw [hw8]; simp
         have r8 : w8.heap[w6.heap.size]? = some (fourR ((k : Int), (j : Int), (x : Int), (j : Int))) := by
          have h1 : (w6.alloc (fourR ((k : Int), (j : Int), (x : Int), (j : Int)))).heap[w6.heap.size]? = some (fourR ((k : Int), (j : Int), (x : Int), (j : Int))) := heap_alloc_new w6 _
          have h2 : Since (w6.alloc (fourR ((k : Int), (j : Int), (x : Int), (j : Int)))) w8 := by rw [hw8]; exact since_alloc _ (since_refl _)
          rw [h2.below.block _ (Array.getElem?_eq_some_iff.1 h1).1]; exact h1
         have n8 : u6.ownBlock ≠ some w6.heap.size := fun e => by
          have := (Ho6.out.lt e).2
          omega
         have Hc8 := Lib.hid (And.intro c8 (And.intro r8 n8))
         have Hs8 := Lib.hid hs8
         have g6 : w0.heap.size ≤ w6.heap.size := (Since.below hs6).size
         have Hw8 := Lib.hid hw8
         simp only [fourR, rowR] at hw8
         clear hs8 c8 r8 n8
         go_wp2_with (at_builtin; rw [← hw8]; refine app_rowR rfl _ _ rfl rfl Ho8.out (w6.heap.size + 1) w6.heap.size ((k : Int), (j : Int), (x : Int), (j : Int)) rfl Hc8.out.1 g6 (Nat.le_refl _) Hc8.out.2.1 Hc8.out.2.2 hLl Hs8.out ?_; intro g9 cc9 w9 ho9 hs9)
         have Ho9 := Lib.hid ho9
         have Hs9 := Lib.hid hs9
         clear ho9 hs9 hs6 hw8
         go_wp2
         go_roundw
         case rel => exact ⟨x + 1, by omega, by omega, by go_num, by rw [Hn4.out]; first | exact Ho9.out | (simpa using Ho9.out), Hs9.out⟩
         case measure => simp [intOf]; omega
       ·obtain rfl : x = n.ends.length := by omega
        clear hlt3
        go_wp2
        go_roundw
        case rel => exact ⟨j + 1, by have := Hj.out; omega, by go_num, by rw [Hnx.out]; exact Ho3.out, hsr3⟩
        case measure => simp [intOf]; have := Hj.out; omega
     ·obtain rfl : j = es.length := by omega
      have Hnx : Hid (crossTo n ls (k + 1) = crossTo n ls k ++ cross2 n ls k es.length) := by show _ = _; rw [crossTo_succ, Hle.out]
      clear hlt2 hj
      go_wp2
      go_roundw
      case rel => exact ⟨k + 1, by omega, by go_num, by rw [Hnx.out]; exact Ho2.out, hsr2⟩
      case measure => simp [intOf]; omega
   ·obtain rfl : k = n.ends.length := by omega
    have HS := Lib.hid hsr
    clear hsr hlt hk
    go_wp2
    go_ret2
    exact ⟨u6, cx_tup Hok.out u6, by
     unfold fnExactCrossingsOf_d
     rw [if_pos Hok.out]
     obtain ⟨S, hS⟩ := Ho.out.toII (Nat.le_refl _)
     exact OwnII.read hS, Since.after Hb0.out HS.out⟩
 ·have Hbad := Lib.hid (cx_bad hg)
  have HW1 := Lib.hid hW1
  clear hW1 hg
  go_wp2
  go_ret2
  exact ⟨.slice none 0 0, cx_tupF Hbad.out _, by
   unfold fnExactCrossingsOf_d
   rw [if_neg (by rw [Hbad.out]; simp)]
   exact ⟨none, 0, rfl, Nat.le_refl _, Nat.zero_le _, fun k e hk => by simp at hk⟩, Since.after Hb0.out HW1.out⟩
end Go.Proofs.YtgmdpppljkmabaaGreat
