/- Parts of the proof: walks of functions and plain laws. -/
import Derived.Test.YtlfehdikgbgloaaP0
import Derived.Test.YtlfehdikgbgloaaP10
import Derived.Lib.SliceRun
import Derived.Test.YtlfehdikgbgloaaP4
import Derived.Laws.EntriesVeiled
import Derived.Test.YtlfehdikgbgloaaP7
import Derived.Test.YtlfehdikgbgloaaP2
namespace Go.Proofs.Ytlfehdikgbgloaa
theorem addMod {m x : Int} (hx : 0 ≤ x) (h : x < m) : (x + 1) % m = if x + 1 = m then 0 else x + 1 := by
  split
  · rename_i e; rw [e]; exact Int.emod_self
  · exact Int.emod_eq_of_lt (by omega) (by omega)
theorem subMod {m l : Int} (hl : 0 ≤ l) (h : l < m) : (l + m - 1) % m = if l = 0 then m - 1 else l - 1 := by
  split
  · rename_i e; subst e; rw [show (0 : Int) + m - 1 = m - 1 by omega]; exact Int.emod_eq_of_lt (by omega) (by omega)
  · rw [show l + m - 1 = (l - 1) + m by omega, Int.add_emod_right]; exact Int.emod_eq_of_lt (by omega) (by omega)
/-- the program's test of a node -/
def modI (m l : Int) (xs : List Int) : Bool :=
  decide (xs.countP (fun x => (x + 1) % m == l) ≤ 1) && (xs.countP (fun x => (x + 1) % m == l) + xs.countP (fun x => x == (l + 1) % m) == xs.length) && (xs.countP (fun x => (x + 1) % m == l) == 1 || l == 0)
/-- the reference's test of a node -/
def modS (m l : Int) (xs : List Int) : Bool :=
  (xs.all fun x => x == (l + m - 1) % m || x == (l + 1) % m) && (xs.countP (fun x => x == (l + m - 1) % m) == 1 || (xs.countP (fun x => x == (l + m - 1) % m) == 0 && l == 0))
theorem mod_less {m l x : Int} (hm : 3 ≤ m) (hl : 0 ≤ l) (hlm : l < m) (hx : 0 ≤ x) (hxm : x < m) : ((x + 1) % m == l) = (x == (l + m - 1) % m) := by
  rw [addMod hx hxm, subMod hl hlm, Bool.eq_iff_iff, beq_iff_eq, beq_iff_eq]
  split <;> split <;> omega
theorem mod_both {m l x : Int} (hm : 3 ≤ m) (hl : 0 ≤ l) (hlm : l < m) (h : x = (l + m - 1) % m) : ¬ x = (l + 1) % m := by
  rw [subMod hl hlm] at h
  rw [addMod hl hlm]
  split at h <;> split <;> omega
theorem count_sum {p q : Int → Bool} {xs : List Int} (hd : ∀ x ∈ xs, p x = true → q x = false) : xs.countP p + xs.countP q ≤ xs.length ∧ (xs.countP p + xs.countP q = xs.length ↔ ∀ x ∈ xs, p x = true ∨ q x = true) := by
  induction xs with
  | nil => simp
  | cons a xs ih =>
    have ih := ih (fun x hx => hd x (List.mem_cons_of_mem _ hx))
    have ha := hd a (by simp)
    rw [List.countP_cons, List.countP_cons, List.length_cons]
    cases hp : p a
    · cases hq : q a
      · simp only [Bool.false_eq_true, if_false, List.forall_mem_cons, hp, hq, false_or, false_and, iff_false]
        omega
      · simp only [Bool.false_eq_true, if_false, if_true, List.forall_mem_cons, hp, hq, or_true, true_and]
        refine ⟨by omega, ?_⟩
        rw [← ih.2]; omega
    · have hq := ha hp
      simp only [Bool.false_eq_true, if_false, if_true, List.forall_mem_cons, hp, hq, true_or, true_and]
      refine ⟨by omega, ?_⟩
      rw [← ih.2]; omega
theorem mod_eq {m l : Int} {xs : List Int} (hm : 3 ≤ m) (hl : 0 ≤ l) (hlm : l < m) (hx : ∀ x ∈ xs, 0 ≤ x ∧ x < m) : modI m l xs = modS m l xs := by
  have hc : xs.countP (fun x => (x + 1) % m == l) = xs.countP (fun x => x == (l + m - 1) % m) := by
    apply List.countP_congr
    intro x hxm
    rw [mod_less hm hl hlm (hx x hxm).1 (hx x hxm).2]
  have hs := count_sum (p := fun x => x == (l + m - 1) % m) (q := fun x => x == (l + 1) % m) (xs := xs) (fun x _ hp => by
    simp only [beq_iff_eq] at hp
    simpa using mod_both hm hl hlm hp)
  unfold modI modS
  rw [hc]
  generalize xs.countP (fun x => x == (l + m - 1) % m) = a at *
  generalize xs.countP (fun x => x == (l + 1) % m) = b at *
  rw [Bool.eq_iff_iff]
  simp only [Bool.and_eq_true, decide_eq_true_eq, beq_iff_eq, Bool.or_eq_true, List.all_eq_true] at *
  rw [← hs.2]
  constructor
  · rintro ⟨⟨h1, h2⟩, h3⟩
    refine ⟨h2, ?_⟩
    rcases h3 with h3 | h3
    · exact .inl h3
    · rcases Nat.eq_zero_or_pos a with h | h
      · exact .inr ⟨h, h3⟩
      · exact .inl (by omega)
  · rintro ⟨h1, h2⟩
    rcases h2 with h2 | ⟨h2, h3⟩
    · exact ⟨⟨by omega, h1⟩, .inl h2⟩
    · exact ⟨⟨by omega, h1⟩, .inr h3⟩
end Go.Proofs.Ytlfehdikgbgloaa
namespace Go.Proofs.Ytlfehdikgbgloaa
open Go.RowKit
theorem netOk_row {n : Net} (h : netOk n = true) {k : Nat} {es : List (Int × Int)} (hes : n.ends[k]? = some es) : es.length ≤ 6 ∧ ∀ e ∈ es, 0 ≤ e.1 ∧ e.1 < n.ends.length := by
  have hk := lt_of_get hes
  have h' := h
  unfold netOk at h
  rw [Bool.and_eq_true, List.all_eq_true] at h
  have := h.2 k (List.mem_range.2 hk)
  rw [getD_of hes] at this
  unfold rowOkB at this
  rw [Bool.and_eq_true, List.all_eq_true] at this
  refine ⟨by simpa using this.1, fun e he => ?_⟩
  obtain ⟨j, hj⟩ := List.getElem?_of_mem he
  have := this.2 j (List.mem_range.2 (lt_of_get hj))
  rw [getD_of hj] at this
  unfold endOkB at this
  rw [Bool.and_eq_true] at this
  exact hasPort_lt this.1
theorem cast_beq1 (c : Nat) : ((c : Int) == 1) = (c == 1) := by rw [Bool.eq_iff_iff]; simp; omega
theorem cast_beq0 (c : Nat) : ((c : Int) == 0) = (c == 0) := by rw [Bool.eq_iff_iff]; simp
theorem countP_snoc {p : Int → Bool} {xs : List Int} {y : Int} : (xs ++ [y]).countP p = xs.countP p + if p y then 1 else 0 := by
  rw [List.countP_append]; simp [List.countP_cons]
end Go.Proofs.Ytlfehdikgbgloaa
namespace Go.Proofs.Ytlfehdikgbgloaa
open Go.RowKit
theorem Own.cut {w : World} {base g n c : Nat} {xs : List Int} (h : Own w base (.slice (some ⟨g, 0, none⟩) n c) xs) (i : Nat) (hi : i ≤ n) : Own w base (.slice (some ⟨g, 0, none⟩) i c) (xs.take i) := by
  obtain rfl := h.len
  unfold Own at *
  have hl : (xs.take i).length = i := by simp; omega
  rw [hl]
  rcases h.2 with ⟨h', _⟩ | ⟨g', cap, cur, h', hb, hg, hnc, hm, hcs, htake⟩
  · simp at h'
  · simp only [Value.slice.injEq, Option.some.injEq, Addr.mk.injEq, and_true, true_and] at h'
    obtain ⟨rfl, rfl, rfl⟩ := h'
    refine ⟨by simp; omega, .inr ⟨g, c, cur, rfl, hb, hg, by omega, hm, hcs, ?_⟩⟩
    rw [List.map_take, ← htake, List.take_take]
    congr 1
    simp; omega
theorem Own.clear {base g n c : Nat} (m : Nat) : ∀ {w : World} {xs : List Int} (o : Nat), Own w base (.slice (some ⟨g, 0, none⟩) n c) xs → ∃ ys, Own (w.setCells g o (List.replicate m (.int .i64 0))) base (.slice (some ⟨g, 0, none⟩) n c) ys ∧ ys.take o = xs.take o := by
  induction m with
  | zero => intro w xs o h; exact ⟨xs, h, rfl⟩
  | succ m ih =>
    intro w xs o h
    obtain ⟨ys, h1, h2⟩ := ih (o + 1) (h.set (k := o) 0)
    refine ⟨ys, h1, ?_⟩
    have := congrArg (List.take o) h2
    rw [List.take_take, List.take_take, Nat.min_eq_left (by omega)] at this
    rw [this]
    apply List.ext_getElem?
    intro j
    rw [List.getElem?_take, List.getElem?_take]
    split
    · rw [List.getElem?_set_ne (by omega)]
    · rfl
theorem since_cells {w0 : World} {g : Nat} (hg : w0.heap.size ≤ g) (vs : List Value) : ∀ (w : World) (o : Nat), Since w0 w → Since w0 (w.setCells g o vs) := by
  induction vs with
  | nil => intro w o h; exact h
  | cons v vs ih => intro w o h; exact ih _ _ (Below.setCell h hg v)
def keptB (p : Int → Bool) (xs : List Int) : List Int := xs.filter fun x => !p x
theorem kept_le (p : Int → Bool) (xs : List Int) : (keptB p xs).length ≤ xs.length := List.length_filter_le _ _
end Go.Proofs.Ytlfehdikgbgloaa
namespace Go.Proofs.Ytlfehdikgbgloaa
open Go.RowKit
theorem Own.grown {w w' : World} {base : Nat} {v : Value} {xs : List Int} {row : Option Nat} (h : Own w base v xs) (hg : w.grownBy w' row) (hd : ∀ q, v.ownBlock = some q → row ≠ some q) : Own w' base v xs :=
  ownsRow_stable h fun q hq => hg.block q (World.ownsRow.lt h q (by simpa using hq)).2 (fun e => hd q (by simpa using hq) e.symm)
/-- append of a whole row of integers -/
theorem app_ints {w : World} {ops : Array Oper} {rest : List Oper} {o : Oper} {a : Act} {Q : Exit → Act → World → Prop} (hgd : o.guard = none) (s x : Operand)
    (ho : o.op = .call { callee := .builtin .append, args := #[s, x], argTypes := #[23, 23] }) {base : Nat} {v : Value} {xs : List Int} (hs : a.eval s = v) (h : Own w base v xs) (b off c : Nat) (ys : List Int)
    (hx : a.eval x = .slice (some ⟨b, off, none⟩) ys.length c) (hc : ∀ j y, ys[j]? = some y → w.cell? ⟨b, off + j, none⟩ = some (.int .i64 y)) (hy : 0 < ys.length) (hl : xs.length + ys.length ≤ 17592186044416) (hbase : base ≤ w.heap.size)
    (k : ∀ g cap w', Own w' base (.slice (some ⟨g, 0, none⟩) (xs.length + ys.length) cap) (xs ++ ys) → w.grownBy w' v.ownBlock → (v.ownBlock = some g ∨ g = w.heap.size) → g < w'.heap.size → wpList Try.prog ops Q rest (a.put o.dst (.slice (some ⟨g, 0, none⟩) (xs.length + ys.length) cap)) w') : wpList Try.prog ops Q (o :: rest) a w := by
  obtain ⟨i0, hi, hz0, hz1, hz2⟩ := info_parts int_info
  refine wpList_append_lies w hgd s x 23 ho base 3 i0 (.int .i64 0) 1 8 Try.underlying23 hi hz0 hz1 hz2 rfl (by decide) v xs.length (xs.map (Value.int .i64)) hs h ⟨b, off, none⟩ ys.length c (ys.map (Value.int .i64)) hx (by simp)
    (by
      intro j u hj
      rw [List.getElem?_map] at hj
      cases hyj : ys[j]? with
      | none => rw [hyj] at hj; simp at hj
      | some y =>
        rw [hyj] at hj
        simp at hj
        subst hj
        rw [Go.Addr.add_lit]
        exact hc j y hyj) (by simp [Value.oneCell']) hy (by unfold maxLen; omega) (by omega) hbase w.heap.size rfl ?_
  intro g cap w' h1 h2 h3 h4
  refine k g cap w' ?_ h2 h3 h4
  unfold Own
  simpa using h1
set_option maxHeartbeats 2000000 in
theorem l1Own_any (v : Value) (xs : List Int) (w : World) (h : IntS w v xs) (h0' : 0 < xs.length) (hl : xs.length ≤ 17592186044416) :
    Calls Try.prog 137 #[v] w fun e w' => ∃ u, e = .returned u ∧ Own w' w.heap.size u xs ∧ Below w.heap.size w w' := by
  obtain ⟨A, c, rfl, hlc, hm, hA⟩ := h
  unfold maxLen at hm
  have ho := own_lit w [] (by simp [maxLen])
  simp only [List.map_nil, List.length_nil] at ho
  obtain ⟨y0, hy0⟩ := getx xs 0 (by omega)
  obtain ⟨b, off, rfl, _⟩ := hA 0 y0 hy0
  have HA : Hid (∀ j y, xs[j]? = some y → w.cell? ⟨b, off + j, none⟩ = some (.int .i64 y)) := fun j y hj => by
    obtain ⟨b', off', e, hc⟩ := hA j y hj
    cases e
    exact hc
  have Ho := Lib.hid ho
  clear hA hy0 ho
  go_enter Try.func137, Try.ntmps137
  go_wp2_with (at_builtin; refine app_ints rfl _ _ rfl rfl Ho.out b off c xs rfl (fun j y hj => bc (below_alloc _ _) (HA.out j y hj)) h0' (by simpa using hl) (by simp) ?_; intro g cc w2 ho2 hg2 _ _)
  simp only [List.length_nil, Nat.zero_add, List.nil_append] at ho2 ⊢
  have Ho2 := Lib.hid ho2
  have Hb2 : Hid (Below w.heap.size w w2) := (below_alloc w _).grown hg2 (by simp) (fun j hj => (World.ownsRow.lt Ho.out j hj).1)
  clear ho2 hg2
  go_wp2
  go_ret
  exact ⟨_, rfl, Ho2.out, Hb2.out⟩
end Go.Proofs.Ytlfehdikgbgloaa
namespace Go.Proofs.Ytlfehdikgbgloaa
open Go.RowKit
end Go.Proofs.Ytlfehdikgbgloaa
namespace Go.Proofs.Ytlfehdikgbgloaa
open Go.RowKit
def rejNode (n : Net) (m : Int) (ls : List Int) (v : Int) : Bool := modS m (ls.getD v.toNat 0) (nearB ls (n.ends.getD v.toNat []))
def fnExactRejectModulo_r1 (n : Net) (m : Int) (ls : List Int) : Bool := netOk n && inB 3 40 m && ((ls.length : Int) == (n.ends.length : Int)) && ls.all (inB 0 (m - 1))
def fnExactRejectModulo_d (n : Net) (m : Int) (ls : List Int) : List Int := if fnExactRejectModulo_r1 n m ls then keptB (rejNode n m ls) (upto ls.length) else []
/-- what a node of good labels has -/
theorem rej_at {n : Net} {m : Int} {ls : List Int} (h : fnExactRejectModulo_r1 n m ls = true) {k : Nat} (hk : k < ls.length) :
    ∃ es l, n.ends[k]? = some es ∧ ls[k]? = some l ∧ es.length ≤ 6 ∧ (∀ e ∈ es, 0 ≤ e.1 ∧ e.1 < ls.length) ∧ 3 ≤ m ∧ m ≤ 40 ∧ 0 ≤ l ∧ l < m ∧ (∀ x ∈ nearB ls es, 0 ≤ x ∧ x < m) ∧ rejNode n m ls k = modS m l (nearB ls es) ∧ modI m l (nearB ls es) = modS m l (nearB ls es) := by
  unfold fnExactRejectModulo_r1 at h
  simp only [Bool.and_eq_true, beq_iff_eq] at h
  obtain ⟨⟨⟨h1, h2⟩, h3⟩, h4⟩ := h
  have hm := inB_iff.1 h2
  have hl : ls.length = n.ends.length := by omega
  obtain ⟨es, hes⟩ := getx n.ends k (by omega)
  obtain ⟨l, hl'⟩ := getx ls k hk
  obtain ⟨r1, r2⟩ := netOk_row h1 hes
  rw [List.all_eq_true] at h4
  have ha : ∀ x ∈ ls, 0 ≤ x ∧ x < m := fun x hx => by have := inB_iff.1 (h4 x hx); omega
  have hll := ha l (List.mem_of_getElem? hl')
  have hin : ∀ e ∈ es, 0 ≤ e.1 ∧ e.1 < ls.length := fun e he => by rw [hl]; exact r2 e he
  have hx : ∀ x ∈ nearB ls es, 0 ≤ x ∧ x < m := fun x hx => by
    obtain ⟨e, he, rfl⟩ := List.mem_map.1 hx
    obtain ⟨i1, i2⟩ := hin e he
    have : e.1.toNat < ls.length := by omega
    rw [List.getD_eq_getElem?_getD, List.getElem?_eq_getElem this]
    exact ha _ (List.getElem_mem this)
  exact ⟨es, l, hes, hl', r1, hin, hm.1, hm.2, hll.1, hll.2, hx, by simp [rejNode, hes, hl'], mod_eq hm.1 hll.1 hll.2 hx⟩
theorem kept_snoc (p : Int → Bool) (k : Nat) : keptB p (upto (k + 1)) = keptB p (upto k) ++ if p k then [] else [(k : Int)] := by
  rw [upto_snoc]
  unfold keptB
  rw [List.filter_append]
  congr 1
  cases h : p (k : Int) <;> simp [h]
def allB (ls : List Int) (lo hi : Int) : Bool := ls.all (inB lo hi)
theorem l1All_b (v : Value) (xs : List Int) (lo hi : Int) (w : World) (h : IntS w v xs) :
    Calls Try.prog 52 #[v, .int .i64 lo, .int .i64 hi] w fun e w' => e = .returned (.bool (allB xs lo hi)) ∧ w = w' := l1All_any v xs lo hi w h
theorem allWithin_b (v : Value) (xs : List Int) (lo hi : Int) (w : World) (h : IntS w v xs) :
    Calls Try.prog 82 #[v, .int .i64 lo, .int .i64 hi] w fun e w' => e = .returned (.bool (allB xs lo hi)) ∧ Below w.heap.size w w' := allWithin_any v xs lo hi w h
theorem rej_wrap {a c : Bool} {m : Int} (h : (a || !inB 3 40 m || c) = false) : IntKind.i64.wrap (m - 1) = m - 1 := by
  simp only [Bool.or_eq_false_iff, Bool.not_eq_false'] at h
  have := inB_iff.1 h.1.2
  exact wr64 _ (by omega) (by omega)
end Go.Proofs.Ytlfehdikgbgloaa
namespace Go.Proofs.Ytlfehdikgbgloaa
open Go.RowKit
/-- the verifier of remainders as a value -/
theorem rej_len {n : Net} {m : Int} {ls : List Int} (h : fnExactRejectModulo_r1 n m ls = true) : ls.length ≤ 1000000 := by
  unfold fnExactRejectModulo_r1 at h
  simp only [Bool.and_eq_true, beq_iff_eq] at h
  have := netOk_len h.1.1.1
  omega
theorem fnExactRejectModulo_dl (n : Net) (m : Int) (ls : List Int) (_ : szNet n ≤ 1048576) (hb : ls.length ≤ 1048576) : (fnExactRejectModulo_d n m ls).length ≤ 4611686018427387904 := by
  unfold fnExactRejectModulo_d
  split
  · have := kept_le (rejNode n m ls) (upto ls.length)
    rw [upto_len] at this
    omega
  · simp
end Go.Proofs.Ytlfehdikgbgloaa
namespace Go.Proofs.Ytlfehdikgbgloaa
open Go.RowKit
/-! the reference's test of a machine -/
def maRowB (xs : List Int) (many most : Int) : Bool := ((xs.length : Int) == many) && allB xs 0 (most - 1)
theorem maRow_any (v : Value) (xs : List Int) (many most : Int) (hm : 0 ≤ most ∧ most ≤ 1000000) (w : World) (h : IntS w v xs) :
    Calls Try.prog 76 #[v, .int .i64 many, .int .i64 most] w fun e w' => e = .returned (.bool (maRowB xs many most)) ∧ w = w' := by
  have H := Lib.hid h
  obtain ⟨A, c, rfl, hlc, hm2, _⟩ := h
  unfold maxLen at hm2
  have mw : IntKind.i64.wrap (most - 1) = most - 1 := wr64 _ (by omega) (by omega)
  cases hb : ((xs.length : Int) == many)
  · have hr := Lib.hid (show maRowB xs many most = false by simp [maRowB, hb])
    go_enter Try.func76, Try.ntmps76
    go_wp2
    go_ret
    exact ⟨ret_false hr.out, rfl⟩
  · have hr := Lib.hid (show maRowB xs many most = allB xs 0 (most - 1) by simp [maRowB, hb])
    go_enter Try.func76, Try.ntmps76
    go_wp2_with fail
    refine (l1All_b _ xs _ _ _ H.out).mono ?_
    rintro e w' ⟨rfl, rfl⟩
    go_wp2
    go_ret
    exact ⟨ret_bool hr.out.symm, rfl⟩
def clB (m : Mac) (c : Cl) : Bool := inB 0 (m.states - 1) c.state && inB 0 (m.states - 1) c.next && decide ((c.inbox.length : Int) ≤ m.degree) && allB c.inbox (-1) (m.messages - 1)
def macNums (m : Mac) : Bool := inB 0 6 m.degree && inB 1 12 m.states && inB 1 6 m.messages
def macLens (m : Mac) : Bool := ((m.start.length : Int) == m.degree + 1) && inB 1 10 ((m.start.getD 0 []).length : Int) && ((m.send.length : Int) == m.states) && decide ((m.clauses.length : Int) ≤ 60) && ((m.output.length : Int) == m.states) && allB m.output (-1) 9
def macOk (m : Mac) : Bool := macNums m && macLens m && m.start.all (fun l => maRowB l ((m.start.getD 0 []).length : Int) m.states) && m.send.all (fun l => maRowB l m.degree m.messages) && m.clauses.all (clB m)
end Go.Proofs.Ytlfehdikgbgloaa
namespace Go.Proofs.Ytlfehdikgbgloaa
open Go.RowKit
/-! distances from a node, by a walk that grows -/
def bstep (cur : Int) (st : List Int × List Int) (x : Int) : List Int × List Int := if st.1.getD x.toNat 0 < 0 then (st.1.set x.toNat (st.1.getD cur.toNat 0 + 1), st.2 ++ [x]) else st
def bsee (n : Net) (cur : Int) : List Int := (n.ends.getD cur.toNat []).map fun e => e.1
def bfs (n : Net) : Nat → List Int × List Int → Nat → List Int
  | 0, st, _ => st.1
  | f + 1, st, i => if i < st.2.length then bfs n f ((bsee n (st.2.getD i 0)).foldl (bstep (st.2.getD i 0)) st) (i + 1) else st.1
def bfsStart (n : Net) (v : Nat) : List Int × List Int := ((List.replicate n.ends.length (-1)).set v 0, [(v : Int)])
def distB (n : Net) (v : Nat) : List Int := bfs n (n.ends.length + 1) (bfsStart n v) 0
structure BI (N : Nat) (st : List Int × List Int) : Prop where
  len : st.1.length = N
  walk : ∀ x ∈ st.2, 0 ≤ x ∧ x < N
  cnt : st.2.length + st.1.countP (fun x => decide (x < 0)) = N
  val : ∀ x ∈ st.1, -1 ≤ x ∧ x < st.2.length
theorem BI.start {n : Net} {v : Nat} (hv : v < n.ends.length) : BI n.ends.length (bfsStart n v) where
  len := by simp [bfsStart]
  walk := fun x hx => by simp [bfsStart] at hx; omega
  cnt := by
    unfold bfsStart
    rw [List.countP_set (by simpa using hv)]
    simp [List.countP_replicate]
    omega
  val := fun x hx => by
    unfold bfsStart at hx ⊢
    rcases List.mem_or_eq_of_mem_set hx with hx | rfl
    · have := List.eq_of_mem_replicate hx
      subst this
      simp
    · simp
theorem BI.bd {N : Nat} {st : List Int × List Int} (h : BI N st) : st.2.length ≤ N := by have := h.cnt; omega
theorem BI.step {N : Nat} {st : List Int × List Int} (h : BI N st) {cur x : Int} (hc : 0 ≤ cur ∧ cur < N) (hx : 0 ≤ x ∧ x < N) : BI N (bstep cur st x) := by
  unfold bstep
  split
  · rename_i hneg
    have hxl : x.toNat < st.1.length := by rw [h.len]; omega
    have hcl : cur.toNat < st.1.length := by rw [h.len]; omega
    have hx1 : st.1[x.toNat] < 0 := by rwa [List.getD_eq_getElem?_getD, List.getElem?_eq_getElem hxl] at hneg
    have hcv : -1 ≤ st.1.getD cur.toNat 0 ∧ st.1.getD cur.toNat 0 < st.2.length := by
      rw [List.getD_eq_getElem?_getD, List.getElem?_eq_getElem hcl]
      exact h.val _ (List.getElem_mem hcl)
    obtain ⟨q, hq⟩ : ∃ q, q = st.1.getD cur.toNat 0 := ⟨_, rfl⟩
    rw [← hq] at hcv ⊢
    refine ⟨by simp [h.len], fun y hy => ?_, ?_, fun y hy => ?_⟩
    · rcases List.mem_append.1 hy with hy | hy
      · exact h.walk y hy
      · simp at hy; subst hy; exact hx
    · have h2 := h.cnt
      have h3 : 0 < st.1.countP (fun x => decide (x < 0)) := List.countP_pos_iff.2 ⟨_, List.getElem_mem hxl, by simpa using hx1⟩
      have e1 : (decide (st.1[x.toNat] < 0)) = true := by simpa using hx1
      have e2 : (decide (q + 1 < 0)) = false := by simp; omega
      show (st.2 ++ [x]).length + _ = _
      rw [List.countP_set hxl, e1, e2, List.length_append]
      simp
      omega
    · show _ ∧ y < ((st.2 ++ [x]).length : Nat)
      rw [List.length_append]
      rcases List.mem_or_eq_of_mem_set hy with hy | rfl
      · have := h.val y hy; simp; omega
      · simp; omega
  · exact h
theorem BI.fold {N : Nat} {cur : Int} (hc : 0 ≤ cur ∧ cur < N) : ∀ (xs : List Int) {st : List Int × List Int}, BI N st → (∀ x ∈ xs, 0 ≤ x ∧ x < N) → BI N (xs.foldl (bstep cur) st)
  | [], _, h, _ => h
  | x :: xs, _, h, hx => BI.fold hc xs (h.step hc (hx x (by simp))) (fun y hy => hx y (List.mem_cons_of_mem _ hy))
theorem bstep_walk (cur : Int) (st : List Int × List Int) (x : Int) : ∃ ys, (bstep cur st x).2 = st.2 ++ ys := by
  unfold bstep
  split
  · exact ⟨_, rfl⟩
  · exact ⟨[], by simp⟩
theorem fold_walk (cur : Int) : ∀ (xs : List Int) (st : List Int × List Int), ∃ ys, (xs.foldl (bstep cur) st).2 = st.2 ++ ys
  | [], st => ⟨[], by simp⟩
  | x :: xs, st => by
    obtain ⟨y1, h1⟩ := bstep_walk cur st x
    obtain ⟨y2, h2⟩ := fold_walk cur xs (bstep cur st x)
    exact ⟨y1 ++ y2, by rw [List.foldl_cons, h2, h1, List.append_assoc]⟩
theorem fold_snoc {cur : Int} {xs : List Int} {st : List Int × List Int} {j : Nat} {x : Int} (hx : xs[j]? = some x) : (xs.take (j + 1)).foldl (bstep cur) st = bstep cur ((xs.take j).foldl (bstep cur) st) x := by
  rw [take_snoc hx, List.foldl_append]
  rfl
theorem see_in {n : Net} (hn : netOk n = true) {cur : Int} (hc : 0 ≤ cur ∧ cur < n.ends.length) : ∀ x ∈ bsee n cur, 0 ≤ x ∧ x < n.ends.length := by
  obtain ⟨k, rfl⟩ := Int.eq_ofNat_of_zero_le hc.1
  obtain ⟨es, hes⟩ := getx n.ends k (by omega)
  obtain ⟨-, hin⟩ := netOk_row hn hes
  intro x hx
  unfold bsee at hx
  rw [Int.toNat_natCast, List.getD_eq_getElem?_getD, hes] at hx
  obtain ⟨e, he, rfl⟩ := List.mem_map.1 hx
  exact hin e he
theorem bfs_in {n : Net} (hn : netOk n = true) : ∀ (f : Nat) (st : List Int × List Int) (i : Nat), BI n.ends.length st → ∀ x ∈ bfs n f st i, -1 ≤ x ∧ x < n.ends.length
  | 0, st, _, h, x, hx => by have := h.val x hx; have := h.bd; omega
  | f + 1, st, i, h, x, hx => by
    unfold bfs at hx
    split at hx
    · rename_i hi
      have hw := h.walk (st.2.getD i 0) (by rw [List.getD_eq_getElem?_getD, List.getElem?_eq_getElem hi]; exact List.getElem_mem hi)
      exact bfs_in hn f _ (i + 1) (h.fold hw _ (see_in hn hw)) x hx
    · have := h.val x hx; have := h.bd; omega
theorem bfs_len {n : Net} (hn : netOk n = true) : ∀ (f : Nat) (st : List Int × List Int) (i : Nat), BI n.ends.length st → (bfs n f st i).length = n.ends.length
  | 0, st, _, h => h.len
  | f + 1, st, i, h => by
    unfold bfs
    split
    · rename_i hi
      have hw := h.walk (st.2.getD i 0) (by rw [List.getD_eq_getElem?_getD, List.getElem?_eq_getElem hi]; exact List.getElem_mem hi)
      exact bfs_len hn f _ (i + 1) (h.fold hw _ (see_in hn hw))
    · exact h.len
/-- the two tests of connectedness agree -/
theorem conn_eq {n : Net} (hn : netOk n = true) {v : Nat} (hv : v < n.ends.length) (hn40 : n.ends.length ≤ 40) : (distB n v).all (inB 0 40) = !(distB n v).contains (-1) := by
  have hb := bfs_in hn (n.ends.length + 1) (bfsStart n v) 0 (BI.start hv)
  rw [Bool.eq_iff_iff]
  simp only [List.all_eq_true, Bool.not_eq_true', Bool.eq_false_iff]
  constructor
  · intro h hc
    have := inB_iff.1 (h (-1) (by simpa using hc))
    omega
  · intro h x hx
    have := hb x hx
    refine inB_iff.2 ⟨?_, by omega⟩
    by_cases e : x = -1
    · subst e; exact absurd (by simpa using hx) h
    · omega
end Go.Proofs.Ytlfehdikgbgloaa
namespace Go.Proofs.Ytlfehdikgbgloaa
open Go Go.RowKit
/-! A region that draws its order: reads, a call that makes a row of integers, a new variable of type int, a slot for the row. -/
def I1 (W : World) (b : Nat) (x : Int) : Prop := W.heap[b]? = some (.cells #[.int .i64 x] 3)
theorem I1.cells {W : World} {b : Nat} {x : Int} (h : I1 W b x) : W.cell? ⟨b, 0, none⟩ = some (.int .i64 x) ∧ W.frozen? ⟨b, 0, none⟩ = false := by
  unfold I1 at h
  simp [World.cell?, World.frozen?, h]
theorem I1.lt {W : World} {b : Nat} {x : Int} (h : I1 W b x) : b < W.heap.size := (Array.getElem?_eq_some_iff.1 h).1
theorem I1.since {W W' : World} {b : Nat} {x : Int} (h : I1 W b x) (hs : Since W W') : I1 W' b x := (hs.below.block b h.lt).trans h
theorem I1.set {W : World} {b : Nat} {x : Int} (h : I1 W b x) (y : Int) : I1 (W.setCell ⟨b, 0, none⟩ (.int .i64 y)) b y := by
  unfold I1 at *
  simp [World.setCell, Array.getElem?_modify, h]
theorem I1.new (W : World) (x : Int) : I1 (W.alloc (.cells #[.int .i64 x] 3)) W.heap.size x := by
  show (W.heap.push _)[W.heap.size]? = _
  rw [Array.getElem?_push_size]
theorem int_zero (ev : Operand → Value) (d : Option Tmp) (ty : TypeId) (pos : String) (af : Array Edge) (W : World) : (execOp ev ⟨d, .alloc 3, ty, pos, af, none⟩).run Try.prog W = .ok (.value (ptr W.heap.size)) (W.alloc (.cells #[.int .i64 0] 3)) := by
  unfold ptr
  go_simp
theorem int_store (ev : Operand → Value) (ty : TypeId) (pos : String) (af : Array Edge) (W : World) (p x : Operand) (b : Nat) (q1 : Value) (y1 : Int) (h1 : ev p = ptr b) (h2 : ev x = .int .i64 y1) (h3 : W.cell? ⟨b, 0, none⟩ = some q1) (h5 : W.frozen? ⟨b, 0, none⟩ = false) :
    (execOp ev ⟨none, .store 3 p x, ty, pos, af, none⟩).run Try.prog W = .ok .skip (W.setCell ⟨b, 0, none⟩ (.int .i64 y1)) := by
  unfold ptr at h1
  go_simp
theorem own_setCell {W : World} {base b : Nat} {u : Value} {xs : List Int} (h : Own W base u xs) (hd : u.ownBlock ≠ some b) (v : Value) : Own (W.setCell ⟨b, 0, none⟩ v) base u xs :=
  ownsRow_stable h fun k hk => Below.heap_setCell W _ v k (fun e => hd (by simp at hk; rw [hk, e]))
section
variable {ops : Array Oper}
theorem wp_region_near {Q : Exit → Act → World → Prop} {rid : Nat} {a : Act} {w w0 : World} (m d x c s : Nat) (y : Int) (xs : List Int) (hm : Try.prog.follows .mixedOrders = true) (hf : flowB ops (m + 4) = true) (hsz : ops.size = m + 4) (hs0 : Since w0 w) {oc : Oper} (s0 : ops[m]? = some oc) (hoc : oc.dst = some c)
    (s1 : ∃ ty pos af, ops[m + 1]? = some ⟨some d, .alloc 3, ty, pos, af, none⟩) (s2 : ∃ ty pos af, ops[m + 2]? = some ⟨none, .store 3 (.tmp d) (.tmp x), ty, pos, af, none⟩) (s3 : ∃ ty pos af, ops[m + 3]? = some ⟨some s, .assign (.tmp c), ty, pos, af, none⟩)
    (hx : x ≠ d ∧ x ≠ c ∧ x ≠ s) (hd : d < a.tmps.size) (hc : c < a.tmps.size)
    (h : PFlow Try.prog ops w0 (fun A => A.eval (.tmp x) = .int .i64 y ∧ (Region.wanted oc (yielded ops A.tmps) = true ∧ ∀ W, Since w0 W → GivesAny Try.prog (fun W' u => Own W' W.heap.size u xs) oc A W) ∧
      ∀ u b W, Since w0 W → Own W w0.heap.size u xs → I1 W b y → Q .normal (((A.put (some c) u).put (some d) (ptr b)).put (some s) u) W) (ops.toList.take m) a) : (Code.region rid ops true).wp Try.prog Q a w := by
  have hok := flow_ok hf
  obtain ⟨vals, F, h0, ⟨hx1, ⟨hw1, hg1⟩, hfin⟩, hst'⟩ := pflow_frames _ a h
  have hlen : (ops.toList.take m).length = m := by simp; omega
  rw [hlen] at hx1 hw1 hg1 hfin
  have hget : ∀ i o, i < m → ops[i]? = some o → (ops.toList.take m)[i]? = some o := fun i o hi ho => by
    rw [List.getElem?_take, if_pos hi]; simpa using ho
  obtain ⟨ty1, ps1, af1, s1⟩ := s1
  obtain ⟨ty2, ps2, af2, s2⟩ := s2
  obtain ⟨ty3, ps3, af3, s3⟩ := s3
  have hF0 : ∀ i, i ≤ m → FrameIs a ops vals (fun j => j < i) (F i) := by
    intro i
    induction i with
    | zero => intro _; rw [h0]; exact ⟨rfl, rfl, fun j _ _ hj => absurd hj (by omega), fun _ _ => rfl⟩
    | succ i ih =>
      intro hi
      have hi' : i < ops.size := by omega
      have ho : ops[i]? = some ops[i] := Array.getElem?_eq_getElem hi'
      rw [(hst' i _ (hget i _ (by omega) ho)).2]
      exact ((ih (by omega)).put ho (fun j oj d hj hoj hd hd2 => by
        have := hok.dsts i _ (by omega) ho j oj (by omega) hoj d hd hd2
        omega)).same (fun j => by show (j < i ∨ j = i) ↔ j < i + 1; omega)
  let V : Value → Nat → Nat → Value := fun u b j => if j = m then u else if j = m + 1 then ptr b else if j = m + 3 then u else vals j
  have v0 : ∀ u b, V u b m = u := fun u b => if_pos rfl
  have v1 : ∀ u b, V u b (m + 1) = ptr b := fun u b => by show (if m + 1 = m then _ else if m + 1 = m + 1 then _ else _) = _; rw [if_neg (by omega), if_pos rfl]
  have v3 : ∀ u b, V u b (m + 3) = u := fun u b => by show (if m + 3 = m then _ else if m + 3 = m + 1 then _ else if m + 3 = m + 3 then _ else _) = _; rw [if_neg (by omega), if_neg (by omega), if_pos rfl]
  have vv : ∀ u b j, j < m → V u b j = vals j := fun u b j hj => by show (if j = m then _ else if j = m + 1 then _ else if j = m + 3 then _ else vals j) = _; rw [if_neg (by omega), if_neg (by omega), if_neg (by omega)]
  have hF : ∀ u b i, i ≤ m → FrameIs a ops (V u b) (fun j => j < i) (F i) := fun u b i hi => (hF0 i hi).vals (fun j hj => (vv u b j (by omega)).symm)
  refine wp_region_inv hm hok.back (fun D a' W => Since w0 W ∧ ∃ u b, FrameIs a ops (V u b) D a' ∧ (D m → Own W w0.heap.size u xs) ∧ (D (m + 1) → w0.heap.size ≤ b ∧ (D (m + 2) → I1 W b y) ∧ (¬ D (m + 2) → I1 W b 0)) ∧ (D m → D (m + 1) → u.ownBlock ≠ some b)) ?_ ?_ ?_
  · exact ⟨since_drew hs0, undef, 0, ⟨rfl, rfl, fun j _ _ hj => hj.elim, fun _ _ => rfl⟩, fun h => h.elim, fun h => h.elim, fun h => h.elim⟩
  · rintro D a' W i o ⟨hW, u, b, hfr, hO, hB, hne⟩ ho hDi hdep hcl
    have hin : i < m + 4 := by have := (Array.getElem?_eq_some_iff.1 ho).1; omega
    have look : ∀ t ∈ o.looksAt ops, ∀ j oj, ops[j]? = some oj → oj.dst = some t → D j ∧ j < i := fun t ht j oj hoj hd => by
      have hjn : j < m + 4 := by have := (Array.getElem?_eq_some_iff.1 hoj).1; omega
      have := hok.looks i o hin ho t ht j oj hjn hoj hd
      exact ⟨hdep j this, hok.back i o ho j this⟩
    have dist : ∀ j oj d, D j → ops[j]? = some oj → o.dst = some d → oj.dst ≠ some d := fun j oj d hj hoj hd hd2 => by
      have hjn : j < m + 4 := by have := (Array.getElem?_eq_some_iff.1 hoj).1; omega
      have := hok.dsts i o hin ho j oj hjn hoj d hd hd2
      subst this
      exact hDi hj
    have old : ∀ j, (D j ∨ j = i) → j ≠ i → D j := fun j h hj => h.elim (fun h => h) fun e => absurd e hj
    rcases Nat.lt_or_ge i m with him | him
    · obtain ⟨⟨hw, hrun⟩, -⟩ := hst' i o (hget i o him ho)
      obtain ⟨he, hw'⟩ := agree_exec (ops := ops) (a' := a') (A := F i) (fun t ht => hfr.agree (hF u b i (by omega)) t (fun j oj hj hoj hd => look t ht j oj hoj hd)) (fun cs b => hok.nosel i o cs b ho)
      rw [if_pos (hw'.trans hw)]
      unfold Oper.wp
      rw [he, hrun W hW]
      refine ⟨hW, u, b, ?_, fun h => hO (old _ h (by omega)), fun h => ?_, fun h h' => hne (old _ h (by omega)) (old _ h' (by omega))⟩
      · have := hfr.put (i := i) ho dist
        rwa [vv u b i him] at this
      · obtain ⟨q1, q2, q3⟩ := hB (old _ h (by omega))
        exact ⟨q1, fun h => q2 (old _ h (by omega)), fun h => q3 fun hh => h (.inl hh)⟩
    · obtain rfl | rfl | rfl | rfl : i = m ∨ i = m + 1 ∨ i = m + 2 ∨ i = m + 3 := by omega
      · rw [s0] at ho; cases ho
        obtain ⟨he, hw'⟩ := agree_exec (ops := ops) (a' := a') (A := F i) (fun t ht => hfr.agree (hF u b i (Nat.le_refl _)) t (fun j oj hj hoj hd => look t ht j oj hoj hd)) (fun cs b => hok.nosel i _ cs b s0)
        rw [if_pos (hw'.trans hw1)]
        unfold Oper.wp
        rw [he]
        have hgv := hg1 W hW
        unfold GivesAny at hgv
        have n3 : ¬ D (i + 3) := fun h => hDi (hcl _ _ h s3 _ (hok.looks (i + 3) _ (by omega) s3 c (by simp [Oper.looksAt, Op.operands]) i _ (by omega) s0 hoc))
        have next : ∀ u' W', Own W' W.heap.size u' xs → Since W W' → Since w0 W' ∧ ∃ u b, FrameIs a ops (V u b) (fun j => D j ∨ j = i) (a'.put oc.dst u') ∧ ((D i ∨ i = i) → Own W' w0.heap.size u xs) ∧ ((D (i + 1) ∨ i + 1 = i) → w0.heap.size ≤ b ∧ ((D (i + 2) ∨ i + 2 = i) → I1 W' b y) ∧ (¬ (D (i + 2) ∨ i + 2 = i) → I1 W' b 0)) ∧ ((D i ∨ i = i) → (D (i + 1) ∨ i + 1 = i) → u.ownBlock ≠ some b) := fun u' W' hr hs => by
          refine ⟨hW.after hs, u', b, ?_, fun _ => hr.mono hW.below.size, fun h => ?_, fun _ h => ?_⟩
          · have := (hfr.vals2 (v' := V u' b) (fun j hjn hj => by
              rcases Nat.lt_or_ge j i with h | h
              · rw [vv _ _ _ h, vv _ _ _ h]
              · obtain rfl | rfl | rfl | rfl : j = i ∨ j = i + 1 ∨ j = i + 2 ∨ j = i + 3 := by omega
                · exact absurd hj hDi
                · rw [v1, v1]
                · show (if i + 2 = i then _ else if i + 2 = i + 1 then _ else if i + 2 = i + 3 then _ else vals (i + 2)) = (if i + 2 = i then _ else if i + 2 = i + 1 then _ else if i + 2 = i + 3 then _ else vals (i + 2))
                  rw [if_neg (by omega), if_neg (by omega), if_neg (by omega), if_neg (by omega), if_neg (by omega), if_neg (by omega)]
                · exact absurd hj n3)).put (i := i) s0 dist
            rwa [v0] at this
          · obtain ⟨q1, q2, q3⟩ := hB (old _ h (by omega))
            exact ⟨q1, fun h => (q2 (old _ h (by omega))).since hs, fun h => (q3 fun hh => h (.inl hh)).since hs⟩
          · obtain ⟨q1, q2, q3⟩ := hB (old _ h (by omega))
            have hbl : b < W.heap.size := by
              by_cases h2 : D (i + 2)
              · exact (q2 h2).lt
              · exact (q3 h2).lt
            intro e
            have := (World.ownsRow.lt hr b e).1
            omega
        generalize (execOp (F i).eval oc).run Try.prog W = r at hgv ⊢
        cases r with
        | ok nx W' =>
          cases nx with
          | value u' => exact next u' W' hgv.1 hgv.2
          | enter f args =>
            simp only at hgv
            rw [Oper.upon_enter]
            exact hgv.mono fun e W'' ⟨u', he', hr, hs⟩ => by subst he'; exact next u' W'' hr hs
          | _ => exact hgv.elim
        | halt x W' => exact hgv.elim
      · rw [s1] at ho; cases ho
        rw [if_pos (show Region.wanted (⟨some d, .alloc 3, ty1, ps1, af1, none⟩ : Oper) (yielded ops a'.tmps) = true from rfl)]
        unfold Oper.wp
        rw [int_zero]
        have n2 : ¬ D (m + 2) := fun h => hDi (hcl _ _ h s2 _ (hok.looks (m + 2) _ (by omega) s2 d (by simp [Oper.looksAt, Op.operands]) (m + 1) _ (by omega) s1 rfl))
        refine ⟨since_alloc _ hW, u, W.heap.size, ?_, fun h => (hO (old _ h (by omega))).since (since_alloc _ (since_refl _)), fun _ => ⟨hW.below.size, fun h => (n2 (old _ h (by omega))).elim, fun _ => I1.new W 0⟩, fun h _ e => ?_⟩
        · have := (hfr.vals2 (v' := V u W.heap.size) (fun j hjn hj => by
            rcases Nat.lt_or_ge j m with h | h
            · rw [vv _ _ _ h, vv _ _ _ h]
            · obtain rfl | rfl | rfl | rfl : j = m ∨ j = m + 1 ∨ j = m + 2 ∨ j = m + 3 := by omega
              · rw [v0, v0]
              · exact absurd hj hDi
              · exact absurd hj n2
              · rw [v3, v3])).put (i := m + 1) s1 dist
          rwa [v1] at this
        · have := (World.ownsRow.lt (hO (old _ h (by omega))) _ e).2
          omega
      · rw [s2] at ho; cases ho
        rw [if_pos (show Region.wanted (⟨none, .store 3 (.tmp d) (.tmp x), ty2, ps2, af2, none⟩ : Oper) (yielded ops a'.tmps) = true from rfl)]
        have hD1 : D (m + 1) := (look d (by simp [Oper.looksAt, Op.operands]) (m + 1) _ s1 rfl).1
        obtain ⟨q1, q2, q3⟩ := hB hD1
        have q := q3 hDi
        obtain ⟨c1, c2⟩ := q.cells
        have e1 : a'.eval (.tmp d) = ptr b := by
          have := hfr.on (m + 1) _ d hD1 s1 rfl hd
          simp only [Act.eval, Array.getD_eq_getD_getElem?, this, Option.getD_some]
          exact v1 u b
        have e2 : a'.eval (.tmp x) = .int .i64 y := by
          rw [← hx1]
          have := hfr.agree (hF u b m (Nat.le_refl _)) x (fun j oj hj hoj hdd => ⟨(look x (by simp [Oper.looksAt, Op.operands]) j oj hoj hdd).1, by
            have hj' := (look x (by simp [Oper.looksAt, Op.operands]) j oj hoj hdd).2
            rcases Nat.lt_or_ge j m with hh | hh
            · exact hh
            · exfalso
              obtain rfl | rfl : j = m ∨ j = m + 1 := by omega
              · rw [s0] at hoj; cases hoj
                rw [hoc] at hdd
                exact hx.2.1 (Option.some.inj hdd).symm
              · rw [s1] at hoj; cases hoj
                exact hx.1 (Option.some.inj hdd).symm⟩)
          simp [Act.eval, this]
        unfold Oper.wp
        rw [int_store a'.eval _ _ _ W _ _ b _ y e1 e2 c1 c2]
        refine ⟨Below.setCell hW q1 _, u, b, ?_, fun h => own_setCell (hO (old _ h (by omega))) (hne (old _ h (by omega)) hD1) _, fun _ => ⟨q1, fun _ => q.set y, fun h => (h (.inr rfl)).elim⟩, fun h _ => hne (old _ h (by omega)) hD1⟩
        exact hfr.put (i := m + 2) s2 dist
      · rw [s3] at ho; cases ho
        rw [if_pos (show Region.wanted (⟨some s, .assign (.tmp c), ty3, ps3, af3, none⟩ : Oper) (yielded ops a'.tmps) = true from rfl)]
        have hD0 : D m := (look c (by simp [Oper.looksAt, Op.operands]) m _ s0 hoc).1
        have e1 : a'.eval (.tmp c) = u := by
          have := hfr.on m _ c hD0 s0 hoc hc
          simp only [Act.eval, Array.getD_eq_getD_getElem?, this, Option.getD_some]
          exact v0 u b
        unfold Oper.wp
        have hrun : (execOp a'.eval ⟨some s, .assign (.tmp c), ty3, ps3, af3, none⟩).run Try.prog W = .ok (.value u) W := by
          rw [← e1]
          generalize a'.eval = ev
          simp [execOp, go_sem]
        rw [hrun]
        refine ⟨hW, u, b, ?_, fun h => hO (old _ h (by omega)), fun h => ?_, fun h h' => hne (old _ h (by omega)) (old _ h' (by omega))⟩
        · have := hfr.put (i := m + 3) s3 dist
          rwa [v3] at this
        · obtain ⟨q1, q2, q3⟩ := hB (old _ h (by omega))
          exact ⟨q1, fun h => q2 (old _ h (by omega)), fun h => q3 fun hh => h (.inl hh)⟩
  · rintro D a' W ⟨hW, u, b, hfr, hO, hB, hne⟩ hall
    have dst1 : ∀ i o, i < m + 4 → ops[i]? = some o → ∀ j oj d, j < i → ops[j]? = some oj → o.dst = some d → oj.dst ≠ some d := fun i o hi ho j oj d hj hoj hd hd2 => by
      have := hok.dsts i o hi ho j oj (by omega) hoj d hd hd2
      omega
    have f1 := ((hF u b m (Nat.le_refl _)).put (i := m) s0 (fun j oj d hj hoj => dst1 m _ (by omega) s0 j oj d hj hoj)).same (E := fun j => j < m + 1) (fun j => by show (j < m ∨ j = m) ↔ j < m + 1; omega)
    have f2 := (f1.put (i := m + 1) s1 (fun j oj d hj hoj => dst1 (m + 1) _ (by omega) s1 j oj d hj hoj)).same (E := fun j => j < m + 2) (fun j => by show (j < m + 1 ∨ j = m + 1) ↔ j < m + 2; omega)
    have f3 := (f2.put (i := m + 2) s2 (fun j oj d hj hoj => dst1 (m + 2) _ (by omega) s2 j oj d hj hoj)).same (E := fun j => j < m + 3) (fun j => by show (j < m + 2 ∨ j = m + 2) ↔ j < m + 3; omega)
    have f4 := (f3.put (i := m + 3) s3 (fun j oj d hj hoj => dst1 (m + 3) _ (by omega) s3 j oj d hj hoj)).same (E := fun j => j < m + 4) (fun j => by show (j < m + 3 ∨ j = m + 3) ↔ j < m + 4; omega)
    have e := hfr.ext f4 (fun j hj => ⟨fun _ => by omega, fun _ => hall j hj⟩)
    rw [e, v0, v1, v3, hoc]
    exact hfin u b W hW (hO (hall m (by omega))) ((hB (hall (m + 1) (by omega))).2.1 (hall (m + 2) (by omega)))
end
end Go.Proofs.Ytlfehdikgbgloaa
