/- Parts of the proof: walks of functions and plain laws. -/
import Derived.Test.YtomnaabadohecaaGreatP9
import Derived.Test.YtomnaabadohecaaGreatP10
namespace Go.Proofs.YtomnaabadohecaaGreat
open Go.RowKit
/-! the state at the start of an asynchronous run: the parts -/
def flightL (n : Net) : List (List (List (Int × Int))) := n.ends.map fun es => List.replicate es.length []
theorem flightL_get {n : Net} {k : Nat} {es : List (Int × Int)} (h : n.ends[k]? = some es) : (flightL n)[k]? = some (List.replicate es.length []) := by
  unfold flightL
  rw [List.getElem?_map, h]
  rfl
theorem flightL_len (n : Net) : (flightL n).length = n.ends.length := by simp [flightL]
def startAs (m : Mac) (n : Net) : ASt := ⟨List.replicate n.ends.length 0, startB m n, startB m n, freeL n, flightL n⟩
theorem ownTTT_nil (w : World) (base : Nat) : OwnTTT w base (.slice none 0 0) [] [] := ⟨[], [], World.ownsRow_nil w base _ _, rfl, fun k u x T h => by simp at h, by simp [Value.ownBlock], by simp⟩
theorem app_rowTTT {w : World} {ops : Array Oper} {rest : List Oper} {o : Oper} {a : Act} {Q : Exit → Act → World → Prop} (hgd : o.guard = none) (s x : Operand)
    (ho : o.op = .call { callee := .builtin .append, args := #[s, x], argTypes := #[32, 32] }) {base : Nat} {v u : Value} {xss : List (List (List (Int × Int)))} {S T : List Nat} {xs : List (List (Int × Int))} (hs : a.eval s = v) (h : OwnTTT w base v xss S)
    (b : Nat) (hx : a.eval x = .slice (some ⟨b, 0, none⟩) 1 1) (hc : w.cell? ⟨b, 0, none⟩ = some u) (hu : OwnTT w base u xs T) (hd : ∀ j ∈ T, j ∉ S) (hl : xss.length + 1 ≤ 4000000) (hbs : base ≤ w.heap.size)
    (k : ∀ g cap w' S', OwnTTT w' base (.slice (some ⟨g, 0, none⟩) (xss.length + 1) cap) (xss ++ [xs]) S' → w.grownBy w' v.ownBlock → (∀ j ∈ S', j ∈ S ∨ j ∈ T ∨ j = w.heap.size) → Below base w w' → wpList Tryz.prog ops Q rest (a.put o.dst (.slice (some ⟨g, 0, none⟩) (xss.length + 1) cap)) w') : wpList Tryz.prog ops Q (o :: rest) a w := by
  obtain ⟨i0, hi, hz0, hz1, hz2⟩ := info_parts lets3_info
  have hvr := lawTTT.range h
  have h1b := h
  obtain ⟨vs, Ss, r1, r2, r3, r4, r5⟩ := h
  obtain ⟨A, m, c, rfl⟩ := lawTT.one hu
  refine wpList_append_lies w hgd s x 32 ho base 158 i0 _ 1 24 Tryz.underlying32 hi hz0 hz1 hz2 rfl (by decide) v xss.length vs hs r1 ⟨b, 0, none⟩ 1 1 [.slice A m c] hx rfl
    (by intro j u hj; match j, hj with | 0, hj => (simp at hj; subst hj; simpa [Addr.add] using hc) | j + 1, hj => simp at hj) (by simp [Value.oneCell']) (by omega) (by unfold maxLen; omega) (by omega) hbs w.heap.size rfl ?_
  intro g cap w' q1 q2 q3 q4
  obtain ⟨S', o1, o2⟩ := OwnRows.snoc lawTT h1b hu hd vs Ss r1 r2 r3 r4 r5 q1 q2 q3
  exact k g cap w' S' o1 q2 o2 (Below.grown (Below.refl base w |>.mono (Nat.le_refl _)) q2 hbs (fun q hq => (hvr q (by rw [r4, hq]; simp)).1))
theorem app_rowIIg {w : World} {ops : Array Oper} {rest : List Oper} {o : Oper} {a : Act} {Q : Exit → Act → World → Prop} (hgd : o.guard = none) (s x : Operand)
    (ho : o.op = .call { callee := .builtin .append, args := #[s, x], argTypes := #[22, 22] }) {base : Nat} {v u : Value} {xss : List (List Int)} {S : List Nat} {xs : List Int} (hs : a.eval s = v) (h : OwnII w base v xss S)
    (b : Nat) (hx : a.eval x = .slice (some ⟨b, 0, none⟩) 1 1) (hc : w.cell? ⟨b, 0, none⟩ = some u) (hu : Own w base u xs) (hd : ∀ j, u.ownBlock = some j → j ∉ S) (hl : xss.length + 1 ≤ 4000000) (hbs : base ≤ w.heap.size)
    (k : ∀ g cap w' S', OwnII w' base (.slice (some ⟨g, 0, none⟩) (xss.length + 1) cap) (xss ++ [xs]) S' → w.grownBy w' v.ownBlock → (∀ j ∈ S', j ∈ S ∨ u.ownBlock = some j ∨ j = w.heap.size) → Below base w w' → wpList Tryz.prog ops Q rest (a.put o.dst (.slice (some ⟨g, 0, none⟩) (xss.length + 1) cap)) w') : wpList Tryz.prog ops Q (o :: rest) a w := by
  obtain ⟨i0, hi, hz0, hz1, hz2⟩ := info_parts ss_info
  have hvr := lawII.range h
  have h1b := h
  obtain ⟨vs, Ss, r1, r2, r3, r4, r5⟩ := h
  obtain ⟨A, m, c, rfl⟩ := lawI.one (S := u.ownBlock.toList) ⟨hu, rfl⟩
  refine wpList_append_lies w hgd s x 22 ho base 24 i0 _ 1 24 Tryz.underlying22 hi hz0 hz1 hz2 rfl (by decide) v xss.length vs hs r1 ⟨b, 0, none⟩ 1 1 [.slice A m c] hx rfl
    (by intro j u hj; match j, hj with | 0, hj => (simp at hj; subst hj; simpa [Addr.add] using hc) | j + 1, hj => simp at hj) (by simp [Value.oneCell']) (by omega) (by unfold maxLen; omega) (by omega) hbs w.heap.size rfl ?_
  intro g cap w' q1 q2 q3 q4
  obtain ⟨S', o1, o2⟩ := OwnRows.snoc lawI h1b (T := (Value.slice A m c).ownBlock.toList) ⟨hu, rfl⟩ (fun j hj => hd j (by simpa using hj)) vs Ss r1 r2 r3 r4 r5 q1 q2 q3
  exact k g cap w' S' o1 q2 (fun j hj => by rcases o2 j hj with h | h | h <;> simp_all) (Below.grown (Below.refl base w |>.mono (Nat.le_refl _)) q2 hbs (fun q hq => (hvr q (by rw [r4, hq]; simp)).1))
/-! what the drawn region makes -/
def oI (B : Nat) (xs : List Int) (u : Value) (W : World) (lo hi : Nat) : Prop := B ≤ lo ∧ ∃ S, OwnI W lo u xs S ∧ ∀ j ∈ S, j < hi
def oII (B : Nat) (xs : List (List Int)) (u : Value) (W : World) (lo hi : Nat) : Prop := B ≤ lo ∧ ∃ S, OwnII W lo u xs S ∧ ∀ j ∈ S, j < hi
def oBx (B : Nat) (vs : Array Value) (t : TypeId) (u : Value) (W : World) (lo hi : Nat) : Prop := B ≤ lo ∧ ∃ b, u = .pointer (some ⟨b, 0, none⟩) ∧ lo ≤ b ∧ b < hi ∧ W.heap[b]? = some (.cells vs t (0, 0))
theorem oI.keep {B : Nat} {xs : List Int} {u : Value} {W W' : World} {lo hi : Nat} (h : oI B xs u W lo hi) (hs : Since W W') : oI B xs u W' lo hi := ⟨h.1, let ⟨S, h1, h2⟩ := h.2; ⟨S, lawI.keep h1 hs.below, h2⟩⟩
theorem oII.keep {B : Nat} {xs : List (List Int)} {u : Value} {W W' : World} {lo hi : Nat} (h : oII B xs u W lo hi) (hs : Since W W') : oII B xs u W' lo hi := ⟨h.1, let ⟨S, h1, h2⟩ := h.2; ⟨S, lawII.keep h1 hs.below, h2⟩⟩
theorem oBx.keep {B : Nat} {vs : Array Value} {t : TypeId} {u : Value} {W W' : World} {lo hi : Nat} (h : oBx B vs t u W lo hi) (hs : Since W W') : oBx B vs t u W' lo hi := by
  obtain ⟨h0, b, h1, h2, h3, h4⟩ := h
  exact ⟨h0, b, h1, h2, h3, by rw [hs.below.block b (Array.getElem?_eq_some_iff.1 h4).1]; exact h4⟩
theorem oI.zero {B : Nat} (W : World) (n : Nat) (hn : n ≤ 1000000) (hB : B ≤ W.heap.size) : oI B (List.replicate n 0) (.slice (some ⟨W.heap.size, 0, none⟩) n n) (W.alloc (.cells (Array.replicate n (Value.int .i64 0)) 3)) W.heap.size (W.alloc (.cells (Array.replicate n (Value.int .i64 0)) 3)).heap.size := by
  have h := own_lit W (List.replicate n 0) (by simp [maxLen]; omega)
  simp only [List.length_replicate, List.map_replicate, List.toArray_replicate] at h
  exact ⟨hB, _, ⟨h, rfl⟩, fun j hj => (World.ownsRow.lt h j (by simpa using hj)).2⟩
theorem oI.own {B : Nat} {xs : List Int} {u : Value} {W W' : World} (hB : B ≤ W.heap.size) (h : Own W' W.heap.size u xs) : oI B xs u W' W.heap.size W'.heap.size := ⟨hB, _, ⟨h, rfl⟩, fun j hj => (World.ownsRow.lt h j (by simpa using hj)).2⟩
theorem oII.own {B : Nat} {xs : List (List Int)} {u : Value} {W W' : World} {S : List Nat} (hB : B ≤ W.heap.size) (h : OwnII W' W.heap.size u xs S) : oII B xs u W' W.heap.size W'.heap.size := ⟨hB, _, h, fun j hj => (lawII.range h j hj).2⟩
def nil5 : Array Value := #[.slice none 0 0, .slice none 0 0, .slice none 0 0, .slice none 0 0, .slice none 0 0]
theorem oBx.new {B : Nat} (W : World) (vs : Array Value) (t : TypeId) (hB : B ≤ W.heap.size) : oBx B vs t (.pointer (some ⟨W.heap.size, 0, none⟩)) (W.alloc (.cells vs t)) W.heap.size (W.alloc (.cells vs t)).heap.size := ⟨hB, _, rfl, Nat.le_refl _, by simp, heap_alloc_new W _⟩
def oSt (iII iBx B : Nat) (m : Mac) (n : Net) (i : Nat) (u : Value) (W : World) (lo hi : Nat) : Prop :=
  if i = 3 then oI B (List.replicate n.ends.length 0) u W lo hi else if i = iII then oII B (freeL n) u W lo hi else if i = iBx then oBx B nil5 34 u W lo hi else oI B (startB m n) u W lo hi
theorem oSt.keep {iII iBx B : Nat} {m : Mac} {n : Net} {i : Nat} {u : Value} {W W' : World} {lo hi : Nat} (h : oSt iII iBx B m n i u W lo hi) (hs : Since W W') : oSt iII iBx B m n i u W' lo hi := by
  unfold oSt at h ⊢
  split
  · rename_i e; rw [if_pos e] at h; exact h.keep hs
  · rename_i e; rw [if_neg e] at h
    split
    · rename_i e; rw [if_pos e] at h; exact h.keep hs
    · rename_i e; rw [if_neg e] at h
      split
      · rename_i e; rw [if_pos e] at h; exact h.keep hs
      · rename_i e; rw [if_neg e] at h; exact h.keep hs
/-- a struct of five slices is stored -/
def stA5 (p u : Value) (W : World) : World := match p, u with
  | .pointer (some a), .agg vs => ((((W.setCell ⟨a.block, 0, none⟩ (vs.getD 0 undef)).setCell ⟨a.block, 1, none⟩ (vs.getD 1 undef)).setCell ⟨a.block, 2, none⟩ (vs.getD 2 undef)).setCell ⟨a.block, 3, none⟩ (vs.getD 3 undef)).setCell ⟨a.block, 4, none⟩ (vs.getD 4 undef)
  | _, _ => W
theorem stA5_eq (b : Nat) (v0 v1 v2 v3 v4 : Value) (W : World) : stA5 (.pointer (some ⟨b, 0, none⟩)) (.agg #[v0, v1, v2, v3, v4]) W = ((((W.setCell ⟨b, 0, none⟩ v0).setCell ⟨b, 1, none⟩ v1).setCell ⟨b, 2, none⟩ v2).setCell ⟨b, 3, none⟩ v3).setCell ⟨b, 4, none⟩ v4 := rfl
theorem stA5_box {b : Nat} {u0 u1 u2 u3 u4 v0 v1 v2 v3 v4 : Value} {W : World} (h : BoxA W b #[u0, u1, u2, u3, u4]) : BoxA (stA5 (.pointer (some ⟨b, 0, none⟩)) (.agg #[v0, v1, v2, v3, v4]) W) b #[v0, v1, v2, v3, v4] ∧ (∀ j, j ≠ b → (stA5 (.pointer (some ⟨b, 0, none⟩)) (.agg #[v0, v1, v2, v3, v4]) W).heap[j]? = W.heap[j]?) ∧ (stA5 (.pointer (some ⟨b, 0, none⟩)) (.agg #[v0, v1, v2, v3, v4]) W).heap.size = W.heap.size := by
  rw [stA5_eq]
  refine ⟨((((h.put 0 v0).put 1 v1).put 2 v2).put 3 v3).put 4 v4, fun j hj => ?_, by simp [sizeSet]⟩
  rw [Below.heap_setCell _ _ _ j (by simpa using hj), Below.heap_setCell _ _ _ j (by simpa using hj), Below.heap_setCell _ _ _ j (by simpa using hj), Below.heap_setCell _ _ _ j (by simpa using hj), Below.heap_setCell _ _ _ j (by simpa using hj)]
theorem stA5_below {b B : Nat} {v0 v1 v2 v3 v4 : Value} {W0 W : World} (h : Below B W0 W) (hb : B ≤ b) : Below B W0 (stA5 (.pointer (some ⟨b, 0, none⟩)) (.agg #[v0, v1, v2, v3, v4]) W) := by
  rw [stA5_eq]
  exact ((((h.setCell hb _).setCell hb _).setCell hb _).setCell hb _).setCell hb _
end Go.Proofs.YtomnaabadohecaaGreat
namespace Go.Proofs.YtomnaabadohecaaGreat
open Go.RowKit
/-! the state at the start of an asynchronous run: the program -/
theorem trunc_blk (w : World) {k j : Nat} (hk : k ≤ w.heap.size) (hj : j < k) : (trunc w k).heap[j]? = w.heap[j]? := ((trunc_since w hk).below.block j (by rw [trunc_size w hk]; exact hj)).symm
theorem run_mk_letrows (n : Nat) (hn : n ≤ 1000000) (w : World) : (Instr.makeSlice 158 (.int .i64 (n : Int)) (.int .i64 (n : Int))).run Tryz.prog w = .ok (.slice (some ⟨w.heap.size, 0, none⟩) n n) (w.alloc (.cells (Array.replicate n (Value.slice none 0 0)) 196)) := by
  obtain ⟨i0, hi, hz0, hz1, hz2⟩ := info_parts lets_info
  have hr := run_make (P := Tryz.prog) w 158 196 i0 (.slice none 0 0) Tryz.underlying158 hi hz0 .i64 .i64 n n (by omega) (Int.le_refl _) (by rw [hz2]; omega) (by omega)
  rw [hz1] at hr
  simp only [Int.toNat_natCast] at hr
  rw [show (Value.slice none 0 0).cells = #[Value.slice none 0 0] from rfl, made_rep] at hr
  exact hr
theorem ownTT_new (w : World) (n : Nat) (hn : n ≤ 1000000) : OwnTT (w.alloc (.cells (Array.replicate n (Value.slice none 0 0)) 196)) w.heap.size (.slice (some ⟨w.heap.size, 0, none⟩) n n) (List.replicate n []) [w.heap.size] := by
  have := OwnRows.made (R := OwnT) (e := 196) n (by simp [maxLen]; omega) ownT_nil w
  rw [List.toArray_replicate] at this
  exact this
theorem ownAs_of {w : World} {B Bf bx : Nat} {v1 v2 v3 v4 v5 : Value} {x : ASt} {S1 S2 S3 S4 S5 : List Nat} {lo hi : Nat → Nat} (h1 : OwnI w B v1 x.rounds S1) (h2 : OwnI w B v2 x.before S2) (h3 : OwnI w B v3 x.now S3) (h4 : OwnII w B v4 x.slots S4) (h5 : OwnTTT w Bf v5 x.flight S5) (hB : B ≤ Bf)
    (r1 : ∀ j ∈ S1, lo 1 ≤ j ∧ j < hi 1) (r2 : ∀ j ∈ S2, lo 2 ≤ j ∧ j < hi 2) (r3 : ∀ j ∈ S3, lo 3 ≤ j ∧ j < hi 3) (r4 : ∀ j ∈ S4, lo 4 ≤ j ∧ j < hi 4) (d : ∀ i j, i ∈ [1, 2, 3, 4] → j ∈ [1, 2, 3, 4] → i ≠ j → hi i ≤ lo j ∨ hi j ≤ lo i) (hf : ∀ i ∈ [1, 2, 3, 4], hi i ≤ Bf) (_ : bx = bx) :
    OwnAs w B v1 v2 v3 v4 v5 x (S1 ++ (S2 ++ (S3 ++ (S4 ++ S5)))) := by
  refine ⟨S1, S2, S3, S4, S5, h1, h2, h3, h4, lawTTT.mono h5 hB, rfl, ?_⟩
  have r5 := lawTTT.range h5
  have f1 := hf 1 (by simp)
  have f2 := hf 2 (by simp)
  have f3 := hf 3 (by simp)
  have f4 := hf 4 (by simp)
  have d12 := d 1 2 (by simp) (by simp) (by decide)
  have d13 := d 1 3 (by simp) (by simp) (by decide)
  have d14 := d 1 4 (by simp) (by simp) (by decide)
  have d23 := d 2 3 (by simp) (by simp) (by decide)
  have d24 := d 2 4 (by simp) (by simp) (by decide)
  have d34 := d 3 4 (by simp) (by simp) (by decide)
  rw [List.nodup_append, List.nodup_append, List.nodup_append, List.nodup_append]
  refine ⟨lawI.nodup h1, ⟨lawI.nodup h2, ⟨lawI.nodup h3, ⟨lawII.nodup h4, lawTTT.nodup h5, ?_⟩, ?_⟩, ?_⟩, ?_⟩
  · rintro a ha b hb rfl
    have := r4 a ha
    have := r5 a hb
    omega
  · rintro a ha b hb rfl
    have := r3 a ha
    rcases List.mem_append.1 hb with hb | hb
    · have := r4 a hb; omega
    · have := r5 a hb; omega
  · rintro a ha b hb rfl
    have := r2 a ha
    rcases List.mem_append.1 hb with hb | hb
    · have := r3 a hb; omega
    · rcases List.mem_append.1 hb with hb | hb
      · have := r4 a hb; omega
      · have := r5 a hb; omega
  · rintro a ha b hb rfl
    have := r1 a ha
    rcases List.mem_append.1 hb with hb | hb
    · have := r2 a hb; omega
    · rcases List.mem_append.1 hb with hb | hb
      · have := r3 a hb; omega
      · rcases List.mem_append.1 hb with hb | hb
        · have := r4 a hb; omega
        · have := r5 a hb; omega
set_option maxRecDepth 100000 in
set_option maxHeartbeats 16000000 in
theorem startAsync_any (ma mb mc md ve vi vn : Value) (m : Mac) (n : Net) (w : World) (hMa : MacIn w ma mb mc md m) (h : NetIn w ve vi vn n) (hAs : Asked m n) :
    Calls Tryz.prog 70 #[.agg #[.int .i64 m.degree, .int .i64 m.states, .int .i64 m.messages, ma, mb, mc, md], .agg #[ve, vi, vn]] w fun e w' => ∃ v1 v2 v3 v4 v5 S, e = .returned (.agg #[v1, v2, v3, v4, v5]) ∧ OwnAs w' w.heap.size v1 v2 v3 v4 v5 (startAs m n) S ∧ Below w.heap.size w w' := by
  have hn40 := (netOk_len hAs.net).2
  have HAs := Lib.hid hAs
  have HRow : Hid (∀ (k : Nat) (es : List (Int × Int)), n.ends[k]? = some es → es.length ≤ 6) := fun (k : Nat) (es : List (Int × Int)) he => (netOk_row HAs.out.net he).1
  clear hAs
  obtain ⟨w0, hw0⟩ : ∃ w0, w0 = ((w).alloc (.cells #[.int .i64 m.degree, .int .i64 m.states, .int .i64 m.messages, ma, mb, mc, md] 39)).alloc (.cells #[ve, vi, vn] 43) := ⟨_, rfl⟩
  have hb0 : Below w.heap.size w w0 := by rw [hw0]; exact (((Below.refl _ _).alloc (by simp <;> omega) _).alloc (by simp <;> omega) _)
  have H := Lib.hid (h.keep hb0)
  obtain ⟨h1, h2, h3⟩ := h.keep hb0
  obtain ⟨A, c, rfl, hlc, hm, hA⟩ := h1
  obtain ⟨A2, c2, rfl, _, hm2, _⟩ := h2
  obtain ⟨A3, c3, rfl, _, hm3, _⟩ := h3
  unfold maxLen at hm hm2 hm3
  have hkM := hMa.keep hb0
  have HM := Lib.hid hkM
  obtain ⟨M0, mz0, rfl, hlM0, hmM0, hMe0⟩ := id hkM.1
  unfold maxLen at hmM0
  have HMe0 := Lib.hid hMe0
  clear hMe0
  obtain ⟨M1, mz1, rfl, hlM1, hmM1, hMe1⟩ := id hkM.2.1
  unfold maxLen at hmM1
  have HMe1 := Lib.hid hMe1
  clear hMe1
  obtain ⟨M2, mz2, rfl, hlM2, hmM2, hMe2⟩ := id hkM.2.2.1
  unfold maxLen at hmM2
  have HMe2 := Lib.hid hMe2
  clear hMe2
  obtain ⟨M3, mz3, rfl, hlM3, hmM3, hMe3⟩ := id hkM.2.2.2
  unfold maxLen at hmM3
  have HMe3 := Lib.hid hMe3
  clear hMe3
  clear hkM hMa
  have p00 : ∀ W, Since w0 W → W.cell? ⟨w.heap.size, 0, none⟩ = some (.int .i64 m.degree) := have_cell (by rw [hw0]; simp)
  have p01 : ∀ W, Since w0 W → W.cell? ⟨w.heap.size, 1, none⟩ = some (.int .i64 m.states) := have_cell (by rw [hw0]; simp)
  have p02 : ∀ W, Since w0 W → W.cell? ⟨w.heap.size, 2, none⟩ = some (.int .i64 m.messages) := have_cell (by rw [hw0]; simp)
  have p03 : ∀ W, Since w0 W → W.cell? ⟨w.heap.size, 3, none⟩ = some (.slice M0 m.start.length mz0) := have_cell (by rw [hw0]; simp)
  have p04 : ∀ W, Since w0 W → W.cell? ⟨w.heap.size, 4, none⟩ = some (.slice M1 m.send.length mz1) := have_cell (by rw [hw0]; simp)
  have p05 : ∀ W, Since w0 W → W.cell? ⟨w.heap.size, 5, none⟩ = some (.slice M2 m.clauses.length mz2) := have_cell (by rw [hw0]; simp)
  have p06 : ∀ W, Since w0 W → W.cell? ⟨w.heap.size, 6, none⟩ = some (.slice M3 m.output.length mz3) := have_cell (by rw [hw0]; simp)
  have p10 : ∀ W, Since w0 W → W.cell? ⟨w.heap.size + 1, 0, none⟩ = some (.slice A n.ends.length c) := have_cell (by rw [hw0]; simp)
  have p11 : ∀ W, Since w0 W → W.cell? ⟨w.heap.size + 1, 1, none⟩ = some (.slice A2 n.ids.length c2) := have_cell (by rw [hw0]; simp)
  have p12 : ∀ W, Since w0 W → W.cell? ⟨w.heap.size + 1, 2, none⟩ = some (.slice A3 n.inputs.length c3) := have_cell (by rw [hw0]; simp)
  have Hb0 := Lib.hid hb0
  have Hw0 := Lib.hid hw0
  have HA := Lib.hid hA
  clear hA h
  clear hb0 hw0
  obtain ⟨wz, hwz⟩ : ∃ wz, wz = w0.alloc (.cells nil5 34) := ⟨_, rfl⟩
  have hsz : Since w0 wz := by rw [hwz]; exact since_alloc _ (since_refl _)
  have HRz : Hid (∀ X, Since wz X → BoxA X w0.heap.size nil5) := fun X hX => by
    have h1 : BoxA wz w0.heap.size nil5 := by rw [hwz]; exact BoxA.new _ _ _
    exact h1.below hX h1.lt
  have Hza : Hid (w0.heap.size + 1 = wz.heap.size) := by show _ = _; rw [hwz]; simp
  have HMz := Lib.hid (show ∀ X, Since wz X → MacIn X _ _ _ _ m from fun X hX => HM.out.keep (hsz.after hX).below)
  have HNz := Lib.hid (show ∀ X, Since wz X → NetIn X (.slice A n.ends.length c) (.slice A2 n.ids.length c2) (.slice A3 n.inputs.length c3) n from fun X hX => H.out.keep (hsz.after hX).below)
  have z00 := lift_cell p00 hsz
  have z01 := lift_cell p01 hsz
  have z02 := lift_cell p02 hsz
  have z03 := lift_cell p03 hsz
  have z04 := lift_cell p04 hsz
  have z05 := lift_cell p05 hsz
  have z06 := lift_cell p06 hsz
  have z10 := lift_cell p10 hsz
  have z11 := lift_cell p11 hsz
  have z12 := lift_cell p12 hsz
  have Hwz := Lib.hid hwz
  have Hsz := Lib.hid hsz
  have mkI := run_mk_ints n.ends.length (by omega)
  clear hwz hsz p00 p01 p02 p03 p04 p05 p06 p10 p11 p12
  unfold nil5 at Hwz
  go_enter Tryz.func70, Tryz.ntmps70
  go_upto_region 1 with (fail)
  rw [← Hw0.out, ← Hwz.out]
  have hO : ∀ (i : Nat) (u : Value) (W W' : World) (lo hi : Nat), (oSt 11 13 wz.heap.size m n) i u W lo hi → Since W W' → (oSt 11 13 wz.heap.size m n) i u W' lo hi := fun i u W W' lo hi h hs => oSt.keep h hs
  refine wp_region_dstl (w0 := wz) [fun V W => V 0 = .pointer (some ⟨w.heap.size + 1, 0, none⟩), fun V W => V 1 = .slice A n.ends.length c, fun V W => V 2 = .int .i64 n.ends.length, fun V W => ∃ A n c, V 3 = .slice A n c, fun V W => V 4 = .agg #[.int .i64 m.degree, .int .i64 m.states, .int .i64 m.messages, .slice M0 m.start.length mz0, .slice M1 m.send.length mz1, .slice M2 m.clauses.length mz2, .slice M3 m.output.length mz3], fun V W => V 5 = .agg #[.slice A n.ends.length c, .slice A2 n.ids.length c2, .slice A3 n.inputs.length c3], fun V W => ∃ A n c, V 6 = .slice A n c, fun V W => V 7 = .agg #[.int .i64 m.degree, .int .i64 m.states, .int .i64 m.messages, .slice M0 m.start.length mz0, .slice M1 m.send.length mz1, .slice M2 m.clauses.length mz2, .slice M3 m.output.length mz3], fun V W => V 8 = .agg #[.slice A n.ends.length c, .slice A2 n.ids.length c2, .slice A3 n.inputs.length c3], fun V W => ∃ A n c, V 9 = .slice A n c, fun V W => V 10 = .agg #[.slice A n.ends.length c, .slice A2 n.ids.length c2, .slice A3 n.inputs.length c3], fun V W => ∃ A n c, V 11 = .slice A n c, fun V W => V 12 = .agg #[V 3, V 6, V 9, V 11, .slice none 0 0], fun V W => ∃ b, V 13 = .pointer (some ⟨b, 0, none⟩) ∧ W.heap[b]? = some (.cells nil5 34 (0, 0)) ∧ wz.heap.size ≤ b, fun V W => True] (GI [3, 6, 9, 11, 13] (oSt 11 13 wz.heap.size m n)) 15 14 [] (fun V W => stA5 (V 13) (V 12) W) ?_ ?_ (fun V W => trivial) (by kernel_rfl) (by kernel_rfl) (by kernel_rfl) (by kernel_rfl) (by kernel_rfl) (since_refl _) (fun V W _ => GI.none _ _ _ _) ?_ ?_ ?_ ?_
  · intro r hr V W W' h hs
    simp only [List.mem_cons, List.not_mem_nil, or_false] at hr
    rcases hr with rfl | rfl | rfl | rfl | rfl | rfl | rfl | rfl | rfl | rfl | rfl | rfl | rfl | rfl | rfl
    · exact h
    · exact h
    · exact h
    · exact (h)
    · exact h
    · exact h
    · exact (h)
    · exact h
    · exact h
    · exact (h)
    · exact h
    · exact (h)
    · exact (h)
    · exact (⟨h.choose, h.choose_spec.1, (hs.below.block _ (Array.getElem?_eq_some_iff.1 h.choose_spec.2.1).1).trans h.choose_spec.2.1, h.choose_spec.2.2⟩)
    · exact (trivial)
  · intro j r hj V V' W h1 h2 h
    match j, hj with
    | 0, hj =>
      obtain rfl := Option.some.inj hj
      have h3 : V 0 = .pointer (some ⟨w.heap.size + 1, 0, none⟩) := h
      show V' 0 = .pointer (some ⟨w.heap.size + 1, 0, none⟩)
      rw [← h1]
      exact h3
    | 1, hj =>
      obtain rfl := Option.some.inj hj
      have h3 : V 1 = .slice A n.ends.length c := h
      show V' 1 = .slice A n.ends.length c
      rw [← h1]
      exact h3
    | 2, hj =>
      obtain rfl := Option.some.inj hj
      have h3 : V 2 = .int .i64 n.ends.length := h
      show V' 2 = .int .i64 n.ends.length
      rw [← h1]
      exact h3
    | 3, hj =>
      obtain rfl := Option.some.inj hj
      have h3 : ∃ A n c, V 3 = .slice A n c := h
      show ∃ A n c, V' 3 = .slice A n c
      rw [← h1]
      exact h3
    | 4, hj =>
      obtain rfl := Option.some.inj hj
      have h3 : V 4 = .agg #[.int .i64 m.degree, .int .i64 m.states, .int .i64 m.messages, .slice M0 m.start.length mz0, .slice M1 m.send.length mz1, .slice M2 m.clauses.length mz2, .slice M3 m.output.length mz3] := h
      show V' 4 = .agg #[.int .i64 m.degree, .int .i64 m.states, .int .i64 m.messages, .slice M0 m.start.length mz0, .slice M1 m.send.length mz1, .slice M2 m.clauses.length mz2, .slice M3 m.output.length mz3]
      rw [← h1]
      exact h3
    | 5, hj =>
      obtain rfl := Option.some.inj hj
      have h3 : V 5 = .agg #[.slice A n.ends.length c, .slice A2 n.ids.length c2, .slice A3 n.inputs.length c3] := h
      show V' 5 = .agg #[.slice A n.ends.length c, .slice A2 n.ids.length c2, .slice A3 n.inputs.length c3]
      rw [← h1]
      exact h3
    | 6, hj =>
      obtain rfl := Option.some.inj hj
      have h3 : ∃ A n c, V 6 = .slice A n c := h
      show ∃ A n c, V' 6 = .slice A n c
      rw [← h1]
      exact h3
    | 7, hj =>
      obtain rfl := Option.some.inj hj
      have h3 : V 7 = .agg #[.int .i64 m.degree, .int .i64 m.states, .int .i64 m.messages, .slice M0 m.start.length mz0, .slice M1 m.send.length mz1, .slice M2 m.clauses.length mz2, .slice M3 m.output.length mz3] := h
      show V' 7 = .agg #[.int .i64 m.degree, .int .i64 m.states, .int .i64 m.messages, .slice M0 m.start.length mz0, .slice M1 m.send.length mz1, .slice M2 m.clauses.length mz2, .slice M3 m.output.length mz3]
      rw [← h1]
      exact h3
    | 8, hj =>
      obtain rfl := Option.some.inj hj
      have h3 : V 8 = .agg #[.slice A n.ends.length c, .slice A2 n.ids.length c2, .slice A3 n.inputs.length c3] := h
      show V' 8 = .agg #[.slice A n.ends.length c, .slice A2 n.ids.length c2, .slice A3 n.inputs.length c3]
      rw [← h1]
      exact h3
    | 9, hj =>
      obtain rfl := Option.some.inj hj
      have h3 : ∃ A n c, V 9 = .slice A n c := h
      show ∃ A n c, V' 9 = .slice A n c
      rw [← h1]
      exact h3
    | 10, hj =>
      obtain rfl := Option.some.inj hj
      have h3 : V 10 = .agg #[.slice A n.ends.length c, .slice A2 n.ids.length c2, .slice A3 n.inputs.length c3] := h
      show V' 10 = .agg #[.slice A n.ends.length c, .slice A2 n.ids.length c2, .slice A3 n.inputs.length c3]
      rw [← h1]
      exact h3
    | 11, hj =>
      obtain rfl := Option.some.inj hj
      have h3 : ∃ A n c, V 11 = .slice A n c := h
      show ∃ A n c, V' 11 = .slice A n c
      rw [← h1]
      exact h3
    | 12, hj =>
      obtain rfl := Option.some.inj hj
      have h23 := h2 _ rfl 3 (by decide +kernel)
      have h26 := h2 _ rfl 6 (by decide +kernel)
      have h29 := h2 _ rfl 9 (by decide +kernel)
      have h211 := h2 _ rfl 11 (by decide +kernel)
      have h3 : V 12 = .agg #[V 3, V 6, V 9, V 11, .slice none 0 0] := h
      show V' 12 = .agg #[V' 3, V' 6, V' 9, V' 11, .slice none 0 0]
      rw [← h1, ← h23, ← h26, ← h29, ← h211]
      exact h3
    | 13, hj =>
      obtain rfl := Option.some.inj hj
      have h3 : ∃ b, V 13 = .pointer (some ⟨b, 0, none⟩) ∧ W.heap[b]? = some (.cells nil5 34 (0, 0)) ∧ wz.heap.size ≤ b := h
      show ∃ b, V' 13 = .pointer (some ⟨b, 0, none⟩) ∧ W.heap[b]? = some (.cells nil5 34 (0, 0)) ∧ wz.heap.size ≤ b
      rw [← h1]
      exact h3
    | 14, hj =>
      obtain rfl := Option.some.inj hj
      trivial
    | j + 15, hj => simp at hj
  · intro i o hi his ho D V W hW hd hnD hGG
    match i, ho with
    | 0, ho =>
      cases ho
      clear hd hi his
      refine ⟨rfl, ?_⟩
      simp only [putAll, show List.range 15 = [0, 1, 2, 3, 4, 5, 6, 7, 8, 9, 10, 11, 12, 13, 14] from rfl, List.getElem?_toArray, List.getElem?_cons_succ, List.getElem?_cons_zero]
      (try simp only [Act.put, List.setIfInBounds_toArray, List.set_cons_succ, List.set_cons_zero])
      refine dstep_val (u := .pointer (some ⟨w.heap.size + 1, 0, none⟩)) (W' := W) (by go_simp) ⟨since_refl _, ?_, GI.skip hO hGG (since_refl _) (by decide) _⟩
      exact upd_self V 0 _
    | 1, ho =>
      cases ho
      have e0 : V 0 = .pointer (some ⟨w.heap.size + 1, 0, none⟩) := hd 0 (by decide +kernel)
      clear hd hi his
      refine ⟨rfl, ?_⟩
      simp only [putAll, show List.range 15 = [0, 1, 2, 3, 4, 5, 6, 7, 8, 9, 10, 11, 12, 13, 14] from rfl, List.getElem?_toArray, List.getElem?_cons_succ, List.getElem?_cons_zero]
      (try simp only [Act.put, List.setIfInBounds_toArray, List.set_cons_succ, List.set_cons_zero])
      refine dstep_val (u := .slice A n.ends.length c) (W' := W) (by go_simp) ⟨since_refl _, ?_, GI.skip hO hGG (since_refl _) (by decide) _⟩
      exact upd_self V 1 _
    | 2, ho =>
      cases ho
      have e1 : V 1 = .slice A n.ends.length c := hd 1 (by decide +kernel)
      clear hd hi his
      refine ⟨rfl, ?_⟩
      simp only [putAll, show List.range 15 = [0, 1, 2, 3, 4, 5, 6, 7, 8, 9, 10, 11, 12, 13, 14] from rfl, List.getElem?_toArray, List.getElem?_cons_succ, List.getElem?_cons_zero]
      (try simp only [Act.put, List.setIfInBounds_toArray, List.set_cons_succ, List.set_cons_zero])
      refine dstep_val (u := .int .i64 n.ends.length) (W' := W) (by go_simp) ⟨since_refl _, ?_, GI.skip hO hGG (since_refl _) (by decide) _⟩
      exact upd_self V 2 _
    | 3, ho =>
      cases ho
      have e2 : V 2 = .int .i64 n.ends.length := hd 2 (by decide +kernel)
      clear hd hi his
      refine ⟨rfl, ?_⟩
      simp only [putAll, show List.range 15 = [0, 1, 2, 3, 4, 5, 6, 7, 8, 9, 10, 11, 12, 13, 14] from rfl, List.getElem?_toArray, List.getElem?_cons_succ, List.getElem?_cons_zero]
      (try simp only [Act.put, List.setIfInBounds_toArray, List.set_cons_succ, List.set_cons_zero])
      refine dstep_val (u := .slice (some ⟨W.heap.size, 0, none⟩) n.ends.length n.ends.length) (W' := W.alloc (.cells (Array.replicate n.ends.length (Value.int .i64 0)) 3)) (by clear hGG hO; go_simp) ⟨since_alloc _ (since_refl _), ⟨_, _, _, upd_self V 3 _⟩, GI.add hO hGG (since_alloc _ (since_refl _)) hnD ?_⟩
      show oSt _ _ _ _ _ _ _ _ _ _
      unfold oSt
      rw [if_pos rfl]
      exact oI.zero W _ (by omega) hW.below.size
    | 4, ho =>
      cases ho
      clear hd hi his
      refine ⟨rfl, ?_⟩
      simp only [putAll, show List.range 15 = [0, 1, 2, 3, 4, 5, 6, 7, 8, 9, 10, 11, 12, 13, 14] from rfl, List.getElem?_toArray, List.getElem?_cons_succ, List.getElem?_cons_zero]
      (try simp only [Act.put, List.setIfInBounds_toArray, List.set_cons_succ, List.set_cons_zero])
      refine dstep_val (u := .agg #[.int .i64 m.degree, .int .i64 m.states, .int .i64 m.messages, .slice M0 m.start.length mz0, .slice M1 m.send.length mz1, .slice M2 m.clauses.length mz2, .slice M3 m.output.length mz3]) (W' := W) (by go_simp) ⟨since_refl _, ?_, GI.skip hO hGG (since_refl _) (by decide) _⟩
      exact upd_self V 4 _
    | 5, ho =>
      cases ho
      clear hd hi his
      refine ⟨rfl, ?_⟩
      simp only [putAll, show List.range 15 = [0, 1, 2, 3, 4, 5, 6, 7, 8, 9, 10, 11, 12, 13, 14] from rfl, List.getElem?_toArray, List.getElem?_cons_succ, List.getElem?_cons_zero]
      (try simp only [Act.put, List.setIfInBounds_toArray, List.set_cons_succ, List.set_cons_zero])
      refine dstep_val (u := .agg #[.slice A n.ends.length c, .slice A2 n.ids.length c2, .slice A3 n.inputs.length c3]) (W' := W) (by go_simp) ⟨since_refl _, ?_, GI.skip hO hGG (since_refl _) (by decide) _⟩
      exact upd_self V 5 _
    | 6, ho =>
      cases ho
      have e4 : V 4 = .agg #[.int .i64 m.degree, .int .i64 m.states, .int .i64 m.messages, .slice M0 m.start.length mz0, .slice M1 m.send.length mz1, .slice M2 m.clauses.length mz2, .slice M3 m.output.length mz3] := hd 4 (by decide +kernel)
      have e5 : V 5 = .agg #[.slice A n.ends.length c, .slice A2 n.ids.length c2, .slice A3 n.inputs.length c3] := hd 5 (by decide +kernel)
      clear hd hi his
      refine ⟨rfl, ?_⟩
      simp only [putAll, show List.range 15 = [0, 1, 2, 3, 4, 5, 6, 7, 8, 9, 10, 11, 12, 13, 14] from rfl, List.getElem?_toArray, List.getElem?_cons_succ, List.getElem?_cons_zero]
      (try simp only [Act.put, List.setIfInBounds_toArray, List.set_cons_succ, List.set_cons_zero])
      have HG := Lib.hid hGG
      have HO := Lib.hid hO
      clear hGG hO
      unfold DStep
      go_simp
      (with_reducible refine (startStates_any _ _ _ _ _ _ _ m n W (HMz.out W hW) (HNz.out W hW) HAs.out).mono ?_)
      rintro e W1 ⟨u, rfl, ho, hb⟩
      obtain ⟨A9, n9, c9, rfl⟩ := lawI.one (S := u.ownBlock.toList) ⟨ho, rfl⟩
      refine ⟨_, rfl, hb, ⟨_, _, _, upd_self V 6 _⟩, GI.add HO.out HG.out hb hnD ?_⟩
      show oSt _ _ _ _ _ _ _ _ _ _
      unfold oSt
      rw [if_neg (by decide), if_neg (by decide), if_neg (by decide)]
      exact oI.own hW.below.size ho
    | 7, ho =>
      cases ho
      clear hd hi his
      refine ⟨rfl, ?_⟩
      simp only [putAll, show List.range 15 = [0, 1, 2, 3, 4, 5, 6, 7, 8, 9, 10, 11, 12, 13, 14] from rfl, List.getElem?_toArray, List.getElem?_cons_succ, List.getElem?_cons_zero]
      (try simp only [Act.put, List.setIfInBounds_toArray, List.set_cons_succ, List.set_cons_zero])
      refine dstep_val (u := .agg #[.int .i64 m.degree, .int .i64 m.states, .int .i64 m.messages, .slice M0 m.start.length mz0, .slice M1 m.send.length mz1, .slice M2 m.clauses.length mz2, .slice M3 m.output.length mz3]) (W' := W) (by go_simp) ⟨since_refl _, ?_, GI.skip hO hGG (since_refl _) (by decide) _⟩
      exact upd_self V 7 _
    | 8, ho =>
      cases ho
      clear hd hi his
      refine ⟨rfl, ?_⟩
      simp only [putAll, show List.range 15 = [0, 1, 2, 3, 4, 5, 6, 7, 8, 9, 10, 11, 12, 13, 14] from rfl, List.getElem?_toArray, List.getElem?_cons_succ, List.getElem?_cons_zero]
      (try simp only [Act.put, List.setIfInBounds_toArray, List.set_cons_succ, List.set_cons_zero])
      refine dstep_val (u := .agg #[.slice A n.ends.length c, .slice A2 n.ids.length c2, .slice A3 n.inputs.length c3]) (W' := W) (by go_simp) ⟨since_refl _, ?_, GI.skip hO hGG (since_refl _) (by decide) _⟩
      exact upd_self V 8 _
    | 9, ho =>
      cases ho
      have e7 : V 7 = .agg #[.int .i64 m.degree, .int .i64 m.states, .int .i64 m.messages, .slice M0 m.start.length mz0, .slice M1 m.send.length mz1, .slice M2 m.clauses.length mz2, .slice M3 m.output.length mz3] := hd 7 (by decide +kernel)
      have e8 : V 8 = .agg #[.slice A n.ends.length c, .slice A2 n.ids.length c2, .slice A3 n.inputs.length c3] := hd 8 (by decide +kernel)
      clear hd hi his
      refine ⟨rfl, ?_⟩
      simp only [putAll, show List.range 15 = [0, 1, 2, 3, 4, 5, 6, 7, 8, 9, 10, 11, 12, 13, 14] from rfl, List.getElem?_toArray, List.getElem?_cons_succ, List.getElem?_cons_zero]
      (try simp only [Act.put, List.setIfInBounds_toArray, List.set_cons_succ, List.set_cons_zero])
      have HG := Lib.hid hGG
      have HO := Lib.hid hO
      clear hGG hO
      unfold DStep
      go_simp
      (with_reducible refine (startStates_any _ _ _ _ _ _ _ m n W (HMz.out W hW) (HNz.out W hW) HAs.out).mono ?_)
      rintro e W1 ⟨u, rfl, ho, hb⟩
      obtain ⟨A9, n9, c9, rfl⟩ := lawI.one (S := u.ownBlock.toList) ⟨ho, rfl⟩
      refine ⟨_, rfl, hb, ⟨_, _, _, upd_self V 9 _⟩, GI.add HO.out HG.out hb hnD ?_⟩
      show oSt _ _ _ _ _ _ _ _ _ _
      unfold oSt
      rw [if_neg (by decide), if_neg (by decide), if_neg (by decide)]
      exact oI.own hW.below.size ho
    | 10, ho =>
      cases ho
      clear hd hi his
      refine ⟨rfl, ?_⟩
      simp only [putAll, show List.range 15 = [0, 1, 2, 3, 4, 5, 6, 7, 8, 9, 10, 11, 12, 13, 14] from rfl, List.getElem?_toArray, List.getElem?_cons_succ, List.getElem?_cons_zero]
      (try simp only [Act.put, List.setIfInBounds_toArray, List.set_cons_succ, List.set_cons_zero])
      refine dstep_val (u := .agg #[.slice A n.ends.length c, .slice A2 n.ids.length c2, .slice A3 n.inputs.length c3]) (W' := W) (by go_simp) ⟨since_refl _, ?_, GI.skip hO hGG (since_refl _) (by decide) _⟩
      exact upd_self V 10 _
    | 11, ho =>
      cases ho
      have e10 : V 10 = .agg #[.slice A n.ends.length c, .slice A2 n.ids.length c2, .slice A3 n.inputs.length c3] := hd 10 (by decide +kernel)
      clear hd hi his
      refine ⟨rfl, ?_⟩
      simp only [putAll, show List.range 15 = [0, 1, 2, 3, 4, 5, 6, 7, 8, 9, 10, 11, 12, 13, 14] from rfl, List.getElem?_toArray, List.getElem?_cons_succ, List.getElem?_cons_zero]
      (try simp only [Act.put, List.setIfInBounds_toArray, List.set_cons_succ, List.set_cons_zero])
      have HG := Lib.hid hGG
      have HO := Lib.hid hO
      clear hGG hO
      unfold DStep
      go_simp
      (with_reducible refine (unlabeled_any _ _ _ n W (HNz.out W hW) (by omega) (fun v es hv => Nat.le_trans (HRow.out v es hv) (by omega))).mono ?_)
      rintro e W1 ⟨u, S, rfl, ho, hb⟩
      obtain ⟨A9, n9, c9, rfl⟩ := lawII.one ho
      refine ⟨_, rfl, hb, ⟨_, _, _, upd_self V 11 _⟩, GI.add HO.out HG.out hb hnD ?_⟩
      show oSt _ _ _ _ _ _ _ _ _ _
      unfold oSt
      rw [if_neg (by decide), if_pos rfl]
      exact oII.own hW.below.size ho
    | 12, ho =>
      cases ho
      have e3 : ∃ A n c, V 3 = .slice A n c := hd 3 (by decide +kernel)
      have e6 : ∃ A n c, V 6 = .slice A n c := hd 6 (by decide +kernel)
      have e9 : ∃ A n c, V 9 = .slice A n c := hd 9 (by decide +kernel)
      have e11 : ∃ A n c, V 11 = .slice A n c := hd 11 (by decide +kernel)
      clear hd hi his
      refine ⟨rfl, ?_⟩
      simp only [putAll, show List.range 15 = [0, 1, 2, 3, 4, 5, 6, 7, 8, 9, 10, 11, 12, 13, 14] from rfl, List.getElem?_toArray, List.getElem?_cons_succ, List.getElem?_cons_zero]
      (try simp only [Act.put, List.setIfInBounds_toArray, List.set_cons_succ, List.set_cons_zero])
      obtain ⟨_, _, _, h3⟩ := e3
      obtain ⟨_, _, _, h6⟩ := e6
      obtain ⟨_, _, _, h9⟩ := e9
      obtain ⟨_, _, _, h11⟩ := e11
      refine dstep_val (u := .agg #[V 3, V 6, V 9, V 11, .slice none 0 0]) (W' := W) (by clear hGG hO; rw [h3, h6, h9, h11]; go_simp) ⟨since_refl _, ?_, GI.skip hO hGG (since_refl _) (by decide) _⟩
      show upd V 12 _ 12 = .agg #[upd V 12 _ 3, upd V 12 _ 6, upd V 12 _ 9, upd V 12 _ 11, .slice none 0 0]
      rw [upd_self, upd_ne V _ (show (3 : Nat) ≠ 12 by decide), upd_ne V _ (show (6 : Nat) ≠ 12 by decide), upd_ne V _ (show (9 : Nat) ≠ 12 by decide), upd_ne V _ (show (11 : Nat) ≠ 12 by decide)]
    | 13, ho =>
      cases ho
      clear hd hi his
      refine ⟨rfl, ?_⟩
      simp only [putAll, show List.range 15 = [0, 1, 2, 3, 4, 5, 6, 7, 8, 9, 10, 11, 12, 13, 14] from rfl, List.getElem?_toArray, List.getElem?_cons_succ, List.getElem?_cons_zero]
      (try simp only [Act.put, List.setIfInBounds_toArray, List.set_cons_succ, List.set_cons_zero])
      refine dstep_val (u := .pointer (some ⟨W.heap.size, 0, none⟩)) (W' := W.alloc (.cells nil5 34)) (by clear hGG hO; unfold nil5; go_simp) ⟨since_alloc _ (since_refl _), ⟨_, upd_self V 13 _, heap_alloc_new W _, hW.below.size⟩, GI.add hO hGG (since_alloc _ (since_refl _)) hnD ?_⟩
      show oSt _ _ _ _ _ _ _ _ _ _
      unfold oSt
      rw [if_neg (by decide), if_neg (by decide), if_pos rfl]
      exact oBx.new W _ _ hW.below.size
    | 14, ho =>
      exact absurd rfl his
    | i + 15, ho => omega
  · intro i o hi his hlate ho V W hW hd
    match i, ho with
    | 0, ho =>
      exact absurd hlate (by decide)
    | 1, ho =>
      exact absurd hlate (by decide)
    | 2, ho =>
      exact absurd hlate (by decide)
    | 3, ho =>
      exact absurd hlate (by decide)
    | 4, ho =>
      exact absurd hlate (by decide)
    | 5, ho =>
      exact absurd hlate (by decide)
    | 6, ho =>
      exact absurd hlate (by decide)
    | 7, ho =>
      exact absurd hlate (by decide)
    | 8, ho =>
      exact absurd hlate (by decide)
    | 9, ho =>
      exact absurd hlate (by decide)
    | 10, ho =>
      exact absurd hlate (by decide)
    | 11, ho =>
      exact absurd hlate (by decide)
    | 12, ho =>
      exact absurd hlate (by decide)
    | 13, ho =>
      exact absurd hlate (by decide)
    | 14, ho =>
      exact absurd hlate (by decide)
    | i + 15, ho => omega
  · intro o ho
    cases ho
    refine ⟨rfl, fun V W hW hd => ?_⟩
    have e12 : V 12 = .agg #[V 3, V 6, V 9, V 11, .slice none 0 0] := hd 12 (by decide +kernel)
    have e13 : ∃ b, V 13 = .pointer (some ⟨b, 0, none⟩) ∧ W.heap[b]? = some (.cells nil5 34 (0, 0)) ∧ wz.heap.size ≤ b := hd 13 (by decide +kernel)
    have e3 : ∃ A n c, V 3 = .slice A n c := hd 3 (by decide +kernel)
    have e6 : ∃ A n c, V 6 = .slice A n c := hd 6 (by decide +kernel)
    have e9 : ∃ A n c, V 9 = .slice A n c := hd 9 (by decide +kernel)
    have e11 : ∃ A n c, V 11 = .slice A n c := hd 11 (by decide +kernel)
    clear hd
    refine ⟨rfl, ?_⟩
    simp only [putAll, show List.range 15 = [0, 1, 2, 3, 4, 5, 6, 7, 8, 9, 10, 11, 12, 13, 14] from rfl, List.getElem?_toArray, List.getElem?_cons_succ, List.getElem?_cons_zero]
    (try simp only [Act.put, List.setIfInBounds_toArray, List.set_cons_succ, List.set_cons_zero])
    obtain ⟨b, hb, hh, _⟩ := e13
    obtain ⟨_, _, _, h3⟩ := e3
    obtain ⟨_, _, _, h6⟩ := e6
    obtain ⟨_, _, _, h9⟩ := e9
    obtain ⟨_, _, _, h11⟩ := e11
    have hbx : BoxA W b nil5 := ⟨_, hh⟩
    have c0 := (hbx.cell 0 _ rfl).1
    have f0 := (hbx.cell 0 _ rfl).2
    have c1 := (hbx.cell 1 _ rfl).1
    have f1 := (hbx.cell 1 _ rfl).2
    have c2 := (hbx.cell 2 _ rfl).1
    have f2 := (hbx.cell 2 _ rfl).2
    have c3 := (hbx.cell 3 _ rfl).1
    have f3 := (hbx.cell 3 _ rfl).2
    have c4 := (hbx.cell 4 _ rfl).1
    have f4 := (hbx.cell 4 _ rfl).2
    clear hh hbx
    rw [hb, e12, h3, h6, h9, h11, stA5_eq]
    clear e12 hb h3 h6 h9 h11
    go_simp
  intro V W hW hV hGG
  have e0 : V 0 = .pointer (some ⟨w.heap.size + 1, 0, none⟩) := hV 0 (by decide) (by decide)
  have e1 : V 1 = .slice A n.ends.length c := hV 1 (by decide) (by decide)
  have e2 : V 2 = .int .i64 n.ends.length := hV 2 (by decide) (by decide)
  have e3 : ∃ A n c, V 3 = .slice A n c := hV 3 (by decide) (by decide)
  have e4 : V 4 = .agg #[.int .i64 m.degree, .int .i64 m.states, .int .i64 m.messages, .slice M0 m.start.length mz0, .slice M1 m.send.length mz1, .slice M2 m.clauses.length mz2, .slice M3 m.output.length mz3] := hV 4 (by decide) (by decide)
  have e5 : V 5 = .agg #[.slice A n.ends.length c, .slice A2 n.ids.length c2, .slice A3 n.inputs.length c3] := hV 5 (by decide) (by decide)
  have e6 : ∃ A n c, V 6 = .slice A n c := hV 6 (by decide) (by decide)
  have e7 : V 7 = .agg #[.int .i64 m.degree, .int .i64 m.states, .int .i64 m.messages, .slice M0 m.start.length mz0, .slice M1 m.send.length mz1, .slice M2 m.clauses.length mz2, .slice M3 m.output.length mz3] := hV 7 (by decide) (by decide)
  have e8 : V 8 = .agg #[.slice A n.ends.length c, .slice A2 n.ids.length c2, .slice A3 n.inputs.length c3] := hV 8 (by decide) (by decide)
  have e9 : ∃ A n c, V 9 = .slice A n c := hV 9 (by decide) (by decide)
  have e10 : V 10 = .agg #[.slice A n.ends.length c, .slice A2 n.ids.length c2, .slice A3 n.inputs.length c3] := hV 10 (by decide) (by decide)
  have e11 : ∃ A n c, V 11 = .slice A n c := hV 11 (by decide) (by decide)
  have e12 : V 12 = .agg #[V 3, V 6, V 9, V 11, .slice none 0 0] := hV 12 (by decide) (by decide)
  have e13 : ∃ b, V 13 = .pointer (some ⟨b, 0, none⟩) ∧ W.heap[b]? = some (.cells nil5 34 (0, 0)) ∧ wz.heap.size ≤ b := hV 13 (by decide) (by decide)
  clear hV
  simp only [putAll, show List.range 15 = [0, 1, 2, 3, 4, 5, 6, 7, 8, 9, 10, 11, 12, 13, 14] from rfl, List.getElem?_toArray, List.getElem?_cons_succ, List.getElem?_cons_zero]
  (try simp only [Act.put, List.setIfInBounds_toArray, List.set_cons_succ, List.set_cons_zero])
  simp only [List.drop_succ_cons, List.drop_zero]
  obtain ⟨bx, hbx, hhx, hbz⟩ := e13
  obtain ⟨A3', n3', c3', h3⟩ := e3
  obtain ⟨A6', n6', c6', h6⟩ := e6
  obtain ⟨A9', n9', c9', h9⟩ := e9
  obtain ⟨AB', nB', cB', h11⟩ := e11
  obtain ⟨I, hI1, hI2⟩ := hGG
  have o3 := (hI1 3 (by decide) ⟨by decide, by decide⟩)
  have o6 := (hI1 6 (by decide) ⟨by decide, by decide⟩)
  have o9 := (hI1 9 (by decide) ⟨by decide, by decide⟩)
  have o11 := (hI1 11 (by decide) ⟨by decide, by decide⟩)
  have o13 := (hI1 13 (by decide) ⟨by decide, by decide⟩)
  have d3_6 := hI2 3 (by decide) 6 (by decide) (by decide) ⟨by decide, by decide⟩ ⟨by decide, by decide⟩
  have d3_9 := hI2 3 (by decide) 9 (by decide) (by decide) ⟨by decide, by decide⟩ ⟨by decide, by decide⟩
  have d3_11 := hI2 3 (by decide) 11 (by decide) (by decide) ⟨by decide, by decide⟩ ⟨by decide, by decide⟩
  have d3_13 := hI2 3 (by decide) 13 (by decide) (by decide) ⟨by decide, by decide⟩ ⟨by decide, by decide⟩
  have d6_9 := hI2 6 (by decide) 9 (by decide) (by decide) ⟨by decide, by decide⟩ ⟨by decide, by decide⟩
  have d6_11 := hI2 6 (by decide) 11 (by decide) (by decide) ⟨by decide, by decide⟩ ⟨by decide, by decide⟩
  have d6_13 := hI2 6 (by decide) 13 (by decide) (by decide) ⟨by decide, by decide⟩ ⟨by decide, by decide⟩
  have d9_11 := hI2 9 (by decide) 11 (by decide) (by decide) ⟨by decide, by decide⟩ ⟨by decide, by decide⟩
  have d9_13 := hI2 9 (by decide) 13 (by decide) (by decide) ⟨by decide, by decide⟩ ⟨by decide, by decide⟩
  have d11_13 := hI2 11 (by decide) 13 (by decide) (by decide) ⟨by decide, by decide⟩ ⟨by decide, by decide⟩
  unfold oSt at o3 o6 o9 o11 o13
  rw [if_pos rfl, h3] at o3
  rw [if_neg (by decide), if_neg (by decide), if_neg (by decide), h6] at o6
  rw [if_neg (by decide), if_neg (by decide), if_neg (by decide), h9] at o9
  rw [if_neg (by decide), if_pos rfl, h11] at o11
  rw [if_neg (by decide), if_neg (by decide), if_pos rfl, hbx] at o13
  obtain ⟨⟨l3, S3, O3, u3⟩, t3⟩ := o3
  obtain ⟨⟨l6, S6, O6, u6⟩, t6⟩ := o6
  obtain ⟨⟨l9, S9, O9, u9⟩, t9⟩ := o9
  obtain ⟨⟨l11, SB, O11, u11⟩, t11⟩ := o11
  obtain ⟨⟨l13, b13, x13, y13, z13, -⟩, t13⟩ := o13
  obtain rfl : bx = b13 := by simpa using x13
  rw [h3, h6, h9, h11] at e12
  have hB0 : BoxA W bx nil5 := ⟨_, hhx⟩
  unfold nil5 at hB0
  obtain ⟨Wf, hWf⟩ : ∃ Wf, Wf = stA5 (.pointer (some ⟨bx, 0, none⟩)) (.agg #[.slice A3' n3' c3', .slice A6' n6' c6', .slice A9' n9' c9', .slice AB' nB' cB', .slice none 0 0]) W := ⟨_, rfl⟩
  obtain ⟨k1, k2, k3⟩ := stA5_box (v0 := .slice A3' n3' c3') (v1 := .slice A6' n6' c6') (v2 := .slice A9' n9' c9') (v3 := .slice AB' nB' cB') (v4 := .slice none 0 0) hB0
  have k4 : Below wz.heap.size wz Wf := by rw [hWf]; exact stA5_below hW.below hbz
  rw [← hWf] at k1 k2 k3
  rw [hbx, e12, h3, h6, h9, h11, ← hWf]
  have r3 := fun j hj => (lawI.range O3 j hj)
  have r6 := fun j hj => (lawI.range O6 j hj)
  have r9 := fun j hj => (lawI.range O9 j hj)
  have r11 := fun j hj => (lawII.range O11 j hj)
  obtain ⟨Bf, hBf⟩ : ∃ Bf, Bf = Wf.heap.size := ⟨_, rfl⟩
  have hWB : W.heap.size = Bf := by rw [hBf, k3]
  have HAll : Hid (∀ X : World, (∀ j, j < Bf → j ≠ bx → X.heap[j]? = Wf.heap[j]?) → ∀ v5 S5, OwnTTT X Bf v5 (flightL n) S5 → ∃ S, OwnAs X wz.heap.size (.slice A3' n3' c3') (.slice A6' n6' c6') (.slice A9' n9' c9') (.slice AB' nB' cB') v5 (startAs m n) S ∧ ∀ j ∈ S, j ≠ bx) := fun X hX v5 S5 h5 => by
    have e : ∀ j, j < Bf → j ≠ bx → X.heap[j]? = W.heap[j]? := fun j hj hne => (hX j hj hne).trans (k2 j hne)
    have q3 : OwnI X wz.heap.size (.slice A3' n3' c3') (startAs m n).rounds S3 := lawI.mono (lawI.stable O3 fun j hj => e j (by have := r3 j hj; omega) (by have := r3 j hj; have := u3 j hj; omega)) l3
    have q6 : OwnI X wz.heap.size (.slice A6' n6' c6') (startAs m n).before S6 := lawI.mono (lawI.stable O6 fun j hj => e j (by have := r6 j hj; omega) (by have := r6 j hj; have := u6 j hj; omega)) l6
    have q9 : OwnI X wz.heap.size (.slice A9' n9' c9') (startAs m n).now S9 := lawI.mono (lawI.stable O9 fun j hj => e j (by have := r9 j hj; omega) (by have := r9 j hj; have := u9 j hj; omega)) l9
    have q11 : OwnII X wz.heap.size (.slice AB' nB' cB') (startAs m n).slots SB := lawII.mono (lawII.stable O11 fun j hj => e j (by have := r11 j hj; omega) (by have := r11 j hj; have := u11 j hj; omega)) l11
    refine ⟨_, ownAs_of (Bf := Bf) (bx := bx) (lo := fun i => if i = 1 then (I 3).1 else if i = 2 then (I 6).1 else if i = 3 then (I 9).1 else (I 11).1) (hi := fun i => if i = 1 then (I 3).2 else if i = 2 then (I 6).2 else if i = 3 then (I 9).2 else (I 11).2) q3 q6 q9 q11 h5 (by omega) (fun j hj => ?_) (fun j hj => ?_) (fun j hj => ?_) (fun j hj => ?_) ?_ ?_ rfl, ?_⟩
    · exact ⟨(r3 j hj).1, u3 j hj⟩
    · exact ⟨(r6 j hj).1, u6 j hj⟩
    · exact ⟨(r9 j hj).1, u9 j hj⟩
    · exact ⟨(r11 j hj).1, u11 j hj⟩
    · intro i j hi hj hne
      simp only [List.mem_cons, List.not_mem_nil, or_false] at hi hj
      rcases hi with rfl | rfl | rfl | rfl <;> rcases hj with rfl | rfl | rfl | rfl <;> simp at hne ⊢ <;> omega
    · intro i hi
      simp only [List.mem_cons, List.not_mem_nil, or_false] at hi
      rcases hi with rfl | rfl | rfl | rfl <;> simp <;> omega
    · intro j hj
      simp only [List.mem_append] at hj
      rcases hj with hj | hj | hj | hj | hj
      · have := r3 j hj; have := u3 j hj; omega
      · have := r6 j hj; have := u6 j hj; omega
      · have := r9 j hj; have := u9 j hj; omega
      · have := r11 j hj; have := u11 j hj; omega
      · have := (lawTTT.range h5 j hj).1; omega
  have Hbx1 := Lib.hid k1
  have Hsf : Hid (Since wz Wf) := k4
  have Hbb : Hid (wz.heap.size ≤ bx ∧ bx < Bf) := ⟨hbz, by omega⟩
  have HBf : Hid (Bf ≤ Wf.heap.size) := by show _ ≤ _; rw [hBf]; exact Nat.le_refl _
  have hs4 := Hsf.out
  clear hI1 hI2 d3_6 d3_9 d3_11 d3_13 d6_9 d6_11 d6_13 d9_11 d9_13 d11_13 l3 S3 O3 u3 t3 l6 S6 O6 u6 t6 l9 S9 O9 u9 t9 l11 SB O11 u11 t11 l13 x13 y13 z13 t13 e12 hB0 hWf k1 k2 k3 k4 r3 r6 r9 r11 hBf hWB hbx hhx hbz h3 h6 h9 h11 hW e0 e1 e2 e4 e5 e7 e8 e10 I
  go_wp2
  go_loopw [24] (fun i wr => ∃ (k : Nat) (v5 : Value) (S5 : List Nat), k ≤ n.ends.length ∧ i = .int .i64 k ∧ BoxA wr bx #[.slice A3' n3' c3', .slice A6' n6' c6', .slice A9' n9' c9', .slice AB' nB' cB', v5] ∧ OwnTTT wr Bf v5 ((flightL n).take k) S5 ∧ (∀ j, j < Bf → j ≠ bx → wr.heap[j]? = Wf.heap[j]?) ∧ Since wz wr ∧ Bf ≤ wr.heap.size) (fun i _ => n.ends.length - (intOf i).toNat)
  case atStart => exact ⟨0, _, [], Nat.zero_le _, rfl, Hbx1.out, ownTTT_nil _ _, fun j _ _ => rfl, Hsf.out, HBf.out⟩
  case round =>
    obtain ⟨k, v5, S5, hk, rfl, hbox, ho5, hkeep, hsr, hBr⟩ := hrel
    obtain ⟨A5, n5, c5, rfl⟩ := lawTTT.one ho5
    have Hbox := Lib.hid hbox
    have Ho5 := Lib.hid ho5
    have Hkeep := Lib.hid hkeep
    have HBr := Lib.hid hBr
    clear hs4 hbox ho5 hkeep
    by_cases hlt : k < n.ends.length
    · obtain ⟨es, hes⟩ := getx n.ends k hlt
      obtain ⟨b, offr, cr, ur, hA1, hkr, hc1, hrow⟩ := row_at (HNz.out wz (since_refl _)).es hes
      cases hA1
      obtain ⟨A1, y1, rfl, hz1, hz2, -⟩ := hrow
      unfold maxLen at hz2
      have q5 := lift_cell (have_cell hc1) hsr
      have q55 := q5 wr (since_refl _)
      have hel := HRow.out k es hes
      have m4 : IntKind.i64.wrap ((k : Int) + 1) = (k : Int) + 1 := wr64 _ (by omega) (by omega)
      have Hfl := Lib.hid (flightL_get hes)
      have Hl5 : Hid (((flightL n).take k).length + 1 ≤ 4000000) := by show _ ≤ _; rw [List.length_take, flightL_len]; omega
      have mkT := run_mk_letrows es.length (by omega)
      obtain ⟨wT, hwT⟩ : ∃ wT, wT = trunc wr Bf := ⟨_, rfl⟩
      have hsT : Since wT wr := by rw [hwT]; exact trunc_since wr HBr.out
      have hTs : wT.heap.size = Bf := by rw [hwT]; exact trunc_size wr HBr.out
      have hTa : Since wz wT := by rw [hwT]; exact since_trunc hsr HBr.out (Nat.le_trans Hbb.out.1 (Nat.le_of_lt Hbb.out.2))
      have hTb : BoxA wT bx #[.slice A3' n3' c3', .slice A6' n6' c6', .slice A9' n9' c9', .slice AB' nB' cB', .slice A5 n5 c5] := by
        obtain ⟨r, hr⟩ := Hbox.out
        exact ⟨r, by rw [hwT, trunc_blk wr HBr.out Hbb.out.2]; exact hr⟩
      have t0 := have_cell (hTb.cell 4 _ rfl).1
      have HTs := Lib.hid hTs
      have HTa := Lib.hid hTa
      have Hsr := Lib.hid hsr
      have HsT := Lib.hid hsT
      clear hes hc1 hwT hTs hTb hTa hsr hBr q5
      go_upto_region 5 with (fail)
      clear q55
      refine wp_region_chain0 (w0 := wT) 7 [false, false, false, false, true, true, true] (by kernel_rfl) (by kernel_rfl) (HsT.out) ?_
      simp only [selF, selT, List.take_succ_cons, List.take_zero, List.drop_succ_cons, List.drop_zero]
      refine pflow_val (v := ?_) rfl ?_ ?_; rotate_left; (intro W hW; go_simp; with_reducible rfl)
      simp only [Act.put, List.setIfInBounds_toArray, List.set_cons_succ, List.set_cons_zero]
      refine pflow_val (v := ?_) rfl ?_ ?_; rotate_left; (intro W hW; go_simp; with_reducible rfl)
      simp only [Act.put, List.setIfInBounds_toArray, List.set_cons_succ, List.set_cons_zero]
      refine pflow_val (v := ?_) rfl ?_ ?_; rotate_left; (intro W hW; go_simp; with_reducible rfl)
      simp only [Act.put, List.setIfInBounds_toArray, List.set_cons_succ, List.set_cons_zero]
      refine pflow_val (v := ?_) rfl ?_ ?_; rotate_left; (intro W hW; go_simp; with_reducible rfl)
      simp only [Act.put, List.setIfInBounds_toArray, List.set_cons_succ, List.set_cons_zero]
      obtain ⟨W, hWd⟩ : ∃ W, W = World.drew wr := ⟨_, rfl⟩
      rw [← hWd]
      have hW : Since wT W := by rw [hWd]; exact since_drew (HsT.out)
      (try have HWd := Lib.hid hWd)
      (try clear hWd)
      refine tflow_alloc (v := ?_) (ob := ?_) rfl ?_ hW ?_; rotate_left 2
      (go_simp; first | with_reducible rfl | (refine ⟨?_, ?_⟩ <;> with_reducible rfl))
      intro w2 hw2d hw2s
      replace hW := hw2s
      clear hw2s
      have Ho2 : Hid (OwnTT w2 wr.heap.size (.slice (some ⟨wr.heap.size, 0, none⟩) es.length es.length) (List.replicate es.length []) [wr.heap.size]) := by show OwnTT _ _ _ _ _; rw [hw2d, HWd.out]; exact ownTT_new (World.drew wr) _ (by omega)
      have Hw2 : Hid (Since wr w2) := by show Since _ _; rw [hw2d, HWd.out]; exact since_alloc _ (since_drew (since_refl _))
      rw [show W.heap.size = wr.heap.size from by rw [HWd.out]; rfl]
      clear hw2d HWd
      (try simp only [Act.put, List.setIfInBounds_toArray, List.set_cons_succ, List.set_cons_zero])
      (try have HWd := Lib.hid hWd)
      (try clear hWd)
      refine tflow_alloc (v := ?_) (ob := ?_) rfl ?_ hW ?_; rotate_left 2
      (go_simp; first | with_reducible rfl | (refine ⟨?_, ?_⟩ <;> with_reducible rfl))
      intro w3 hw3d hw3s
      replace hW := hw3s
      clear hw3s
      have Ho3 : Hid (OwnTT w3 Bf (.slice (some ⟨wr.heap.size, 0, none⟩) es.length es.length) (List.replicate es.length []) [wr.heap.size]) := by show OwnTT _ _ _ _ _; rw [hw3d]; exact lawTT.mono (lawTT.keep Ho2.out (below_alloc _ _)) HBr.out
      have Hc3 : Hid (w3.cell? ⟨w2.heap.size, 0, none⟩ = some (.slice (some ⟨wr.heap.size, 0, none⟩) es.length es.length)) := by show _ = _; rw [hw3d]; simp
      have Hw3 : Hid (Since wr w3) := by show Since _ _; rw [hw3d]; exact since_alloc _ Hw2.out
      have HO53 := Lib.hid (lawTTT.keep Ho5.out Hw3.out.below)
      have Hd3 := Lib.hid (show ∀ j ∈ [wr.heap.size], j ∉ S5 from fun j hj hS => by have := (lawTTT.range Ho5.out j hS).2; simp at hj; omega)
      have HB3 : Hid (Bf ≤ w3.heap.size) := Nat.le_trans HBr.out Hw3.out.below.size
      clear hw3d
      (try simp only [Act.put, List.setIfInBounds_toArray, List.set_cons_succ, List.set_cons_zero])
      refine tflow_of_wp (fun Q' HQ => ?_)
      (refine app_rowTTT rfl _ _ rfl rfl HO53.out w2.heap.size rfl Hc3.out Ho3.out Hd3.out Hl5.out HB3.out ?_); intro g cap w6 S6 ho6 hg6 hS6 hb6; have hs6 : Since wT w6 := (show Below _ _ _ from Below.trans hW.below (by rw [HTs.out]; exact hb6)); refine HQ _ _ hs6 ?_; have Ho6 := Lib.hid ho6; have Hb6 := Lib.hid hb6; have Hs6 := Lib.hid hs6; replace hW := hs6; clear ho6 hg6 hS6 hb6 hs6
      (try simp only [Act.put, List.setIfInBounds_toArray, List.set_cons_succ, List.set_cons_zero])
      simp only [TFlow]
      have hbl : ∀ j, j < Bf → w6.heap[j]? = wr.heap[j]? := fun j hj => (Hb6.out.block j hj).trans (Hw3.out.below.block j (Nat.lt_of_lt_of_le hj HBr.out))
      have Hbl := Lib.hid hbl
      have Hbox6 : Hid (BoxA w6 bx #[.slice A3' n3' c3', .slice A6' n6' c6', .slice A9' n9' c9', .slice AB' nB' cB', .slice A5 n5 c5]) := by
        obtain ⟨r, hr⟩ := Hbox.out
        exact ⟨r, by rw [hbl bx Hbb.out.2]; exact hr⟩
      have c4 := (Hbox6.out.cell 4 _ rfl).1
      have f4 := (Hbox6.out.cell 4 _ rfl).2
      have Hwz6 : Hid (Since wz w6) := HTa.out.after Hs6.out
      clear hW t0 hbl
      go_wp2
      go_roundw
      case rel =>
        refine ⟨k + 1, _, S6, by omega, by go_num, Hbox6.out.put 4 _, ?_, fun j hj hne => ?_, ?_, ?_⟩
        · rw [take_snoc Hfl.out]
          have h9 := Ho6.out
          rw [List.length_take] at h9
          exact lawTTT.stable h9 (fun j hj => Below.heap_setCell w6 _ _ j (by have := (lawTTT.range Ho6.out j hj).1; have := Hbb.out.2; show j ≠ bx; omega))
        · rw [Below.heap_setCell w6 _ _ j (by exact hne)]
          exact (Hbl.out j hj).trans (Hkeep.out j hj hne)
        · exact Below.setCell Hwz6.out Hbb.out.1 _
        · have := Hb6.out.size
          have := HB3.out
          simp [sizeSet]
          omega
      case measure => simp [intOf]; omega
    · obtain rfl : k = n.ends.length := by omega
      have h5 := Ho5.out
      rw [List.take_of_length_le (by rw [flightL_len]; exact Nat.le_refl _)] at h5
      obtain ⟨S, hO, -⟩ := HAll.out wr Hkeep.out _ S5 h5
      have HO := Lib.hid hO
      have h01 : w0.heap.size = w.heap.size + 1 + 1 := by rw [Hw0.out]; simp
      have HR := HRz.out wr hsr
      rw [h01] at HR
      unfold nil5 at HR
      have Hza1 : Hid (w.heap.size + 1 + 1 < wz.heap.size) := by show _ < _; have := Hza.out; omega
      have b0 := (Hbox.out.cell 0 _ rfl).1
      have b1 := (Hbox.out.cell 1 _ rfl).1
      have b2 := (Hbox.out.cell 2 _ rfl).1
      have b3 := (Hbox.out.cell 3 _ rfl).1
      have b4 := (Hbox.out.cell 4 _ rfl).1
      have g0 := (HR.cell 0 _ rfl).1
      have g1 := (HR.cell 1 _ rfl).1
      have g2 := (HR.cell 2 _ rfl).1
      have g3 := (HR.cell 3 _ rfl).1
      have g4 := (HR.cell 4 _ rfl).1
      have f0 := (HR.cell 0 _ rfl).2
      have f1 := (HR.cell 1 _ rfl).2
      have f2 := (HR.cell 2 _ rfl).2
      have f3 := (HR.cell 3 _ rfl).2
      have f4 := (HR.cell 4 _ rfl).2
      have Hsr := Lib.hid hsr
      have HR' := Lib.hid HR
      clear h5 hO HR hsr hlt hk h01 hBr
      go_wp2
      refine bodyPost_ret (v := .agg #[.slice A3' n3' c3', .slice A6' n6' c6', .slice A9' n9' c9', .slice AB' nB' cB', .slice A5 n5 c5]) (by simp [results, Tryz.results70, go_sem, *]) rfl ?_
      refine ⟨_, _, _, _, _, S, rfl, ?_, ?_⟩
      · refine (HO.out.stable (fun j hj => ?_)).mono (Nat.le_trans Hb0.out.size Hsz.out.below.size)
        have hj1 := (HO.out.range j hj).1
        have hj2 := Hza1.out
        rw [Below.heap_setCell _ _ _ j (by simp; omega), Below.heap_setCell _ _ _ j (by simp; omega), Below.heap_setCell _ _ _ j (by simp; omega), Below.heap_setCell _ _ _ j (by simp; omega), Below.heap_setCell _ _ _ j (by simp; omega)]
      · exact (((((Below.trans Hb0.out ((Hsz.out.after Hsr.out).below.mono Hb0.out.size)).setCell (by simp; omega) _).setCell (by simp; omega) _).setCell (by simp; omega) _).setCell (by simp; omega) _).setCell (by simp; omega) _
end Go.Proofs.YtomnaabadohecaaGreat
