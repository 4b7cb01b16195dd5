import Derived.Test.YthgbobikbdklhaaNetLaw
import Derived.Test.YthgbobikbdklhaaIsNet
import Derived.Test.YthgbobikbdklhaaW3
import Derived.Deep.AppendLies
import Derived.Deep.RegionHeld3
namespace Go.Proofs.Ythgbobikbdklhaa
open Go.RowKit
theorem es_info : (Try.prog.info? 53).map (fun i => (i.zero, i.size, i.bytes)) = some (some (.slice none 0 0), 1, 24) := by kernel_rfl
theorem end_info : (Try.prog.info? 57).map (fun i => (i.zero, i.size, i.bytes)) = some (some (.agg #[.int .i64 0, .int .i64 0]), 2, 16) := by kernel_rfl
theorem made_rep (z : Value) (n : Nat) : madeCells #[z] (n * 1) = Array.replicate n z := by
  apply Array.ext'
  rw [toList_madeCells_one]; simp
/-- make([][]End, n), whatever the world -/
theorem run_mk_rows (n : Nat) (hn : n ≤ 1000000) (W : World) : (Instr.makeSlice 30 (.int .i64 (n : Int)) (.int .i64 (n : Int))).run Try.prog W = .ok (.slice (some ⟨W.heap.size, 0, none⟩) n n) (W.alloc (.cells (Array.replicate n (Value.slice none 0 0)) 53)) := by
  obtain ⟨i0, hi, hz0, hz1, hz2⟩ := info_parts es_info
  have hr := run_make (P := Try.prog) W 30 53 i0 (.slice none 0 0) Try.underlying30 hi hz0 .i64 .i64 n n (by omega) (Int.le_refl _) (by rw [hz2]; omega) (by omega)
  rw [hz1] at hr
  simp only [Int.toNat_natCast] at hr
  rw [show (Value.slice none 0 0).cells = #[Value.slice none 0 0] from rfl, made_rep] at hr
  exact hr
theorem run_mk_ints (n : Nat) (hn : n ≤ 1000000) (W : World) : (Instr.makeSlice 23 (.int .i64 (n : Int)) (.int .i64 (n : Int))).run Try.prog W = .ok (.slice (some ⟨W.heap.size, 0, none⟩) n n) (W.alloc (.cells (Array.replicate n (Value.int .i64 0)) 3)) := by
  obtain ⟨i0, hi, hz0, hz1, hz2⟩ := info_parts int_info
  have hr := run_make (P := Try.prog) W 23 3 i0 (.int .i64 0) Try.underlying23 hi hz0 .i64 .i64 n n (by omega) (Int.le_refl _) (by rw [hz2]; omega) (by omega)
  rw [hz1] at hr
  simp only [Int.toNat_natCast] at hr
  rw [show (Value.int IntKind.i64 0).cells = #[Value.int .i64 0] from rfl, made_rep] at hr
  exact hr
def emptyNet (n : Nat) : Net := { ends := List.replicate n [], ids := [], inputs := List.replicate n 0 }
theorem ownE_nil (w : World) (base : Nat) : OwnE w base (.slice none 0 0) [] [] := ⟨World.ownsRow_nil w base _ _, rfl⟩
theorem ownI_nil (w : World) (base : Nat) : OwnI w base (.slice none 0 0) [] [] := ⟨own_nil w base, rfl⟩
theorem own_made (w : World) (n : Nat) (hn : n ≤ 1000000) : OwnI (w.alloc (.cells (Array.replicate n (Value.int .i64 0)) 3)) w.heap.size (.slice (some ⟨w.heap.size, 0, none⟩) n n) (List.replicate n 0) [w.heap.size] := by
  have := own_lit w (List.replicate n 0) (by simp [maxLen]; omega)
  simp only [List.length_replicate, List.map_replicate, List.toArray_replicate] at this
  exact ⟨this, rfl⟩
theorem ownEE_made (w : World) (n : Nat) (hn : n ≤ 1000000) : OwnEE (w.alloc (.cells (Array.replicate n (Value.slice none 0 0)) 53)) w.heap.size (.slice (some ⟨w.heap.size, 0, none⟩) n n) (List.replicate n []) [w.heap.size] :=
  by have := OwnRows.made (R := OwnE) (e := 53) n (by simp [maxLen]; omega) ownE_nil w; rw [List.toArray_replicate] at this; exact this
theorem ownNet_two (w : World) (B : Obj) (n : Nat) (hn : n ≤ 1000000) :
    OwnNet (((w.alloc B).alloc (.cells (Array.replicate n (Value.slice none 0 0)) 53)).alloc (.cells (Array.replicate n (Value.int .i64 0)) 3)) w.heap.size
      (.slice (some ⟨w.heap.size + 1, 0, none⟩) n n) (.slice none 0 0) (.slice (some ⟨w.heap.size + 1 + 1, 0, none⟩) n n) (emptyNet n) [w.heap.size + 1, w.heap.size + 1 + 1] := by
  have h1 := ownEE_made (w.alloc B) n hn
  have h2 := own_made ((w.alloc B).alloc (.cells (Array.replicate n (Value.slice none 0 0)) 53)) n hn
  simp only [World.size_alloc] at h1 h2
  exact ⟨[w.heap.size + 1], [], [w.heap.size + 1 + 1], lawEE.mono (lawEE.keep h1 (below_alloc _ _)) (by omega), ownI_nil _ _, lawI.mono h2 (by omega), rfl, by simp⟩
theorem ownNet_two' (w : World) (B : Obj) (n : Nat) (hn : n ≤ 1000000) :
    OwnNet (((w.alloc B).alloc (.cells (Array.replicate n (Value.int .i64 0)) 3)).alloc (.cells (Array.replicate n (Value.slice none 0 0)) 53)) w.heap.size
      (.slice (some ⟨w.heap.size + 1 + 1, 0, none⟩) n n) (.slice none 0 0) (.slice (some ⟨w.heap.size + 1, 0, none⟩) n n) (emptyNet n) [w.heap.size + 1 + 1, w.heap.size + 1] := by
  have h1 := own_made (w.alloc B) n hn
  have h2 := ownEE_made ((w.alloc B).alloc (.cells (Array.replicate n (Value.int .i64 0)) 3)) n hn
  simp only [World.size_alloc] at h1 h2
  exact ⟨[w.heap.size + 1 + 1], [], [w.heap.size + 1], lawEE.mono h2 (by omega), ownI_nil _ _, lawI.mono (lawI.keep h1 (below_alloc _ _)) (by omega), rfl, by simp⟩
theorem below3 (w : World) (a b c : Obj) : Below w.heap.size w (((w.alloc a).alloc b).alloc c) := (((Below.refl _ _).alloc (Nat.le_refl _) _).alloc (by simp) _).alloc (by simp; omega) _
theorem OwnNet.drew {w : World} {base : Nat} {ve vi vn : Value} {n : Net} {S : List Nat} (h : OwnNet w base ve vi vn n S) : OwnNet w.drew base ve vi vn n S := h.stable fun _ _ => rfl
/-- a new network came back -/
def NewNet (w : World) (n : Net) (e : Ending) (w' : World) : Prop := ∃ ve vi vn S, e = .returned (.agg #[ve, vi, vn]) ∧ OwnNet w' w.heap.size ve vi vn n S ∧ Below w.heap.size w w'
theorem OwnNet.storeRow {w : World} {base g c n : Nat} {vi vn : Value} {N : Net} {S : List Nat} (h : OwnNet w base (.slice (some ⟨g, 0, none⟩) n c) vi vn N S) (k : Nat) {u : Value} {x : List (Int × Int)} {T : List Nat} (hR : OwnE w base u x T) (hd : ∀ j ∈ T, j ∉ S) :
    ∃ S', OwnNet (w.setCell ⟨g, k, none⟩ u) base (.slice (some ⟨g, 0, none⟩) n c) vi vn { N with ends := N.ends.set k x } S' ∧ ∀ j ∈ S', j ∈ S ∨ j ∈ T := by
  obtain ⟨S1, S2, S3, h1, h2, h3, h4, h5⟩ := h
  rw [h4, List.nodup_append] at h5
  obtain ⟨n1, n2, n3⟩ := h5
  have hg : g ∈ S1 := by
    obtain ⟨vs, Ss, _, _, _, e, _⟩ := h1
    rw [e]; simp [Value.ownBlock]
  obtain ⟨S1', o1, hs⟩ := OwnRows.store lawE h1 k hR (fun j hj hS => hd j hj (by rw [h4]; exact List.mem_append_left _ hS))
  have ho : Only [g] w (w.setCell ⟨g, k, none⟩ u) := (Only.refl _ _).setCell (.inl (by simp)) _
  have d : ∀ j ∈ S2 ++ S3, j ∉ [g] := fun j hj hg' => by simp at hg'; subst hg'; exact n3 j hg j hj rfl
  refine ⟨S1' ++ (S2 ++ S3), ⟨S1', S2, S3, o1, lawI.only h2 ho (fun j hj => d j (List.mem_append_left _ hj)), lawI.only h3 ho (fun j hj => d j (List.mem_append_right _ hj)), rfl, ?_⟩, ?_⟩
  · rw [List.nodup_append]
    refine ⟨lawEE.nodup o1, n2, fun a ha b hb hab => ?_⟩
    subst hab
    rcases hs a ha with h | h
    · exact n3 a h a hb rfl
    · exact hd a h (by rw [h4]; exact List.mem_append_right _ hb)
  · intro j hj
    rcases List.mem_append.1 hj with hj | hj
    · rcases hs j hj with h | h
      · exact .inl (by rw [h4]; exact List.mem_append_left _ h)
      · exact .inr h
    · exact .inl (by rw [h4]; exact List.mem_append_right _ hj)
theorem OwnNet.rowCell {w : World} {base g c n : Nat} {vi vn : Value} {N : Net} {S : List Nat} (h : OwnNet w base (.slice (some ⟨g, 0, none⟩) n c) vi vn N S) {k : Nat} {x : List (Int × Int)} (hx : N.ends[k]? = some x) :
    ∃ u T, w.cell? ⟨g, k, none⟩ = some u ∧ w.frozen? ⟨g, k, none⟩ = false ∧ OwnE w base u x T ∧ base ≤ g ∧ g < w.heap.size ∧ g ∈ S := by
  obtain ⟨S1, S2, S3, h1, _, _, h4, _⟩ := h
  obtain ⟨u, T, a, b, c, _, _, d⟩ := OwnRows.at_ h1 hx
  exact ⟨u, T, a, b, c, (lawEE.range h1 g d).1, (lawEE.range h1 g d).2, by rw [h4]; exact List.mem_append_left _ d⟩
/-- a box of three cells -/
def Box3 (w : World) (b : Nat) (x y z : Value) : Prop := ∃ r, w.heap[b]? = some (.cells #[x, y, z] r)
theorem Box3.cells {w : World} {b : Nat} {x y z : Value} (h : Box3 w b x y z) : w.cell? ⟨b, 0, none⟩ = some x ∧ w.cell? ⟨b, 1, none⟩ = some y ∧ w.cell? ⟨b, 2, none⟩ = some z ∧ w.frozen? ⟨b, 0, none⟩ = false ∧ w.frozen? ⟨b, 1, none⟩ = false ∧ w.frozen? ⟨b, 2, none⟩ = false := by
  obtain ⟨r, h⟩ := h
  simp [World.cell?, World.frozen?, h]
theorem Box3.lt {w : World} {b : Nat} {x y z : Value} (h : Box3 w b x y z) : b < w.heap.size := by
  obtain ⟨r, h⟩ := h
  exact (Array.getElem?_eq_some_iff.1 h).1
theorem Box3.below {w w' : World} {B b : Nat} {x y z : Value} (h : Box3 w b x y z) (hb : Below B w w') (hB : b < B) : Box3 w' b x y z := by
  obtain ⟨r, h⟩ := h
  exact ⟨r, (hb.block b hB).trans h⟩
theorem Box3.set {w : World} {b : Nat} {x y z u : Value} {a : Addr} (h : Box3 w b x y z) (ha : a.block ≠ b) : Box3 (w.setCell a u) b x y z := by
  obtain ⟨r, h⟩ := h
  exact ⟨r, (Below.heap_setCell w a u b (Ne.symm ha)).trans h⟩
theorem Box3.alloc {w : World} {b : Nat} {x y z : Value} (h : Box3 w b x y z) (o : Obj) : Box3 (w.alloc o) b x y z := h.below (below_alloc w o) h.lt
theorem Box3.new (w : World) (x y z : Value) (t : TypeId) : Box3 (w.alloc (.cells #[x, y, z] t)) w.heap.size x y z := ⟨t, by show (w.heap.push _)[w.heap.size]? = _; rw [Array.getElem?_push_size]⟩
theorem ownE_lit2 (w : World) (a b c d : Int) : OwnE (w.alloc (.cells #[.int .i64 a, .int .i64 b, .int .i64 c, .int .i64 d] 57)) w.heap.size (.slice (some ⟨w.heap.size, 0, none⟩) 2 2) [(a, b), (c, d)] [w.heap.size] := by
  have := World.ownsRow_lit (base := w.heap.size) (e := 57) (size := 2) w #[.int .i64 a, .int .i64 b, .int .i64 c, .int .i64 d] 2 (Nat.le_refl _) (by simp [maxLen]) (by simp)
  exact ⟨this, rfl⟩
def upto (n : Nat) : List Int := (List.range n).map Int.ofNat
theorem upto_len (n : Nat) : (upto n).length = n := by simp [upto]
theorem upto_get {n k : Nat} (h : k < n) : (upto n)[k]? = some (k : Int) := by simp [upto, h]
theorem upto_snoc (n : Nat) : upto (n + 1) = upto n ++ [(n : Int)] := by simp [upto, List.range_succ]
/-- append of one integer to a row of its own, in a plain region -/
theorem app_int {w : World} {ops : Array Oper} {rest : List Oper} {o : Oper} {a : Act} {Q : Exit → Act → World → Prop} (hgd : o.guard = none) (s x : Operand)
    (ho : o.op = .call { callee := .builtin .append, args := #[s, x], argTypes := #[23, 23] }) {base : Nat} {v : Value} {xs : List Int} (hs : a.eval s = v) (h : Own w base v xs) (b : Nat) (y : Int)
    (hx : a.eval x = .slice (some ⟨b, 0, none⟩) 1 1) (hc : w.cell? ⟨b, 0, none⟩ = some (.int .i64 y)) (hl : xs.length + 1 ≤ 17592186044416) (hbase : base ≤ w.heap.size)
    (k : ∀ g cap w', Own w' base (.slice (some ⟨g, 0, none⟩) (xs.length + 1) cap) (xs ++ [y]) → w.grownBy w' v.ownBlock → (v.ownBlock = some g ∨ g = w.heap.size) → g < w'.heap.size → wpList Try.prog ops Q rest (a.put o.dst (.slice (some ⟨g, 0, none⟩) (xs.length + 1) cap)) w') : wpList Try.prog ops Q (o :: rest) a w := by
  obtain ⟨i0, hi, hz0, hz1, hz2⟩ := info_parts int_info
  refine wpList_append_lies w hgd s x 23 ho base 3 i0 (.int .i64 0) 1 8 Try.underlying23 hi hz0 hz1 hz2 rfl (by decide) v xs.length (xs.map (Value.int .i64)) hs h ⟨b, 0, none⟩ 1 1 [.int .i64 y] hx rfl
    (by intro j u hj; match j, hj with | 0, hj => (simp at hj; subst hj; simpa [Addr.add] using hc) | j + 1, hj => simp at hj) (by simp [Value.oneCell']) (by omega) (by unfold maxLen; omega) (by omega) hbase w.heap.size rfl ?_
  intro g cap w' h1 h2 h3 h4
  refine k g cap w' ?_ h2 h3 h4
  unfold Own
  simpa using h1
theorem Box3.grown {w w' : World} {b : Nat} {x y z : Value} {row : Option Nat} (h : Box3 w b x y z) (hg : w.grownBy w' row) (hr : row ≠ some b) : Box3 w' b x y z := by
  have := h.lt
  obtain ⟨r, h⟩ := h
  exact ⟨r, (hg.block b this (fun e => hr e.symm)).trans h⟩
/-- a row is turned, and stored anew -/
theorem OwnRows.grow {β : Type} {R : World → Nat → Value → β → List Nat → Prop} {e : TypeId} {w : World} {base g c n : Nat} {xs : List β} {S : List Nat} (L : RowLaw R) (h : OwnRows e R w base (.slice (some ⟨g, 0, none⟩) n c) xs S) {k : Nat} {x : β} (hx : xs[k]? = some x) :
    ∃ u T, w.cell? ⟨g, k, none⟩ = some u ∧ R w base u x T ∧ (∀ j ∈ T, j ∈ S) ∧ g ∉ T ∧ (∀ (u' : Value) (x' : β) (T' : List Nat) (w' : World), R w' base u' x' T' → Only T w w' → (∀ j ∈ T', j ∈ T ∨ w.heap.size ≤ j) → ∃ S', OwnRows e R (w'.setCell ⟨g, k, none⟩ u') base (.slice (some ⟨g, 0, none⟩) n c) (xs.set k x') S' ∧ ∀ j ∈ S', j ∈ S ∨ w.heap.size ≤ j) := by
  have hS := (rows_law e L).range h
  obtain ⟨vs, Ss, h1, h2, h3, h4, h5⟩ := h
  have hk : k < xs.length := lt_of_get hx
  have hn := ownsRow_len h1
  subst hn
  have hvl : vs.length = xs.length := by simpa using h1.1
  obtain ⟨u, hu⟩ := getx vs k (by omega)
  obtain ⟨T, hT⟩ := getx Ss k (by omega)
  have h5' := h5
  rw [h4, List.nodup_append] at h5'
  have hgS : g ∈ S := by rw [h4]; simp [Value.ownBlock]
  have hgF : g ∉ Ss.flatten := fun hg => h5'.2.2 g (by simp [Value.ownBlock]) g hg rfl
  have hTS : ∀ j ∈ T, j ∈ S := fun j hj => by rw [h4]; exact List.mem_append_right _ (List.mem_flatten.2 ⟨T, List.mem_of_getElem? hT, hj⟩)
  have hgT : g ∉ T := fun hg => hgF (List.mem_flatten.2 ⟨T, List.mem_of_getElem? hT, hg⟩)
  refine ⟨u, T, by rw [h1.cellAt (cap := c) k (by omega)]; exact hu, h3 k u x T hu hx hT, hTS, hgT, fun u' x' T' w' hR ho hT' => ?_⟩
  have hglt := (hS g hgS).2
  have hgT' : g ∉ T' := fun hg => by
    rcases hT' g hg with h | h
    · exact hgT h
    · omega
  have h1' : w'.ownsRow base e 1 (.slice (some ⟨g, 0, none⟩) xs.length c) xs.length vs := ownsRow_stable h1 (fun j hj => by
    simp [Value.ownBlock] at hj
    subst hj
    exact ho.block _ hglt hgT)
  have hst : ∀ j, j ≠ g → (w'.setCell ⟨g, k, none⟩ u').heap[j]? = w'.heap[j]? := fun j hj => Below.heap_setCell w' _ _ j hj
  refine ⟨(Value.slice (some ⟨g, 0, none⟩) xs.length c).ownBlock.toList ++ (Ss.set k T').flatten, ⟨vs.set k u', Ss.set k T', ?_, by simp [h2], ?_, rfl, ?_⟩, ?_⟩
  · have := (h1'.stored k u').1
    rw [List.length_set]
    exact this
  · intro j u2 x2 T2 hu2 hx2 hT2
    by_cases hjk : k = j
    · subst hjk
      rw [List.getElem?_set_self (by omega)] at hu2 hx2 hT2
      cases hu2; cases hx2; cases hT2
      exact L.stable hR (fun i hi => hst i (fun e => hgT' (e ▸ hi)))
    · rw [List.getElem?_set_ne hjk] at hu2 hx2 hT2
      have h0 := h3 j u2 x2 T2 hu2 hx2 hT2
      refine L.stable h0 (fun i hi => (hst i (fun e => hgF ?_)).trans (ho.block i (L.range h0 i hi).2 (flatten_disj h5'.2.1 (Ne.symm hjk) hT2 hT hi)))
      subst e
      exact List.mem_flatten.2 ⟨T2, List.mem_of_getElem? hT2, hi⟩
  · rw [List.nodup_append]
    refine ⟨h5'.1, flatten_set_nodup h5'.2.1 (L.nodup hR) (fun i j U hik hU hj hjT => ?_), fun a ha b hb hab => ?_⟩
    · rcases hT' j hjT with h | h
      · exact flatten_disj h5'.2.1 hik hU hT hj h
      · have := (hS j (by rw [h4]; exact List.mem_append_right _ (List.mem_flatten.2 ⟨U, List.mem_of_getElem? hU, hj⟩))).2
        omega
    · subst hab
      simp [Value.ownBlock] at ha
      subst ha
      rcases flatten_set_mem hb with hb | hb
      · exact hgF hb
      · exact hgT' hb
  · intro j hj
    rcases List.mem_append.1 hj with hj | hj
    · left; rw [h4]; exact List.mem_append_left _ hj
    · rcases flatten_set_mem hj with hj | hj
      · left; rw [h4]; exact List.mem_append_right _ hj
      · rcases hT' j hj with h | h
        · exact .inl (hTS j h)
        · exact .inr h
theorem OwnNet.growRow {w : World} {base g c n : Nat} {vi vn : Value} {N : Net} {S : List Nat} (h : OwnNet w base (.slice (some ⟨g, 0, none⟩) n c) vi vn N S) {k : Nat} {x : List (Int × Int)} (hx : N.ends[k]? = some x) :
    ∃ u T, w.cell? ⟨g, k, none⟩ = some u ∧ w.frozen? ⟨g, k, none⟩ = false ∧ OwnE w base u x T ∧ (∀ j ∈ T, j ∈ S) ∧ g ∉ T ∧ g ∈ S ∧ (∀ (u' : Value) (x' : List (Int × Int)) (T' : List Nat) (w' : World), OwnE w' base u' x' T' → Only T w w' → (∀ j ∈ T', j ∈ T ∨ w.heap.size ≤ j) →
      ∃ S', OwnNet (w'.setCell ⟨g, k, none⟩ u') base (.slice (some ⟨g, 0, none⟩) n c) vi vn { N with ends := N.ends.set k x' } S' ∧ ∀ j ∈ S', j ∈ S ∨ w.heap.size ≤ j) := by
  have hrg := h.range
  obtain ⟨S1, S2, S3, h1, h2, h3, h4, h5⟩ := h
  obtain ⟨_, _, _, hf, _, _, _, hg1⟩ := OwnRows.at_ h1 hx
  obtain ⟨u, T, hu, hR, hTS, hgT, hgrow⟩ := OwnRows.grow lawE h1 hx
  have hTS' : ∀ j ∈ T, j ∈ S := fun j hj => by rw [h4]; exact List.mem_append_left _ (hTS j hj)
  have hgS : g ∈ S := by rw [h4]; exact List.mem_append_left _ hg1
  refine ⟨u, T, hu, hf, hR, hTS', hgT, hgS, fun u' x' T' w' hR' ho hT' => ?_⟩
  obtain ⟨S1', o1, hs⟩ := hgrow u' x' T' w' hR' ho hT'
  rw [h4, List.nodup_append] at h5
  obtain ⟨n1, n2, n3⟩ := h5
  have ho2 : Only (g :: T) w (w'.setCell ⟨g, k, none⟩ u') := (ho.mono (fun j hj => List.mem_cons_of_mem _ hj)).setCell (.inl (by simp)) _
  have d : ∀ j ∈ S2 ++ S3, j ∉ g :: T := fun j hj hg' => by
    rcases List.mem_cons.1 hg' with rfl | hg'
    · exact n3 _ hg1 _ hj rfl
    · exact n3 _ (hTS j hg') _ hj rfl
  refine ⟨S1' ++ (S2 ++ S3), ⟨S1', S2, S3, o1, lawI.only h2 ho2 (fun j hj => d j (List.mem_append_left _ hj)), lawI.only h3 ho2 (fun j hj => d j (List.mem_append_right _ hj)), rfl, ?_⟩, ?_⟩
  · rw [List.nodup_append]
    refine ⟨lawEE.nodup o1, n2, fun a ha b hb hab => ?_⟩
    subst hab
    rcases hs a ha with h | h
    · exact n3 a h a hb rfl
    · have := (hrg a (by rw [h4]; exact List.mem_append_right _ hb)).2
      omega
  · intro j hj
    rcases List.mem_append.1 hj with hj | hj
    · rcases hs j hj with h | h
      · exact .inl (by rw [h4]; exact List.mem_append_left _ h)
      · exact .inr h
    · exact .inl (by rw [h4]; exact List.mem_append_right _ hj)
/-- append of one end to a row of its own, in a region that draws its order -/
theorem step_app_end {w : World} {ops : Array Oper} {o : Oper} {a : Act} {K : Act → World → Prop} {Q : Exit → Act → World → Prop} {E : Prop} (hgd : o.guard = none) (s x : Operand)
    (ho : o.op = .call { callee := .builtin .append, args := #[s, x], argTypes := #[53, 53] }) {base : Nat} {v : Value} {xs : List (Int × Int)} {T : List Nat} (hs : a.eval s = v) (h : OwnE w base v xs T) (b : Nat) (y : Int × Int)
    (hx : a.eval x = .slice (some ⟨b, 0, none⟩) 1 1) (hc : w.cell? ⟨b, 0, none⟩ = some (.int .i64 y.1)) (hc1 : w.cell? ⟨b, 1, none⟩ = some (.int .i64 y.2)) (hl : xs.length + 1 ≤ 1099511627776) (hbase : base ≤ w.heap.size)
    (k : ∀ g cap w', OwnE w' base (.slice (some ⟨g, 0, none⟩) (xs.length + 1) cap) (xs ++ [y]) [g] → Only T w w' → (g ∈ T ∨ g = w.heap.size) → K (a.put o.dst (.slice (some ⟨g, 0, none⟩) (xs.length + 1) cap)) w') : if Region.wanted o (yielded ops a.tmps) = true then Oper.wp Try.prog o a w K Q else E := by
  obtain ⟨i0, hi, hz0, hz1, hz2⟩ := info_parts end_info
  refine step_append_lies w hgd s x 53 ho base 57 i0 _ 2 16 Try.underlying53 hi hz0 hz1 hz2 rfl (by decide) v xs.length (xs.flatMap encE) hs h.1 ⟨b, 0, none⟩ 1 1 [.int .i64 y.1, .int .i64 y.2] hx rfl
    (by intro j u hj; match j, hj with | 0, hj => (simp at hj; subst hj; simpa [Addr.add] using hc) | 1, hj => (simp at hj; subst hj; simpa [Addr.add] using hc1) | j + 2, hj => simp at hj) (by simp [Value.oneCell']) (by omega) (by unfold maxLen; omega) (by omega) hbase w.heap.size rfl ?_
  intro g cap w' h1 h2 h3 h4
  refine k g cap w' ⟨?_, by simp [Value.ownBlock]⟩ ?_ ?_
  · simpa [encE] using h1
  · rw [h.2]; exact Only.of_grown h2
  · rw [h.2]
    rcases h3 with h3 | h3
    · left; rw [h3]; simp
    · exact .inr h3
theorem ownNet_nil (w : World) (base : Nat) : OwnNet w base (.slice none 0 0) (.slice none 0 0) (.slice none 0 0) ⟨[], [], []⟩ [] :=
  ⟨[], [], [], ⟨[], [], World.ownsRow_nil w base _ _, rfl, fun k u x T h => by simp at h, rfl, by simp⟩, ownI_nil _ _, ownI_nil _ _, rfl, by simp⟩
theorem bf {w w' : World} (hb : Below w.heap.size w w') {a : Addr} {u : Value} (h : w.cell? a = some u) (hf : w.frozen? a = false) : w'.frozen? a = false := (hb.frozen (World.block_lt_of_cell? w _ h)).trans hf
theorem Only.fz {S : List Nat} {a b : World} (h : Only S a b) {p : Addr} {u : Value} (hp : p.block ∉ S) (hc : a.cell? p = some u) (hf : a.frozen? p = false) : b.frozen? p = false :=
  (World.frozen?_of_block (h.block p.block (World.block_lt_of_cell? a _ hc) hp)).trans hf
end Go.Proofs.Ythgbobikbdklhaa
