import Derived.Test.YtdmadigjdlbhiaaForge
import Derived.Deep.RegionHeld3
namespace Go.Proofs.Ytdmadigjdlbhiaa
open Go.RowKit
/-- a row is turned, and stored anew -/
theorem OwnRows.grow {β : Type} {R : World → Nat → Value → β → List Nat → Prop} {e : TypeId} {w : World} {base g c n : Nat} {xs : List β} {S : List Nat} (L : RowLaw R) (h : OwnRows e R w base (.slice (some ⟨g, 0, none⟩) n c) xs S) {k : Nat} {x : β} (hx : xs[k]? = some x) :
    ∃ u T, w.cell? ⟨g, k, none⟩ = some u ∧ R w base u x T ∧ (∀ j ∈ T, j ∈ S) ∧ g ∉ T ∧ (∀ (u' : Value) (x' : β) (T' : List Nat) (w' : World), R w' base u' x' T' → Only T w w' → (∀ j ∈ T', j ∈ T ∨ w.heap.size ≤ j) → ∃ S', OwnRows e R (w'.setCell ⟨g, k, none⟩ u') base (.slice (some ⟨g, 0, none⟩) n c) (xs.set k x') S' ∧ ∀ j ∈ S', j ∈ S ∨ w.heap.size ≤ j) := by
  have hS := (rows_law e L).range h
  obtain ⟨vs, Ss, h1, h2, h3, h4, h5⟩ := h
  have hk : k < xs.length := lt_of_get hx
  have hn := ownsRow_len h1
  subst hn
  have hvl : vs.length = xs.length := by simpa using h1.1
  obtain ⟨u, hu⟩ := getx vs k (by omega)
  obtain ⟨T, hT⟩ := getx Ss k (by omega)
  have h5' := h5
  rw [h4, List.nodup_append] at h5'
  have hgS : g ∈ S := by rw [h4]; simp [Value.ownBlock]
  have hgF : g ∉ Ss.flatten := fun hg => h5'.2.2 g (by simp [Value.ownBlock]) g hg rfl
  have hTS : ∀ j ∈ T, j ∈ S := fun j hj => by rw [h4]; exact List.mem_append_right _ (List.mem_flatten.2 ⟨T, List.mem_of_getElem? hT, hj⟩)
  have hgT : g ∉ T := fun hg => hgF (List.mem_flatten.2 ⟨T, List.mem_of_getElem? hT, hg⟩)
  refine ⟨u, T, by rw [h1.cellAt (cap := c) k (by omega)]; exact hu, h3 k u x T hu hx hT, hTS, hgT, fun u' x' T' w' hR ho hT' => ?_⟩
  have hglt := (hS g hgS).2
  have hgT' : g ∉ T' := fun hg => by
    rcases hT' g hg with h | h
    · exact hgT h
    · omega
  have h1' : w'.ownsRow base e 1 (.slice (some ⟨g, 0, none⟩) xs.length c) xs.length vs := ownsRow_stable h1 (fun j hj => by
    simp [Value.ownBlock] at hj
    subst hj
    exact ho.block _ hglt hgT)
  have hst : ∀ j, j ≠ g → (w'.setCell ⟨g, k, none⟩ u').heap[j]? = w'.heap[j]? := fun j hj => Below.heap_setCell w' _ _ j hj
  refine ⟨(Value.slice (some ⟨g, 0, none⟩) xs.length c).ownBlock.toList ++ (Ss.set k T').flatten, ⟨vs.set k u', Ss.set k T', ?_, by simp [h2], ?_, rfl, ?_⟩, ?_⟩
  · have := (h1'.stored k u').1
    rw [List.length_set]
    exact this
  · intro j u2 x2 T2 hu2 hx2 hT2
    by_cases hjk : k = j
    · subst hjk
      rw [List.getElem?_set_self (by omega)] at hu2 hx2 hT2
      cases hu2; cases hx2; cases hT2
      exact L.stable hR (fun i hi => hst i (fun e => hgT' (e ▸ hi)))
    · rw [List.getElem?_set_ne hjk] at hu2 hx2 hT2
      have h0 := h3 j u2 x2 T2 hu2 hx2 hT2
      refine L.stable h0 (fun i hi => (hst i (fun e => hgF ?_)).trans (ho.block i (L.range h0 i hi).2 (flatten_disj h5'.2.1 (Ne.symm hjk) hT2 hT hi)))
      subst e
      exact List.mem_flatten.2 ⟨T2, List.mem_of_getElem? hT2, hi⟩
  · rw [List.nodup_append]
    refine ⟨h5'.1, flatten_set_nodup h5'.2.1 (L.nodup hR) (fun i j U hik hU hj hjT => ?_), fun a ha b hb hab => ?_⟩
    · rcases hT' j hjT with h | h
      · exact flatten_disj h5'.2.1 hik hU hT hj h
      · have := (hS j (by rw [h4]; exact List.mem_append_right _ (List.mem_flatten.2 ⟨U, List.mem_of_getElem? hU, hj⟩))).2
        omega
    · subst hab
      simp [Value.ownBlock] at ha
      subst ha
      rcases flatten_set_mem hb with hb | hb
      · exact hgF hb
      · exact hgT' hb
  · intro j hj
    rcases List.mem_append.1 hj with hj | hj
    · left; rw [h4]; exact List.mem_append_left _ hj
    · rcases flatten_set_mem hj with hj | hj
      · left; rw [h4]; exact List.mem_append_right _ hj
      · rcases hT' j hj with h | h
        · exact .inl (hTS j h)
        · exact .inr h
theorem OwnNet.growRow {w : World} {base g c n : Nat} {vi vn : Value} {N : Net} {S : List Nat} (h : OwnNet w base (.slice (some ⟨g, 0, none⟩) n c) vi vn N S) {k : Nat} {x : List (Int × Int)} (hx : N.ends[k]? = some x) :
    ∃ u T, w.cell? ⟨g, k, none⟩ = some u ∧ w.frozen? ⟨g, k, none⟩ = false ∧ OwnE w base u x T ∧ (∀ j ∈ T, j ∈ S) ∧ g ∉ T ∧ g ∈ S ∧ (∀ (u' : Value) (x' : List (Int × Int)) (T' : List Nat) (w' : World), OwnE w' base u' x' T' → Only T w w' → (∀ j ∈ T', j ∈ T ∨ w.heap.size ≤ j) →
      ∃ S', OwnNet (w'.setCell ⟨g, k, none⟩ u') base (.slice (some ⟨g, 0, none⟩) n c) vi vn { N with ends := N.ends.set k x' } S' ∧ ∀ j ∈ S', j ∈ S ∨ w.heap.size ≤ j) := by
  have hrg := h.range
  obtain ⟨S1, S2, S3, h1, h2, h3, h4, h5⟩ := h
  obtain ⟨_, _, _, hf, _, _, _, hg1⟩ := OwnRows.at_ h1 hx
  obtain ⟨u, T, hu, hR, hTS, hgT, hgrow⟩ := OwnRows.grow lawE h1 hx
  have hTS' : ∀ j ∈ T, j ∈ S := fun j hj => by rw [h4]; exact List.mem_append_left _ (hTS j hj)
  have hgS : g ∈ S := by rw [h4]; exact List.mem_append_left _ hg1
  refine ⟨u, T, hu, hf, hR, hTS', hgT, hgS, fun u' x' T' w' hR' ho hT' => ?_⟩
  obtain ⟨S1', o1, hs⟩ := hgrow u' x' T' w' hR' ho hT'
  rw [h4, List.nodup_append] at h5
  obtain ⟨n1, n2, n3⟩ := h5
  have ho2 : Only (g :: T) w (w'.setCell ⟨g, k, none⟩ u') := (ho.mono (fun j hj => List.mem_cons_of_mem _ hj)).setCell (.inl (by simp)) _
  have d : ∀ j ∈ S2 ++ S3, j ∉ g :: T := fun j hj hg' => by
    rcases List.mem_cons.1 hg' with rfl | hg'
    · exact n3 _ hg1 _ hj rfl
    · exact n3 _ (hTS j hg') _ hj rfl
  refine ⟨S1' ++ (S2 ++ S3), ⟨S1', S2, S3, o1, lawI.only h2 ho2 (fun j hj => d j (List.mem_append_left _ hj)), lawI.only h3 ho2 (fun j hj => d j (List.mem_append_right _ hj)), rfl, ?_⟩, ?_⟩
  · rw [List.nodup_append]
    refine ⟨lawEE.nodup o1, n2, fun a ha b hb hab => ?_⟩
    subst hab
    rcases hs a ha with h | h
    · exact n3 a h a hb rfl
    · have := (hrg a (by rw [h4]; exact List.mem_append_right _ hb)).2
      omega
  · intro j hj
    rcases List.mem_append.1 hj with hj | hj
    · rcases hs j hj with h | h
      · exact .inl (by rw [h4]; exact List.mem_append_left _ h)
      · exact .inr h
    · exact .inl (by rw [h4]; exact List.mem_append_right _ hj)
/-- append of one end to a row of its own, in a region that draws its order -/
theorem step_app_end {w : World} {ops : Array Oper} {o : Oper} {a : Act} {K : Act → World → Prop} {Q : Exit → Act → World → Prop} {E : Prop} (hgd : o.guard = none) (s x : Operand)
    (ho : o.op = .call { callee := .builtin .append, args := #[s, x], argTypes := #[68, 68] }) {base : Nat} {v : Value} {xs : List (Int × Int)} {T : List Nat} (hs : a.eval s = v) (h : OwnE w base v xs T) (b : Nat) (y : Int × Int)
    (hx : a.eval x = .slice (some ⟨b, 0, none⟩) 1 1) (hc : w.cell? ⟨b, 0, none⟩ = some (.int .i64 y.1)) (hc1 : w.cell? ⟨b, 1, none⟩ = some (.int .i64 y.2)) (hl : xs.length + 1 ≤ 1099511627776) (hbase : base ≤ w.heap.size)
    (k : ∀ g cap w', OwnE w' base (.slice (some ⟨g, 0, none⟩) (xs.length + 1) cap) (xs ++ [y]) [g] → Only T w w' → (g ∈ T ∨ g = w.heap.size) → K (a.put o.dst (.slice (some ⟨g, 0, none⟩) (xs.length + 1) cap)) w') : if Region.wanted o (yielded ops a.tmps) = true then Oper.wp Try.prog o a w K Q else E := by
  obtain ⟨i0, hi, hz0, hz1, hz2⟩ := info_parts end_info
  refine step_append_lies w hgd s x 68 ho base 67 i0 _ 2 16 Try.underlying68 hi hz0 hz1 hz2 rfl (by decide) v xs.length (xs.flatMap encE) hs h.1 ⟨b, 0, none⟩ 1 1 [.int .i64 y.1, .int .i64 y.2] hx rfl
    (by intro j u hj; match j, hj with | 0, hj => (simp at hj; subst hj; simpa [Addr.add] using hc) | 1, hj => (simp at hj; subst hj; simpa [Addr.add] using hc1) | j + 2, hj => simp at hj) (by simp [Value.oneCell']) (by omega) (by unfold maxLen; omega) (by omega) hbase w.heap.size rfl ?_
  intro g cap w' h1 h2 h3 h4
  refine k g cap w' ⟨?_, by simp [Value.ownBlock]⟩ ?_ ?_
  · simpa [encE] using h1
  · rw [h.2]; exact Only.of_grown h2
  · rw [h.2]
    rcases h3 with h3 | h3
    · left; rw [h3]; simp
    · exact .inr h3
end Go.Proofs.Ytdmadigjdlbhiaa
