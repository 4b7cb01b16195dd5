import Derived.Test.YtdmadigjdlbhiaaEmpty
namespace Go.Proofs.Ytdmadigjdlbhiaa
open Go.RowKit
theorem OwnNet.storeRow {w : World} {base g c n : Nat} {vi vn : Value} {N : Net} {S : List Nat} (h : OwnNet w base (.slice (some ⟨g, 0, none⟩) n c) vi vn N S) (k : Nat) {u : Value} {x : List (Int × Int)} {T : List Nat} (hR : OwnE w base u x T) (hd : ∀ j ∈ T, j ∉ S) :
    ∃ S', OwnNet (w.setCell ⟨g, k, none⟩ u) base (.slice (some ⟨g, 0, none⟩) n c) vi vn { N with ends := N.ends.set k x } S' ∧ ∀ j ∈ S', j ∈ S ∨ j ∈ T := by
  obtain ⟨S1, S2, S3, h1, h2, h3, h4, h5⟩ := h
  rw [h4, List.nodup_append] at h5
  obtain ⟨n1, n2, n3⟩ := h5
  have hg : g ∈ S1 := by
    obtain ⟨vs, Ss, _, _, _, e, _⟩ := h1
    rw [e]; simp [Value.ownBlock]
  obtain ⟨S1', o1, hs⟩ := OwnRows.store lawE h1 k hR (fun j hj hS => hd j hj (by rw [h4]; exact List.mem_append_left _ hS))
  have ho : Only [g] w (w.setCell ⟨g, k, none⟩ u) := (Only.refl _ _).setCell (.inl (by simp)) _
  have d : ∀ j ∈ S2 ++ S3, j ∉ [g] := fun j hj hg' => by simp at hg'; subst hg'; exact n3 j hg j hj rfl
  refine ⟨S1' ++ (S2 ++ S3), ⟨S1', S2, S3, o1, lawI.only h2 ho (fun j hj => d j (List.mem_append_left _ hj)), lawI.only h3 ho (fun j hj => d j (List.mem_append_right _ hj)), rfl, ?_⟩, ?_⟩
  · rw [List.nodup_append]
    refine ⟨lawEE.nodup o1, n2, fun a ha b hb hab => ?_⟩
    subst hab
    rcases hs a ha with h | h
    · exact n3 a h a hb rfl
    · exact hd a h (by rw [h4]; exact List.mem_append_right _ hb)
  · intro j hj
    rcases List.mem_append.1 hj with hj | hj
    · rcases hs j hj with h | h
      · exact .inl (by rw [h4]; exact List.mem_append_left _ h)
      · exact .inr h
    · exact .inl (by rw [h4]; exact List.mem_append_right _ hj)
theorem OwnNet.rowCell {w : World} {base g c n : Nat} {vi vn : Value} {N : Net} {S : List Nat} (h : OwnNet w base (.slice (some ⟨g, 0, none⟩) n c) vi vn N S) {k : Nat} {x : List (Int × Int)} (hx : N.ends[k]? = some x) :
    ∃ u T, w.cell? ⟨g, k, none⟩ = some u ∧ w.frozen? ⟨g, k, none⟩ = false ∧ OwnE w base u x T ∧ base ≤ g ∧ g < w.heap.size ∧ g ∈ S := by
  obtain ⟨S1, S2, S3, h1, _, _, h4, _⟩ := h
  obtain ⟨u, T, a, b, c, _, _, d⟩ := OwnRows.at_ h1 hx
  exact ⟨u, T, a, b, c, (lawEE.range h1 g d).1, (lawEE.range h1 g d).2, by rw [h4]; exact List.mem_append_left _ d⟩
/-- a box of three cells -/
def Box3 (w : World) (b : Nat) (x y z : Value) : Prop := ∃ r, w.heap[b]? = some (.cells #[x, y, z] r)
theorem Box3.cells {w : World} {b : Nat} {x y z : Value} (h : Box3 w b x y z) : w.cell? ⟨b, 0, none⟩ = some x ∧ w.cell? ⟨b, 1, none⟩ = some y ∧ w.cell? ⟨b, 2, none⟩ = some z ∧ w.frozen? ⟨b, 0, none⟩ = false ∧ w.frozen? ⟨b, 1, none⟩ = false ∧ w.frozen? ⟨b, 2, none⟩ = false := by
  obtain ⟨r, h⟩ := h
  simp [World.cell?, World.frozen?, h]
theorem Box3.lt {w : World} {b : Nat} {x y z : Value} (h : Box3 w b x y z) : b < w.heap.size := by
  obtain ⟨r, h⟩ := h
  exact (Array.getElem?_eq_some_iff.1 h).1
theorem Box3.below {w w' : World} {B b : Nat} {x y z : Value} (h : Box3 w b x y z) (hb : Below B w w') (hB : b < B) : Box3 w' b x y z := by
  obtain ⟨r, h⟩ := h
  exact ⟨r, (hb.block b hB).trans h⟩
theorem Box3.set {w : World} {b : Nat} {x y z u : Value} {a : Addr} (h : Box3 w b x y z) (ha : a.block ≠ b) : Box3 (w.setCell a u) b x y z := by
  obtain ⟨r, h⟩ := h
  exact ⟨r, (Below.heap_setCell w a u b (Ne.symm ha)).trans h⟩
theorem Box3.alloc {w : World} {b : Nat} {x y z : Value} (h : Box3 w b x y z) (o : Obj) : Box3 (w.alloc o) b x y z := h.below (below_alloc w o) h.lt
theorem Box3.new (w : World) (x y z : Value) (t : TypeId) : Box3 (w.alloc (.cells #[x, y, z] t)) w.heap.size x y z := ⟨t, by show (w.heap.push _)[w.heap.size]? = _; rw [Array.getElem?_push_size]⟩
def cycRow (k v : Nat) : List (Int × Int) := [((((v + 1) % k : Nat) : Int), 1), ((((v + k - 1) % k : Nat) : Int), 0)]
def cycEnds (k : Nat) : List (List (Int × Int)) := (List.range k).map (cycRow k)
def cycNet (k : Nat) : Net := { ends := cycEnds k, ids := [], inputs := List.replicate k 0 }
/-- the cycle up to v -/
def cycTo (k v : Nat) : Net := { ends := (cycEnds k).take v ++ List.replicate (k - v) [], ids := [], inputs := List.replicate k 0 }
theorem cyc_get {k v : Nat} (h : v < k) : (cycEnds k)[v]? = some (cycRow k v) := by simp [cycEnds, h]
theorem cyc_len (k : Nat) : (cycEnds k).length = k := by simp [cycEnds]
theorem cycTo_set {k v : Nat} (h : v < k) : { cycTo k v with ends := (cycTo k v).ends.set v (cycRow k v) } = cycTo k (v + 1) := by
  simp only [cycTo]
  congr 1
  have := set_fill [] (cycEnds k) v (cycRow k v) (cyc_get h)
  rwa [cyc_len] at this
theorem cycTo_get {k v : Nat} (h : v < k) : (cycTo k v).ends[v]? = some [] := by
  simp only [cycTo]
  rw [List.getElem?_append_right (by simp [cyc_len]; omega)]
  rw [List.getElem?_replicate, if_pos (by simp [cyc_len]; omega)]
theorem cycTo_all (k : Nat) : cycTo k k = cycNet k := by
  have : (cycEnds k).take k = cycEnds k := List.take_of_length_le (by rw [cyc_len]; exact Nat.le_refl _)
  simp [cycTo, cycNet, this]
theorem ownE_lit2 (w : World) (a b c d : Int) : OwnE (w.alloc (.cells #[.int .i64 a, .int .i64 b, .int .i64 c, .int .i64 d] 67)) w.heap.size (.slice (some ⟨w.heap.size, 0, none⟩) 2 2) [(a, b), (c, d)] [w.heap.size] := by
  have := World.ownsRow_lit (base := w.heap.size) (e := 67) (size := 2) w #[.int .i64 a, .int .i64 b, .int .i64 c, .int .i64 d] 2 (Nat.le_refl _) (by simp [maxLen]) (by simp)
  exact ⟨this, rfl⟩
set_option maxHeartbeats 2000000 in
theorem buCycle_any (k : Nat) (hk0 : 1 ≤ k) (hk : k ≤ 1000000) (w : World) : Calls Try.prog 47 #[.int .i64 k] w (NewNet w (cycNet k)) := by
  go_enter Try.func47, Try.ntmps47
  go_wp2_with fail
  refine (neEmpty_any k hk _).mono ?_
  rintro e w1 ⟨ve, vi, vn, S, rfl, ho, hb⟩
  have hres := ((Box3.new w (.slice none 0 0) (.slice none 0 0) (.slice none 0 0) 39).below hb (by simp))
  have hsz : w.heap.size + 1 ≤ w1.heap.size := by have := hb.size; simpa using this
  have hr := ho.read
  obtain ⟨⟨A1, c1, hve, _, hm1, _⟩, ⟨A2, c2, hvi, _, hm2, _⟩, ⟨A3, c3, hvn, _, hm3, _⟩⟩ := hr
  obtain ⟨g, rfl⟩ : ∃ g, A1 = some ⟨g, 0, none⟩ := by
    obtain ⟨S1, S2, S3, ⟨vs, Ss, h1, _⟩, _⟩ := ho
    rcases ownsRow_cases h1 with ⟨rfl, h0⟩ | ⟨g, c, rfl, _⟩
    · simp [emptyNet] at h0; omega
    · cases hve; exact ⟨g, rfl⟩
  subst hve hvi hvn
  simp only [emptyNet, List.length_replicate, List.length_nil] at ho ⊢
  unfold maxLen at hm1
  have hb0 : Below w1.heap.size w1 (w1.alloc (.cells #[.slice (some ⟨g, 0, none⟩) k c1, .slice A2 0 c2, .slice A3 k c3] 39)) := below_alloc _ _
  have Ho := Lib.hid (ho.keep hb0)
  have Hbw := Lib.hid (((below_alloc w _).trans (hb.mono (by simp))).trans (hb0.mono (by omega)))
  have hfr : Hid (∀ j ∈ S, j < w1.heap.size) := fun j hj => (ho.range j hj).2
  have Hres := Lib.hid (hres.alloc (.cells #[.slice (some ⟨g, 0, none⟩) k c1, .slice A2 0 c2, .slice A3 k c3] 39))
  clear ho hb hb0 hres
  go_wp2
  go_loopw [10] (fun i wr => ∃ v S, v ≤ k ∧ i = .int .i64 v ∧ OwnNet wr (w.heap.size + 1) (.slice (some ⟨g, 0, none⟩) k c1) (.slice A2 0 c2) (.slice A3 k c3) (cycTo k v) S ∧ w1.heap.size ∉ S ∧ Box3 wr w1.heap.size (.slice (some ⟨g, 0, none⟩) k c1) (.slice A2 0 c2) (.slice A3 k c3) ∧ Box3 wr w.heap.size (.slice none 0 0) (.slice none 0 0) (.slice none 0 0) ∧ Below w.heap.size w wr) (fun i _ => k - (intOf i).toNat)
  case atStart =>
    refine ⟨0, S, Nat.zero_le _, rfl, ?_, fun hj => by have := hfr.out _ hj; omega, Box3.new _ _ _ _ _, Hres.out, Hbw.out⟩
    have := Ho.out
    simpa [cycTo] using this
  case round =>
    obtain ⟨v, S', hv, rfl, ho, hnS, hbox, hres, hbr⟩ := hrel
    obtain ⟨hc0, hc1, hc2, _⟩ := hbox.cells
    by_cases hlt : v < k
    · obtain ⟨u0, T0, hu0, hf0, _, hg1, hg2, hgS⟩ := ho.rowCell (cycTo_get hlt)
      have hgb : g ≠ w1.heap.size := fun h => hnS (h ▸ hgS)
      have hsz' := hbox.lt
      obtain ⟨p, hp⟩ : ∃ p, p = (v + 1) % k := ⟨_, rfl⟩
      obtain ⟨q, hq⟩ : ∃ q, q = (v + k - 1) % k := ⟨_, rfl⟩
      have e1 : ((v : Int) + 1).tmod k = (p : Int) := by rw [hp, Int.tmod_eq_emod_of_nonneg (by omega)]; simp
      have e2 : ((v : Int) + k - 1).tmod k = (q : Int) := by
        rw [hq, Int.tmod_eq_emod_of_nonneg (by omega), Int.natCast_emod]; congr 1; omega
      have h1 : p < k := hp ▸ Nat.mod_lt _ (by omega)
      have h2 : q < k := hq ▸ Nat.mod_lt _ (by omega)
      have hrow : cycRow k v = [((p : Int), 1), ((q : Int), 0)] := by rw [cycRow, ← hp, ← hq]
      have hfin : Hid (∃ S'', OwnNet ((wr.setCell ⟨g, v, none⟩ (.slice (some ⟨wr.heap.size, 0, none⟩) 2 2)).alloc (.cells #[.int .i64 p, .int .i64 1, .int .i64 q, .int .i64 0] 67)).drew (w.heap.size + 1) (.slice (some ⟨g, 0, none⟩) k c1) (.slice A2 0 c2) (.slice A3 k c3) (cycTo k (v + 1)) S'' ∧ w1.heap.size ∉ S'') := by
        have o1 := (ho.keep (below_alloc wr (.cells #[.int .i64 p, .int .i64 1, .int .i64 q, .int .i64 0] 67))).storeRow v (lawE.mono (ownE_lit2 wr p 1 q 0) (by omega)) (fun j hj hS => by simp at hj; have := (ho.range j hS).2; omega)
        obtain ⟨S'', o2, hs⟩ := o1
        rw [World.setCell_alloc_past _ _ _ _ hg2, ← hrow, cycTo_set hlt] at o2
        refine ⟨S'', o2.drew, fun hj => ?_⟩
        rcases hs _ hj with h | h
        · exact hnS h
        · simp at h; omega
      have Hb := Lib.hid ((hbr.setCell (p := ⟨g, v, none⟩) (by show _ ≤ g; omega) (.slice (some ⟨wr.heap.size, 0, none⟩) 2 2)).alloc (by simpa using hbr.size) (.cells #[.int .i64 p, .int .i64 1, .int .i64 q, .int .i64 0] 67))
      have Hx := Lib.hid ((hbox.set (a := ⟨g, v, none⟩) (u := .slice (some ⟨wr.heap.size, 0, none⟩) 2 2) hgb).alloc (.cells #[.int .i64 p, .int .i64 1, .int .i64 q, .int .i64 0] 67))
      have Hr := Lib.hid ((hres.set (a := ⟨g, v, none⟩) (u := .slice (some ⟨wr.heap.size, 0, none⟩) 2 2) (by show g ≠ _; omega)).alloc (.cells #[.int .i64 p, .int .i64 1, .int .i64 q, .int .i64 0] 67))
      clear ho hbr hres hnS hbox hp hq hrow
      go_wp2
      go_region
      go_wp2
      go_roundw
      case rel => exact hfin.out.elim fun S'' h => ⟨v + 1, S'', by omega, by simp, h.1, h.2, Hx.out, Hr.out, Hb.out.drew⟩
      case measure => simp [intOf]; omega
    · obtain rfl : v = k := by omega
      rw [cycTo_all] at ho
      obtain ⟨hr0, hr1, hr2, hf0, hf1, hf2⟩ := hres.cells
      have hfin : Hid (∀ x y z, OwnNet (((wr.setCell ⟨w.heap.size, 0, none⟩ x).setCell ⟨w.heap.size, 1, none⟩ y).setCell ⟨w.heap.size, 2, none⟩ z) w.heap.size (.slice (some ⟨g, 0, none⟩) v c1) (.slice A2 0 c2) (.slice A3 v c3) (cycNet v) S' ∧ Below w.heap.size w (((wr.setCell ⟨w.heap.size, 0, none⟩ x).setCell ⟨w.heap.size, 1, none⟩ y).setCell ⟨w.heap.size, 2, none⟩ z)) := fun x y z => by
        refine ⟨(ho.stable fun j hj => ?_).mono (by omega), ((hbr.setCell (Nat.le_refl _) _).setCell (Nat.le_refl _) _).setCell (Nat.le_refl _) _⟩
        have := (ho.range j hj).1
        rw [Below.heap_setCell _ _ _ _ (by show j ≠ w.heap.size; omega), Below.heap_setCell _ _ _ _ (by show j ≠ w.heap.size; omega), Below.heap_setCell _ _ _ _ (by show j ≠ w.heap.size; omega)]
      clear ho hbr hres hbox
      go_wp2
      refine bodyPost_ret (v := .agg #[.slice (some ⟨g, 0, none⟩) v c1, .slice A2 0 c2, .slice A3 v c3]) (by simp [results, Try.results47, go_sem, *]) rfl ?_
      exact ⟨_, _, _, S', rfl, (hfin.out _ _ _).1, (hfin.out _ _ _).2⟩
end Go.Proofs.Ytdmadigjdlbhiaa
