import Derived.Test.YtdmadigjdlbhiaaWired2
namespace Go.Proofs.Ytdmadigjdlbhiaa
open Go.RowKit
/-- the cycle up to v, and of v the first i ends -/
def cycMid (k v i : Nat) : Net := { cycTo k v with ends := (cycTo k v).ends.set v ((cycRow k v).take i) }
theorem cycMid_zero {k v : Nat} (h : v < k) : cycMid k v 0 = cycTo k v := by
  simp only [cycMid, List.take_zero]
  have : (cycTo k v).ends.set v [] = (cycTo k v).ends := by
    have h1 := cycTo_get h
    obtain ⟨hl, he⟩ := List.getElem?_eq_some_iff.1 h1
    conv => lhs; rw [← he]
    exact List.set_getElem_self hl
  rw [this]
theorem cycMid_two {k v : Nat} (h : v < k) : cycMid k v 2 = cycTo k (v + 1) := by
  rw [← cycTo_set h]; rfl
theorem cycMid_get {k v : Nat} (i : Nat) (h : v < k) : (cycMid k v i).ends[v]? = some ((cycRow k v).take i) := by
  have h1 := lt_of_get (cycTo_get h)
  simp only [cycMid]
  rw [List.getElem?_set_self h1]
theorem cycMid_set (k v i j : Nat) : { cycMid k v i with ends := (cycMid k v i).ends.set v ((cycRow k v).take j) } = cycMid k v j := by
  simp [cycMid]
theorem bf {w w' : World} (hb : Below w.heap.size w w') {a : Addr} {u : Value} (h : w.cell? a = some u) (hf : w.frozen? a = false) : w'.frozen? a = false := (hb.frozen (World.block_lt_of_cell? w _ h)).trans hf
theorem Only.fz {S : List Nat} {a b : World} (h : Only S a b) {p : Addr} {u : Value} (hp : p.block ∉ S) (hc : a.cell? p = some u) (hf : a.frozen? p = false) : b.frozen? p = false :=
  (World.frozen?_of_block (h.block p.block (World.block_lt_of_cell? a _ hc) hp)).trans hf
/-- an end is appended to the row of v -/
theorem mid_step {w wr w3 w4 : World} {k v t g c1 c3 c2 gg cc b1 : Nat} {A2 A3 : Option Addr} {S2 T : List Nat} {x y : Int} {o : Obj} {l0 : List (Int × Int)} (hl0 : l0 = (cycRow k v).take t)
    (hgrow : ∀ (u' : Value) (x' : List (Int × Int)) (T' : List Nat) (w' : World), OwnE w' (w.heap.size + 1) u' x' T' → Only T wr w' → (∀ j ∈ T', j ∈ T ∨ wr.heap.size ≤ j) →
      ∃ S', OwnNet (w'.setCell ⟨g, v, none⟩ u') (w.heap.size + 1) (.slice (some ⟨g, 0, none⟩) k c1) (.slice A2 0 c2) (.slice A3 k c3) { cycMid k v t with ends := (cycMid k v t).ends.set v x' } S' ∧ ∀ j ∈ S', j ∈ S2 ∨ wr.heap.size ≤ j)
    (hxy : (cycRow k v)[t]? = some (x, y)) (hb3 : Below wr.drew.heap.size wr.drew w3) (ho4 : OwnE w4 (w.heap.size + 1) (.slice (some ⟨gg, 0, none⟩) (l0.length + 1) cc) (l0 ++ [(x, y)]) [gg])
    (hon4 : Only T (w3.alloc o) w4) (hg4 : gg ∈ T ∨ gg = (w3.alloc o).heap.size) (hnS : b1 ∉ S2) (hTS : ∀ j ∈ T, j ∈ S2) (hgS : g ∈ S2) (hgl : w.heap.size + 1 ≤ g) (hTl : ∀ j ∈ T, w.heap.size + 1 ≤ j) (hb : Below w.heap.size w wr)
    {r0 r1 r2 q0 q1 q2 : Value} (hbox : Box3 wr b1 r0 r1 r2) (hres : Box3 wr w.heap.size q0 q1 q2) :
    ∃ S', OwnNet (w4.setCell ⟨g, v, none⟩ (.slice (some ⟨gg, 0, none⟩) (l0.length + 1) cc)) (w.heap.size + 1) (.slice (some ⟨g, 0, none⟩) k c1) (.slice A2 0 c2) (.slice A3 k c3) (cycMid k v (t + 1)) S' ∧ b1 ∉ S' ∧
      Box3 (w4.setCell ⟨g, v, none⟩ (.slice (some ⟨gg, 0, none⟩) (l0.length + 1) cc)) b1 r0 r1 r2 ∧ Box3 (w4.setCell ⟨g, v, none⟩ (.slice (some ⟨gg, 0, none⟩) (l0.length + 1) cc)) w.heap.size q0 q1 q2 ∧
      Below w.heap.size w (w4.setCell ⟨g, v, none⟩ (.slice (some ⟨gg, 0, none⟩) (l0.length + 1) cc)) := by
  have hb3' : Below wr.heap.size wr w3 := ⟨hb3.os, hb3.tape, hb3.output, hb3.size, hb3.block⟩
  have h34 : Only T wr w4 := ((Only.of_below hb3').alloc o).trans hon4
  have hsn : l0 ++ [(x, y)] = (cycRow k v).take (t + 1) := by
    rw [hl0, List.take_add_one, hxy]; rfl
  rw [hsn] at ho4
  have hs3 : wr.heap.size ≤ w3.heap.size := hb3'.size
  obtain ⟨S', h1, h2⟩ := hgrow _ _ _ _ ho4 h34 (fun j hj => by
    simp at hj; subst hj
    rcases hg4 with h | h
    · exact .inl h
    · right; rw [h]; simp; omega)
  rw [cycMid_set] at h1
  have l1 := hbox.lt
  have l2 := hres.lt
  refine ⟨S', h1, fun h => ?_, ?_, ?_, ?_⟩
  · rcases h2 _ h with h | h
    · exact hnS h
    · omega
  · refine Box3.set ?_ (fun e => hnS (by rw [← e]; exact hgS))
    obtain ⟨r, hr⟩ := hbox
    exact ⟨r, (h34.block b1 l1 (fun h => hnS (hTS _ h))).trans hr⟩
  · refine Box3.set ?_ (by show g ≠ _; omega)
    obtain ⟨r, hr⟩ := hres
    exact ⟨r, (h34.block _ l2 (fun h => by have := hTl _ h; omega)).trans hr⟩
  · exact (hb.trans (h34.below _ hb.size (fun j hj => by have := hTl _ hj; omega))).setCell (by show _ ≤ g; omega) _
set_option maxHeartbeats 8000000 in
theorem wired_cyc (k b0 : Nat) (hk0 : 1 ≤ k) (hk : k ≤ 40) (w : World) (hc : w.cell? ⟨b0, 0, none⟩ = some (.int .i64 k)) (hok : netOk (cycNet k) = true) :
    Calls Try.prog 59 #[.int .i64 k, .int .i64 2, .func (.func 60) #[] #[.pointer (some ⟨b0, 0, none⟩)]] w (NewNetT w (cycNet k)) := by
  have hcl := World.block_lt_of_cell? w _ hc
  simp only at hcl
  have Hc := Lib.hid hc
  clear hc
  go_enter Try.func59, Try.ntmps59
  go_wp2_with fail
  refine (emptyNetwork_ok k hk0 hk _).mono ?_
  rintro e w1 ⟨ve, vi, vn, S, rfl, ho, hb⟩
  have hres := ((Box3.new w (.slice none 0 0) (.slice none 0 0) (.slice none 0 0) 39).below hb (by simp))
  have hsz : w.heap.size + 1 ≤ w1.heap.size := by have := hb.size; simpa using this
  have hr := ho.read
  obtain ⟨⟨A1, c1, hve, _, hm1, _⟩, ⟨A2, c2, hvi, _, hm2, _⟩, ⟨A3, c3, hvn, _, hm3, _⟩⟩ := hr
  obtain ⟨g, rfl⟩ : ∃ g, A1 = some ⟨g, 0, none⟩ := by
    obtain ⟨S1, S2, S3, ⟨vs, Ss, h1, _⟩, _⟩ := ho
    rcases ownsRow_cases h1 with ⟨rfl, h0⟩ | ⟨g, c, rfl, _⟩
    · simp [emptyNet] at h0; omega
    · cases hve; exact ⟨g, rfl⟩
  subst hve hvi hvn
  simp only [emptyNet, List.length_replicate, List.length_nil] at ho ⊢
  unfold maxLen at hm1
  have hb0 : Below w1.heap.size w1 (w1.alloc (.cells #[.slice (some ⟨g, 0, none⟩) k c1, .slice A2 0 c2, .slice A3 k c3] 39)) := below_alloc _ _
  have Ho := Lib.hid (ho.keep hb0)
  have Hbw := Lib.hid (((below_alloc w _).trans (hb.mono (by simp))).trans (hb0.mono (by omega)))
  have hfr : Hid (∀ j ∈ S, j < w1.heap.size) := fun j hj => (ho.range j hj).2
  have Hres := Lib.hid (hres.alloc (.cells #[.slice (some ⟨g, 0, none⟩) k c1, .slice A2 0 c2, .slice A3 k c3] 39))
  have Hok := Lib.hid hok
  clear ho hb hb0 hres hok
  go_wp2
  go_loopw [27] (fun i wr => ∃ v S, v ≤ k ∧ i = .int .i64 v ∧ OwnNet wr (w.heap.size + 1) (.slice (some ⟨g, 0, none⟩) k c1) (.slice A2 0 c2) (.slice A3 k c3) (cycTo k v) S ∧ w1.heap.size ∉ S ∧ Box3 wr w1.heap.size (.slice (some ⟨g, 0, none⟩) k c1) (.slice A2 0 c2) (.slice A3 k c3) ∧ Box3 wr w.heap.size (.slice none 0 0) (.slice none 0 0) (.slice none 0 0) ∧ Below w.heap.size w wr) (fun i _ => k - (intOf i).toNat)
  case atStart =>
    refine ⟨0, S, Nat.zero_le _, rfl, ?_, fun hj => by have := hfr.out _ hj; omega, Box3.new _ _ _ _ _, Hres.out, Hbw.out⟩
    have := Ho.out
    simpa [cycTo] using this
  case round =>
    obtain ⟨wo, rfl⟩ : ∃ wo : World, wo = wr := ⟨_, rfl⟩
    obtain ⟨v, S', hv, rfl, ho, hnS, hbox, hres, hbr⟩ := hrel
    by_cases hlt : v < k
    · have Ho2 := Lib.hid ho
      have Hx := Lib.hid hbox
      have Hr := Lib.hid hres
      have Hb := Lib.hid hbr
      have Hn := Lib.hid hnS
      clear ho hbox hres hbr hnS
      go_wp2
      go_loopw [31] (fun i wr => ∃ t S, t ≤ 2 ∧ i = .int .i64 (t : Nat) ∧ OwnNet wr (w.heap.size + 1) (.slice (some ⟨g, 0, none⟩) k c1) (.slice A2 0 c2) (.slice A3 k c3) (cycMid k v t) S ∧ w1.heap.size ∉ S ∧ Box3 wr w1.heap.size (.slice (some ⟨g, 0, none⟩) k c1) (.slice A2 0 c2) (.slice A3 k c3) ∧ Box3 wr w.heap.size (.slice none 0 0) (.slice none 0 0) (.slice none 0 0) ∧ Below w.heap.size w wr) (fun i _ => 2 - (intOf i).toNat)
      case atStart => exact ⟨0, S', Nat.zero_le _, rfl, (cycMid_zero hlt).symm ▸ Ho2.out, Hn.out, Hx.out, Hr.out, Hb.out⟩
      case round =>
        obtain ⟨t, S2, ht, rfl, ho, hnS, hbox, hres, hbr⟩ := hrel
        by_cases htl : t < 2
        · obtain ⟨hx0, _⟩ := hbox.cells
          have hx2 := hbox.lt
          obtain ⟨u, T, hu, hf, hR, hTS, hgT, hgS, hgrow⟩ := ho.growRow (cycMid_get t hlt)
          obtain ⟨⟨x, y⟩, hxy⟩ := getx (cycRow k v) t (by simp [cycRow]; omega)
          have hglt := (ho.range g hgS).2
          have hgb : g ≠ w1.heap.size := fun h => hnS (h ▸ hgS)
          have HC := Lib.hid ((hbr.cell (p := ⟨b0, 0, none⟩) hcl).trans Hc.out)
          obtain ⟨l0, hl0⟩ : ∃ l0, l0 = (cycRow k v).take t := ⟨_, rfl⟩
          rw [← hl0] at hR
          have Hl0 := Lib.hid hl0
          have HR : Hid (OwnE wr.drew (w.heap.size + 1) u l0 T) := lawE.stable hR (fun _ _ => rfl)
          have HnT : Hid (w1.heap.size ∉ T) := fun h => hnS (hTS _ h)
          have HB := Lib.hid hbr
          have HX := Lib.hid hbox
          have HRes := Lib.hid hres
          have HT := Lib.hid hTS
          have Hgr := Lib.hid hgrow
          have Hxy := Lib.hid hxy
          have HS := Lib.hid ho.range
          have HnS := Lib.hid hnS
          have HgT := Lib.hid hgT
          have HgS := Lib.hid hgS
          have hg1 := (ho.range g hgS).1
          have HTl : Hid (∀ j ∈ T, w.heap.size + 1 ≤ j) := fun j hj => (ho.range j (hTS j hj)).1
          have hRl : Hid (l0.length + 1 ≤ 1099511627776) := by
            have : l0.length ≤ 2 := by rw [hl0, List.length_take]; exact Nat.min_le_right _ _
            exact show _ ≤ _ by omega
          clear ho hnS hbox hres hbr hR hTS hgrow hgS hxy hgT hl0
          go_wp2
          have hv0 : (0 : Int) ≤ v := by omega
          have hv1 : (v : Int) < k := by omega
          have hszr : w.heap.size + 1 ≤ wr.heap.size := by omega
          go_region_law (first
              | (go_simp; go_at_call 60; refine (cycleEnd_any k v t b0 hk0 (by omega) hlt x y Hxy.out _ (by exact HC.out)).mono ?_; rintro e w3 ⟨rfl, hb3⟩; have k1 := bc hb3 hx0; have k2 := bc hb3 hu; have k3 := bf hb3 hu hf; have k4 := bc (below_alloc w3 (.cells #[.int .i64 x, .int .i64 y] 67)) k1; have k5 := bc (below_alloc w3 (.cells #[.int .i64 x, .int .i64 y] 67)) k2; have k6 := bf (below_alloc w3 (.cells #[.int .i64 x, .int .i64 y] 67)) k2 k3)
              | (refine step_app_end rfl _ _ rfl rfl (lawE.keep (lawE.keep HR.out hb3) (below_alloc _ _)) w3.heap.size (x, y) rfl (by simp) (by simp) hRl.out (by have := hb3.size; simp at this ⊢; omega) ?_; intro gg cc w4 ho4 hon4 hg4; have k7 := hon4.cell HnT.out k4; have k8 := hon4.cell HgT.out k5; have k9 := hon4.fz HgT.out k5 k6; have HF := Lib.hid (mid_step Hl0.out Hgr.out Hxy.out hb3 ho4 hon4 hg4 HnS.out HT.out HgS.out hg1 HTl.out HB.out HX.out HRes.out); clear ho4 hon4 hg4))
          all_goals (
            go_wp2
            go_roundw
            case rel => exact HF.out.elim fun S3 h => ⟨t + 1, S3, by omega, by simp, h⟩
            case measure => simp [intOf]; omega)
        · obtain rfl : t = 2 := by omega
          rw [cycMid_two hlt] at ho
          have Ho3 := Lib.hid ho
          have Hx3 := Lib.hid hbox
          have Hr3 := Lib.hid hres
          have Hb3 := Lib.hid hbr
          have Hn3 := Lib.hid hnS
          clear ho hbox hres hbr hnS
          go_wp2
          go_roundw
          case rel => exact ⟨v + 1, S2, by omega, by simp, Ho3.out, Hn3.out, Hx3.out, Hr3.out, Hb3.out⟩
          case measure => simp [intOf]; omega
    · obtain rfl : v = k := by omega
      rw [cycTo_all] at ho
      obtain ⟨hc0, hc1, hc2, _⟩ := hbox.cells
      have Ho3 := Lib.hid ho
      have Hr3 := Lib.hid hres
      have Hb3 := Lib.hid hbr
      clear ho hbox hres hbr hnS
      go_wp2_with fail
      refine (network_ok _ _ _ (cycNet v) _ Ho3.out.read (by simp [cycNet]) Hok.out).mono ?_
      rintro e w5 ⟨rfl, hb5⟩
      obtain ⟨hr0, hr1, hr2, hf0, hf1, hf2⟩ := (Hr3.out.below hb5 Hr3.out.lt).cells
      have hfin : Hid (∀ x y z, OwnNet (((w5.setCell ⟨w.heap.size, 0, none⟩ x).setCell ⟨w.heap.size, 1, none⟩ y).setCell ⟨w.heap.size, 2, none⟩ z) w.heap.size (.slice (some ⟨g, 0, none⟩) v c1) (.slice A2 0 c2) (.slice A3 v c3) (cycNet v) S' ∧ Below w.heap.size w (((w5.setCell ⟨w.heap.size, 0, none⟩ x).setCell ⟨w.heap.size, 1, none⟩ y).setCell ⟨w.heap.size, 2, none⟩ z)) := fun x y z => by
        have ho5 := Ho3.out.keep hb5
        refine ⟨(ho5.stable fun j hj => ?_).mono (by omega), (((Hb3.out.trans (hb5.mono Hb3.out.size)).setCell (Nat.le_refl _) _).setCell (Nat.le_refl _) _).setCell (Nat.le_refl _) _⟩
        have := (ho5.range j hj).1
        rw [Below.heap_setCell _ _ _ _ (by show j ≠ w.heap.size; omega), Below.heap_setCell _ _ _ _ (by show j ≠ w.heap.size; omega), Below.heap_setCell _ _ _ _ (by show j ≠ w.heap.size; omega)]
      clear hb5
      go_wp2
      refine bodyPost_ret (v := .tuple #[.agg #[.slice (some ⟨g, 0, none⟩) v c1, .slice A2 0 c2, .slice A3 v c3], .bool true]) (by simp [results, Try.results59, go_sem, *]) rfl ?_
      exact ⟨_, _, _, S', rfl, (hfin.out _ _ _).1, (hfin.out _ _ _).2⟩
end Go.Proofs.Ytdmadigjdlbhiaa
