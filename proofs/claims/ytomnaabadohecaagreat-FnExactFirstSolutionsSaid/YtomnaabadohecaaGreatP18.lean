/- Parts of the proof: walks of functions and plain laws. -/
import Derived.Test.YtomnaabadohecaaGreatP17
import Derived.Test.YtomnaabadohecaaGreatP13
import Derived.Test.YtomnaabadohecaaGreatP16
namespace Go.Proofs.YtomnaabadohecaaGreat
open Go.RowKit
/-! the first solutions: the function that takes a copy of each -/
theorem ss3_info : (Tryz.prog.info? 22).map (fun i => (i.zero, i.size, i.bytes)) = some (some (.slice none 0 0), 1, 24) := by kernel_rfl
theorem ownIII_nil (w : World) (base : Nat) : OwnIII w base (.slice none 0 0) [] [] := ⟨[], [], World.ownsRow_nil w base _ _, rfl, fun k u x T h => by simp at h, by simp [Value.ownBlock], by simp⟩
theorem app_rowIII {w : World} {ops : Array Oper} {rest : List Oper} {o : Oper} {a : Act} {Q : Exit → Act → World → Prop} (hgd : o.guard = none) (s x : Operand)
    (ho : o.op = .call { callee := .builtin .append, args := #[s, x], argTypes := #[85, 85] }) {base : Nat} {v u : Value} {xss : List (List (List Int))} {S T : List Nat} {xs : List (List Int)} (hs : a.eval s = v) (h : OwnIII w base v xss S)
    (b : Nat) (hx : a.eval x = .slice (some ⟨b, 0, none⟩) 1 1) (hc : w.cell? ⟨b, 0, none⟩ = some u) (hu : OwnII w base u xs T) (hd : ∀ j ∈ T, j ∉ S) (hl : xss.length + 1 ≤ 4000000) (hbs : base ≤ w.heap.size)
    (k : ∀ g cap w' S', OwnIII w' base (.slice (some ⟨g, 0, none⟩) (xss.length + 1) cap) (xss ++ [xs]) S' → w.grownBy w' v.ownBlock → Below base w w' → wpList Tryz.prog ops Q rest (a.put o.dst (.slice (some ⟨g, 0, none⟩) (xss.length + 1) cap)) w') : wpList Tryz.prog ops Q (o :: rest) a w := by
  obtain ⟨i0, hi, hz0, hz1, hz2⟩ := info_parts ss3_info
  have hvr := lawIII.range h
  have h1b := h
  obtain ⟨vs, Ss, r1, r2, r3, r4, r5⟩ := h
  obtain ⟨A, m, c, rfl⟩ := lawII.one hu
  refine wpList_append_lies w hgd s x 85 ho base 22 i0 _ 1 24 Tryz.underlying85 hi hz0 hz1 hz2 rfl (by decide) v xss.length vs hs r1 ⟨b, 0, none⟩ 1 1 [.slice A m c] hx rfl
    (by intro j u hj; match j, hj with | 0, hj => (simp at hj; subst hj; simpa [Addr.add] using hc) | j + 1, hj => simp at hj) (by simp [Value.oneCell']) (by omega) (by unfold maxLen; omega) (by omega) hbs w.heap.size rfl ?_
  intro g cap w' q1 q2 q3 q4
  obtain ⟨S', o1, -⟩ := OwnRows.snoc lawII h1b hu hd vs Ss r1 r2 r3 r4 r5 q1 q2 q3
  exact k g cap w' S' o1 q2 (Below.grown (Below.refl base w |>.mono (Nat.le_refl _)) q2 hbs (fun q hq => (hvr q (by rw [r4, hq]; simp)).1))
theorem BoxA.only {w w' : World} {b : Nat} {vs : Array Value} {S : List Nat} (h : BoxA w b vs) (ho : Only S w w') (hb : b ∉ S) : BoxA w' b vs := by
  obtain ⟨r, hr⟩ := h
  exact ⟨r, (ho.block b (Array.getElem?_eq_some_iff.1 hr).1 hb).trans hr⟩
theorem BoxA.eqv {w w' : World} {b : Nat} {vs : Array Value} (h : BoxA w b vs) (ho : w'.heap[b]? = w.heap[b]?) : BoxA w' b vs := by
  obtain ⟨r, hr⟩ := h
  exact ⟨r, ho.trans hr⟩
theorem SolM.stable {w w' : World} {sb : Nat} {vs : Array Value} {l : List (List Int)} {ports : List (Int × Int)} {ul uf : Value} {SL : List Nat} {B : Nat} (h : SolM w sb vs l ports ul uf SL B)
    (hs : ∀ k, (k = sb ∨ k ∈ SL ∨ uf.ownBlock = some k) → w'.heap[k]? = w.heap[k]?) : SolM w' sb vs l ports ul uf SL B := by
  obtain ⟨h1, h2, h3, T, h4⟩ := h
  refine ⟨h1.eqv (hs sb (.inl rfl)), lawII.stable h2 fun k hk => hs k (.inr (.inl hk)), h3, T, lawE.stable h4 fun k hk => hs k (.inr (.inr ?_))⟩
  have h5 := h4.2
  rw [h5] at hk
  simpa using hk
theorem SolM.uf {w : World} {sb : Nat} {vs : Array Value} {l : List (List Int)} {ports : List (Int × Int)} {ul uf : Value} {SL : List Nat} {B : Nat} (h : SolM w sb vs l ports ul uf SL B) : ∀ j, uf.ownBlock = some j → sb + 1 ≤ j ∧ j < w.heap.size := by
  obtain ⟨h1, h2, h3, T, h4⟩ := h
  intro j hj
  exact lawE.range h4 j (by rw [h4.2, hj]; simp)
def fsNx (k : Int) (s : List (List (List Int))) (l : List (List Int)) : Bool × List (List (List Int)) := (decide (((s.length + 1 : Nat) : Int) < k), s ++ [l])
theorem fsC_enters : ∀ args w, (callFunc 109 args).run Tryz.prog w = .ok (.enter 109 args) w := enters_of Tryz.func109 (by kernel_rfl) rfl
set_option maxRecDepth 100000 in
set_option maxHeartbeats 8000000 in
theorem fsC_any (bo bs bk sb B1 : Nat) (k : Int) (u ul : Value) (s : List (List (List Int))) (S : List Nat) (l : List (List Int)) (w : World)
    (h1 : BoxA w bo #[u]) (h2 : OwnIII w B1 u s S) (h3 : BoxA w bs #[.pointer (some ⟨sb, 0, none⟩)]) (h4 : BoxA w bk #[.int .i64 k]) (hl : IntSS w ul l) (hc : w.cell? ⟨sb, 7, none⟩ = some ul)
    (hbo : bo < B1) (n1 : bo ≠ bs) (n2 : bo ≠ bk) (hbs : bs < B1) (hbk : bk < B1) (hsz : s.length + 1 ≤ 4000000) (hl1 : l.length ≤ 1048576) (hr : ∀ (v : Nat) (row : List Int), l[v]? = some row → row.length ≤ 17592186044416) (hB1 : B1 ≤ w.heap.size) :
    Calls Tryz.prog 109 #[.pointer (some ⟨bo, 0, none⟩), .pointer (some ⟨bs, 0, none⟩), .pointer (some ⟨bk, 0, none⟩)] w fun e w' =>
      e = .returned (.bool (fsNx k s l).1) ∧ (∃ u' S', BoxA w' bo #[u'] ∧ OwnIII w' B1 u' (s ++ [l]) S') ∧ (∀ j, j < B1 → j ≠ bo → w'.heap[j]? = w.heap[j]?) ∧ Below bo w w' := by
  have hno : ∀ j, u.ownBlock = some j → B1 ≤ j := fun j hj => by
    obtain ⟨vs, Ss, r1, r2, r3, r4, r5⟩ := id h2
    exact (lawIII.range h2 j (by rw [r4, hj]; simp)).1
  obtain ⟨AO, mO, cO, rfl⟩ := lawIII.one h2
  obtain ⟨vs0, Ss0, e0, -⟩ := id h2
  have hmO : mO = s.length := by
    rcases e0.2 with ⟨hv, hz⟩ | ⟨g, cap, cur, hv, -⟩
    · simp only [Value.slice.injEq] at hv; omega
    · simp only [Value.slice.injEq] at hv; omega
  subst hmO
  have HL := Lib.hid (show ∀ X, Since w X → IntSS X ul l from fun X hX => hl.keep hX.below)
  obtain ⟨AL, cL, rfl, hlc, hmc, -⟩ := hl
  unfold maxLen at hmc
  have q1 := have_cell (h1.cell 0 _ rfl).1
  have q3 := have_cell (h3.cell 0 _ rfl).1
  have q7 := have_cell hc
  have H1 := Lib.hid h1
  have H2 := Lib.hid h2
  have H3 := Lib.hid h3
  have H4 := Lib.hid h4
  have Hr := Lib.hid hr
  have Hno := Lib.hid hno
  clear h1 h2 h3 h4 hr hno hc e0 vs0 Ss0
  go_enter Tryz.func109, Tryz.ntmps109
  go_upto_region 1 with (fail)
  refine wp_region_chain (w0 := w) 7 [false, false, false, false, false, true, true] (by kernel_rfl) (by kernel_rfl) (since_refl _) ?_
  simp only [selF, selT, List.take_succ_cons, List.take_zero, List.drop_succ_cons, List.drop_zero]
  refine pflow_val (v := ?_) rfl ?_ ?_; rotate_left; (intro W hW; go_simp; with_reducible rfl)
  simp only [Act.put, List.setIfInBounds_toArray, List.set_cons_succ, List.set_cons_zero]
  refine pflow_val (v := ?_) rfl ?_ ?_; rotate_left; (intro W hW; go_simp; with_reducible rfl)
  simp only [Act.put, List.setIfInBounds_toArray, List.set_cons_succ, List.set_cons_zero]
  refine pflow_val (v := ?_) rfl ?_ ?_; rotate_left; (intro W hW; go_simp; with_reducible rfl)
  simp only [Act.put, List.setIfInBounds_toArray, List.set_cons_succ, List.set_cons_zero]
  refine pflow_val (v := ?_) rfl ?_ ?_; rotate_left; (intro W hW; go_simp; with_reducible rfl)
  simp only [Act.put, List.setIfInBounds_toArray, List.set_cons_succ, List.set_cons_zero]
  refine pflow_val (v := ?_) rfl ?_ ?_; rotate_left; (intro W hW; go_simp; with_reducible rfl)
  simp only [Act.put, List.setIfInBounds_toArray, List.set_cons_succ, List.set_cons_zero]
  intro W hW
  refine Or.inl ⟨rfl, ?_⟩
  go_simp
  (with_reducible refine (copyListsB_any _ l W w.heap.size hW.below.size (HL.out _ hW) hl1 Hr.out).mono ?_)
  rintro e W' ⟨u2, T2, rfl, ho2, hb2⟩
  refine ⟨_, rfl, hW.trans hb2, ?_⟩
  replace hW := hW.trans hb2
  obtain ⟨A2, m2, c2, rfl⟩ := lawII.one ho2
  have Ho2 := Lib.hid ho2
  clear ho2 hb2
  (try simp only [Act.put, List.setIfInBounds_toArray, List.set_cons_succ, List.set_cons_zero])
  refine tflow_alloc (v := ?_) (ob := ?_) rfl ?_ hW ?_; rotate_left 2
  (go_simp; first | with_reducible rfl | (refine ⟨?_, ?_⟩ <;> with_reducible rfl))
  intro WA hWAd hWAs
  replace hW := hWAs
  clear hWAs
  skip
  (try simp only [Act.put, List.setIfInBounds_toArray, List.set_cons_succ, List.set_cons_zero])
  simp only [TFlow]
  clear q1 q3 q7
  have hsA : Since w WA := hW
  have HsA := Lib.hid hsA
  have HoO := Lib.hid (lawIII.keep H2.out hsA.below)
  have Ho3 : Hid (OwnII WA B1 (.slice A2 m2 c2) l T2) := by rw [hWAd]; exact lawII.mono (lawII.keep Ho2.out (below_alloc _ _)) hB1
  have HD := Lib.hid (show ∀ j ∈ T2, j ∉ S from fun j hj hS => by have h1 := (lawII.range Ho2.out j hj).1; have := (lawIII.range H2.out j hS).2; omega)
  have hcA : WA.cell? ⟨W'.heap.size, 0, none⟩ = some (.slice A2 m2 c2) := by rw [hWAd]; simp
  have HcA := Lib.hid hcA
  have HBA : Hid (B1 ≤ WA.heap.size) := Nat.le_trans hB1 hsA.below.size
  have HA1 := Lib.hid (show BoxA WA bo _ from H1.out.below hsA H1.out.lt)
  have HA4 := Lib.hid (show BoxA WA bk _ from H4.out.below hsA H4.out.lt)
  have n3 : bk ≠ bo := fun e => n2 e.symm
  clear hW hsA hWAd hcA
  go_wp2_with (at_builtin; refine app_rowIII rfl _ _ rfl rfl HoO.out W'.heap.size rfl HcA.out Ho3.out HD.out hsz HBA.out ?_; intro g cc w3 S3 ho3 hg3 hb3; have Hg3 := Lib.hid hg3; have Hb3 := Lib.hid hb3; have Hw3 := Lib.hid ho3; have HB3 := Lib.hid (HA1.out.grown hg3 (fun e => by have := Hno.out bo e.symm; omega)); have z1 := (HB3.out.cell 0 _ rfl).1; have z2 := (HB3.out.cell 0 _ rfl).2; have z4 := ((HA4.out.grown hg3 (fun e => by have := Hno.out bk e.symm; omega)).cell 0 _ rfl).1; clear ho3 hg3 hb3)
  go_ret
  refine ⟨?_, ⟨_, S3, HB3.out.put 0 _, ?_⟩, ?_, ?_⟩
  · unfold fsNx
    first | rfl | (refine ret_bool ?_; simp)
  · exact RowLaw.put lawIII Hw3.out (by show bo < B1; exact hbo) _
  · intro j hj hne
    rw [Below.heap_setCell _ _ _ j (by exact hne)]
    have h5 : j < WA.heap.size := by have := HBA.out; omega
    rw [Hg3.out.block j h5 (fun e => by have := Hno.out j e.symm; omega)]
    exact HsA.out.below.block j (by omega)
  · refine Below.setCell (Below.trans (HsA.out.below.mono (by omega)) (Hb3.out.mono (by omega))) (Nat.le_refl bo) _
end Go.Proofs.YtomnaabadohecaaGreat
namespace Go.Proofs.YtomnaabadohecaaGreat
open Go.RowKit
/-! the first solutions: the program -/
theorem box3 (w : World) (x y : Obj) (vs : Array Value) (t : TypeId) : BoxA (((w.alloc x).alloc y).alloc (.cells vs t)) (w.heap.size + 1 + 1) vs := by
  have h := BoxA.new ((w.alloc x).alloc y) vs t
  rw [show ((w.alloc x).alloc y).heap.size = w.heap.size + 1 + 1 by simp] at h
  exact h
theorem ownsRow_ty {w : World} {base : Nat} {e : TypeId} {size : Nat} {v : Value} {n : Nat} {xs : List Value} (h : w.ownsRow base e size v n xs) {j : Nat} (hj : v.ownBlock = some j) : ∃ cur, w.heap[j]? = some (.cells cur e (0, 0)) := by
  rcases h.2 with ⟨rfl, -⟩ | ⟨g, cap, cur, rfl, -, hg, -⟩
  · simp [Value.ownBlock] at hj
  · have : g = j := by simpa [Value.ownBlock] using hj
    subst this
    exact ⟨_, hg⟩
theorem ownII_ty {w : World} {base : Nat} {v : Value} {l : List (List Int)} {S : List Nat} (h : OwnII w base v l S) {j : Nat} (hj : j ∈ S) : ∃ cur e, (e = 24 ∨ e = 3) ∧ w.heap[j]? = some (.cells cur e (0, 0)) := by
  obtain ⟨vs, Ss, r1, r2, r3, r4, r5⟩ := h
  rw [r4, List.mem_append] at hj
  rcases hj with hj | hj
  · obtain ⟨cur, hc⟩ := ownsRow_ty r1 (j := j) (by simpa using hj)
    exact ⟨cur, _, .inl rfl, hc⟩
  · obtain ⟨T, hT, hjT⟩ := List.mem_flatten.1 hj
    obtain ⟨k, hk⟩ := List.mem_iff_getElem?.1 hT
    have hkl := lt_of_get hk
    have hvl : vs.length = l.length := by simpa using r1.1
    obtain ⟨u, hu⟩ := getx vs k (by omega)
    obtain ⟨x, hx⟩ := getx l k (by omega)
    obtain ⟨hO, hS⟩ := r3 k u x T hu hx hk
    rw [hS] at hjT
    obtain ⟨cur, hc⟩ := ownsRow_ty hO (j := j) (by simpa using hjT)
    exact ⟨cur, _, .inr rfl, hc⟩
theorem SolM.ufTy {w : World} {sb : Nat} {vs : Array Value} {l : List (List Int)} {ports : List (Int × Int)} {ul uf : Value} {SL : List Nat} {B : Nat} (h : SolM w sb vs l ports ul uf SL B) {j : Nat} (hj : uf.ownBlock = some j) : ∃ cur, w.heap[j]? = some (.cells cur 114 (0, 0)) := by
  obtain ⟨h1, h2, h3, T, h4⟩ := h
  exact ownsRow_ty h4.1 hj
/-- a new box for a pointer -/
def NilP (w0 W : World) (u : Value) : Prop := ∃ b, u = .pointer (some ⟨b, 0, none⟩) ∧ W.heap[b]? = some (.cells #[.pointer none] 134 (0, 0)) ∧ w0.heap.size ≤ b
theorem NilP.keep {w0 W W' : World} {u : Value} (h : NilP w0 W u) (hs : Since W W') : NilP w0 W' u := by
  obtain ⟨b, rfl, h1, h2⟩ := h
  exact ⟨b, rfl, by rw [hs.below.block b (Array.getElem?_eq_some_iff.1 h1).1]; exact h1, h2⟩
theorem NilP.new {w0 W : World} (h : w0.heap.size ≤ W.heap.size) : NilP w0 (W.alloc (.cells #[.pointer none] 134)) (.pointer (some ⟨W.heap.size, 0, none⟩)) := ⟨_, rfl, heap_alloc_new W _, h⟩
theorem fsRun_any (p : Prob) (n : Net) (F : List (List Int)) (PT : List (Int × Int)) (k : Int) (sb : Nat) (pa pb va vb vc ul uf : Value) (SL : List Nat) (bo bs bk B0 : Nat) (w0 W : World) (R : List (List (List Int)) × SoR) (h0 : Since w0 W)
    (hPp : ∀ X, Since w0 X → PrIn X pa pb p) (hNn : ∀ X, Since w0 X → NetIn X va vb vc n) (hS : SolM W sb (arrI p pa pb va vb vc ul uf 0) F PT ul uf SL B0) (hb0 : bk < w0.heap.size) (hb1 : w0.heap.size ≤ bo) (hb2 : bo < B0) (hb3 : B0 ≤ sb)
    (hbs : bs ∉ sb :: SL) (hbn : bs ≠ bo) (hbu : ∀ j, uf.ownBlock = some j → j ≠ bo) (hO : BoxA W bo #[.slice none 0 0]) (hP : BoxA W bs #[.pointer (some ⟨sb, 0, none⟩)]) (hK : BoxA W bk #[.int .i64 k]) (hk : 1 ≤ k ∧ k ≤ 50)
    (hn : netOk n = true) (hst : Strict p.edges) (hel : p.edges.length ≤ 1048576) (hlab : 1 ≤ p.labels ∧ p.labels ≤ 8) (hsh : Shape n.ends F) (hin : InR (p.labels - 1) F) (hpo : PortsIn n.ends PT) (hpl : PT.length ≤ 1000)
    (hr6 : ∀ (v : Nat) (es : List (Int × Int)), n.ends[v]? = some es → es.length ≤ 6) (hR : soR (fsNx k) p n.ends PT 200000 [] F = R) :
    Calls Tryz.prog 102 #[.pointer (some ⟨sb, 0, none⟩), .int .i64 200000, .func (.func 109) #[] #[.pointer (some ⟨bo, 0, none⟩), .pointer (some ⟨bs, 0, none⟩), .pointer (some ⟨bk, 0, none⟩)]] W fun e w' =>
      e = .returned (.int .i64 R.2.1) ∧ (∃ u S, BoxA w' bo #[u] ∧ OwnIII w' W.heap.size u R.1 S) ∧ Below w0.heap.size W w' := by
  have hbo : bo < W.heap.size := hO.lt
  have hbsW : bs < W.heap.size := hP.lt
  have hsbW : sb < W.heap.size := hS.1.lt
  have hSr := fun j hj => (lawII.range hS.2.1 j hj).1
  have hSL := hS.2.2.1
  have huf := hS.uf
  have hbkW : bk < W.heap.size := hK.lt
  have key := run_inv (fun s => (s.length : Int) < k) (fsNx k) (fun s X => W.heap.size ≤ X.heap.size ∧ ∃ u S, BoxA X bo #[u] ∧ OwnIII X W.heap.size u s S ∧ BoxA X bs #[.pointer (some ⟨sb, 0, none⟩)] ∧ BoxA X bk #[.int .i64 k]) 109 #[.pointer (some ⟨bo, 0, none⟩), .pointer (some ⟨bs, 0, none⟩), .pointer (some ⟨bk, 0, none⟩)] p n pa pb va vb vc ul uf sb SL w0.heap.size PT 200000 [] F W fsC_enters (by omega)
    (fun X hX => hPp X (Below.trans h0 hX)) (fun X hX => hNn X (Below.trans h0 hX))
    (fun s W1 W2 hJ ho => by
      obtain ⟨hz, u, S, j1, j2, j3, j4⟩ := hJ
      have hno : ∀ b, (b = bo ∨ b = bs ∨ b = bk) → b ∉ sb :: SL := fun b hb hm => by
        rcases List.mem_cons.1 hm with h | h
        · rcases hb with rfl | rfl | rfl
          · omega
          · exact hbs (by rw [h]; exact List.mem_cons_self)
          · omega
        · have h6 := hSr b h
          have h7 := hSL b h
          rcases hb with rfl | rfl | rfl
          · omega
          · exact hbs (List.mem_cons_of_mem _ h)
          · omega
      refine ⟨Nat.le_trans hz ho.size, u, S, j1.only ho (hno bo (.inl rfl)), lawIII.only j2 ho (fun j hj hm => ?_), j3.only ho (hno bs (.inr (.inl rfl))), j4.only ho (hno bk (.inr (.inr rfl)))⟩
      have h8 := (lawIII.range j2 j hj).1
      rcases List.mem_cons.1 hm with h | h
      · omega
      · have := hSL j h; omega)
    (fun s l st W1 hb hS1 hJ hI hshl => by
      obtain ⟨hz, u, S, j1, j2, j3, j4⟩ := hJ
      obtain ⟨hl40, hl6⟩ := shape_r6 hn hshl
      have hlen : (s.length : Int) < k := hI
      refine (fsC_any bo bs bk sb W.heap.size k u ul s S l W1 j1 j2 j3 j4 hS1.rows (arrI_cells hS1.1).2.2.2.2.2.2.2.1 hbo (by omega) (by omega) hbsW hbkW (by omega) (by omega) (fun v row hv => Nat.le_trans (hl6 v row hv) (by omega)) hz).mono ?_
      rintro e W2 ⟨he, ⟨u', S', k1, k2⟩, k3, k4⟩
      refine ⟨he, ⟨Nat.le_trans hz k4.size, u', S', k1, k2, j3.eqv (k3 bs hbsW (by omega)), j4.eqv (k3 bk hbkW (by omega))⟩, hS1.stable (fun j hj => ?_), k4.mono hb1⟩
      rcases hj with rfl | hj | hj
      · exact k3 _ hsbW (by omega)
      · have h6 := hSr j hj
        have h7 := hSL j hj
        exact k3 j (by omega) (by omega)
      · exact k3 j (huf j hj).2 (hbu j hj))
    (hS.mono (by omega)) ⟨Nat.le_refl _, _, _, hO, ownIII_nil W W.heap.size, hP, hK⟩ (by show ((0 : Nat) : Int) < k; omega) (fun s l _ h => by
      have h9 : decide (((s.length + 1 : Nat) : Int) < k) = true := h
      show (((s ++ [l]).length : Nat) : Int) < k
      rw [List.length_append]
      exact of_decide_eq_true h9) hn hst hel hlab hsh hin hpo hpl ⟨by omega, by omega⟩ hr6
  rw [hR] at key
  exact key.mono fun e W2 ⟨h1, _, ⟨_, u, S, h3, h4, _, _⟩, h5⟩ => ⟨h1, ⟨u, S, h3, h4⟩, h5⟩
def fsOk (p : Prob) (n : Net) (k : Int) : Bool := prOk p && netOk n && inB 1 50 k
def fsR (p : Prob) (n : Net) (k : Int) : List (List (List Int)) × SoR := soR (fsNx k) p n.ends (freeP (freeL n)) 200000 [] (freeL n)
def fnExactFirstSolutions_r0 (p : Prob) (n : Net) (k : Int) : List (List (List Int)) := if fsOk p n k = true then (if (fsR p n k).2.1 = 3 then [] else (fsR p n k).1) else []
def fnExactFirstSolutions_r1 (p : Prob) (n : Net) (k : Int) : Bool := fsOk p n k && !decide ((fsR p n k).2.1 = 3)
theorem fs_yes {p : Prob} {n : Net} {k : Int} {R : List (List (List Int)) × SoR} (hok : fsOk p n k = true) (hR : fsR p n k = R) : fnExactFirstSolutions_r0 p n k = (if R.2.1 = 3 then [] else R.1) ∧ fnExactFirstSolutions_r1 p n k = !decide (R.2.1 = 3) := by
  unfold fnExactFirstSolutions_r0 fnExactFirstSolutions_r1
  rw [hR]
  simp [hok]
theorem fs_no {p : Prob} {n : Net} {k : Int} (hok : fsOk p n k = false) : fnExactFirstSolutions_r0 p n k = [] ∧ fnExactFirstSolutions_r1 p n k = false := by
  unfold fnExactFirstSolutions_r0 fnExactFirstSolutions_r1
  simp [hok]
set_option maxRecDepth 100000 in
set_option maxHeartbeats 16000000 in
theorem fnExactFirstSolutions_impl (pa pb ve vi vn : Value) (p : Prob) (n : Net) (k : Int) (w : World) (hp : PrIn w pa pb p) (h : NetIn w ve vi vn n) (_ : -9223372036854775808 ≤ k ∧ k ≤ 9223372036854775807) (hpz : szPr p ≤ 1048576) (hsz : szNet n ≤ 1048576) :
    Calls Tryz.prog 52 #[.agg #[.int .i64 p.labels, .int .i64 p.degree, pa, pb], .agg #[ve, vi, vn], .int .i64 k] w fun e w' => ∃ u S, e = .returned (.tuple #[u, .bool (fnExactFirstSolutions_r1 p n k)]) ∧ OwnIII w' w.heap.size u (fnExactFirstSolutions_r0 p n k) S ∧ Below w.heap.size w w' := by
  have hel : p.edges.length ≤ 1048576 := by unfold szPr szII at hpz; omega
  have Hnl := Lib.hid (szNet_ids hsz)
  obtain ⟨w0, hw0⟩ : ∃ w0, w0 = (((w).alloc (.cells #[.int .i64 p.labels, .int .i64 p.degree, pa, pb] 74)).alloc (.cells #[ve, vi, vn] 43)).alloc (.cells #[.int .i64 k] 3) := ⟨_, rfl⟩
  have hb0 : Below w.heap.size w w0 := by rw [hw0]; exact ((((Below.refl _ _).alloc (by simp <;> omega) _).alloc (by simp <;> omega) _).alloc (by simp <;> omega) _)
  have H := Lib.hid (h.keep hb0)
  obtain ⟨h1, h2, h3⟩ := h.keep hb0
  obtain ⟨A, c, rfl, hlc, hm, hA⟩ := h1
  obtain ⟨A2, c2, rfl, _, hm2, _⟩ := h2
  obtain ⟨A3, c3, rfl, _, hm3, _⟩ := h3
  unfold maxLen at hm hm2 hm3
  have hkP := hp.keep hb0
  have HP := Lib.hid hkP
  obtain ⟨P0, pz0, rfl, hlP0, hmP0, hPe0⟩ := id hkP.1
  unfold maxLen at hmP0
  have HPe0 := Lib.hid hPe0
  clear hPe0
  obtain ⟨P1, pz1, rfl, hlP1, hmP1, hPe1⟩ := id hkP.2
  unfold maxLen at hmP1
  have HPe1 := Lib.hid hPe1
  clear hPe1
  clear hkP hp
  have p00 : ∀ W, Since w0 W → W.cell? ⟨w.heap.size, 0, none⟩ = some (.int .i64 p.labels) := have_cell (by rw [hw0]; simp [go_sem])
  have p01 : ∀ W, Since w0 W → W.cell? ⟨w.heap.size, 1, none⟩ = some (.int .i64 p.degree) := have_cell (by rw [hw0]; simp [go_sem])
  have p02 : ∀ W, Since w0 W → W.cell? ⟨w.heap.size, 2, none⟩ = some (.slice P0 p.nodes.length pz0) := have_cell (by rw [hw0]; simp [go_sem])
  have p03 : ∀ W, Since w0 W → W.cell? ⟨w.heap.size, 3, none⟩ = some (.slice P1 p.edges.length pz1) := have_cell (by rw [hw0]; simp [go_sem])
  have p10 : ∀ W, Since w0 W → W.cell? ⟨w.heap.size + 1, 0, none⟩ = some (.slice A n.ends.length c) := have_cell (by rw [hw0]; simp [go_sem])
  have p11 : ∀ W, Since w0 W → W.cell? ⟨w.heap.size + 1, 1, none⟩ = some (.slice A2 n.ids.length c2) := have_cell (by rw [hw0]; simp [go_sem])
  have p12 : ∀ W, Since w0 W → W.cell? ⟨w.heap.size + 1, 2, none⟩ = some (.slice A3 n.inputs.length c3) := have_cell (by rw [hw0]; simp [go_sem])
  have p20 : ∀ W, Since w0 W → W.cell? ⟨w.heap.size + 1 + 1, 0, none⟩ = some (.int .i64 k) := have_cell (by rw [hw0]; simp [go_sem])
  have Hb0 := Lib.hid hb0
  have Hw0 := Lib.hid hw0
  have HA := Lib.hid hA
  clear hA h
  clear hb0 hw0
  have hK0 : BoxA w0 (w.heap.size + 1 + 1) #[.int .i64 k] := by rw [Hw0.out]; exact box3 _ _ _ _ _
  have HK0 := Lib.hid hK0
  have HPp := Lib.hid (show ∀ X, Since w0 X → PrIn X (.slice P0 p.nodes.length pz0) (.slice P1 p.edges.length pz1) p from fun X hX => HP.out.keep hX)
  have HNn := Lib.hid (show ∀ X, Since w0 X → NetIn X (.slice A n.ends.length c) (.slice A2 n.ids.length c2) (.slice A3 n.inputs.length c3) n from fun X hX => H.out.keep hX.below)
  clear hsz hpz hK0
  go_enter Tryz.func52, Tryz.ntmps52
  go_upto_region 1 with (fail)
  rw [← Hw0.out]
  refine wp_region_flow0 13 (Since w0) (since_refl _) ?_
  simp only [List.take_succ_cons, List.take_zero, List.drop_succ_cons, List.drop_zero]
  refine flow_val (v := ?_) rfl ?_ ?_; rotate_left; (intro W hW; go_simp; with_reducible rfl)
  simp only [Act.put, List.setIfInBounds_toArray, List.set_cons_succ, List.set_cons_zero]
  refine flow_op ?_ rfl ?_ ?_; rotate_left; (intro W hW; unfold Gives; go_simp; (with_reducible refine (isProblem_any _ _ p W (HPp.out W hW)).mono ?_); rintro e W' ⟨rfl, hb3⟩; first | (refine ⟨?_, Since.trans hW hb3⟩; with_reducible rfl) | (subst hb3; refine ⟨?_, hW⟩; with_reducible rfl))
  simp only [Act.put, List.setIfInBounds_toArray, List.set_cons_succ, List.set_cons_zero]
  refine flow_val (v := ?_) rfl ?_ ?_; rotate_left; (intro W hW; go_simp; with_reducible rfl)
  simp only [Act.put, List.setIfInBounds_toArray, List.set_cons_succ, List.set_cons_zero]
  refine flow_val (v := ?_) rfl ?_ ?_; rotate_left; (intro W hW; go_simp; with_reducible rfl)
  simp only [Act.put, List.setIfInBounds_toArray, List.set_cons_succ, List.set_cons_zero]
  refine flow_gval (v := ?_) rfl rfl ?_ ?_; rotate_left; (intro hb; intro W hW; go_simp; with_reducible rfl)
  simp only [Act.put, List.setIfInBounds_toArray, List.set_cons_succ, List.set_cons_zero]
  refine flow_gop (v := ?_) rfl rfl ?_ ?_; rotate_left; (intro hb; intro W hW; unfold Gives; go_simp; (with_reducible refine (isNetwork_any _ _ _ n W (HNn.out W hW) Hnl.out).mono ?_); rintro e W' ⟨rfl, hb3⟩; first | (refine ⟨?_, Since.trans hW hb3⟩; with_reducible rfl) | (subst hb3; refine ⟨?_, hW⟩; with_reducible rfl))
  simp only [Act.put, List.setIfInBounds_toArray, List.set_cons_succ, List.set_cons_zero]
  refine flow_gval (v := ?_) rfl rfl ?_ ?_; rotate_left; (intro hb; intro W hW; go_simp; with_reducible rfl)
  simp only [Act.put, List.setIfInBounds_toArray, List.set_cons_succ, List.set_cons_zero]
  first | refine flow_or rfl rfl ?_ | (refine flow_val (v := ?_) rfl ?_ ?_; rotate_left; (intro W hW; go_simp; with_reducible rfl))
  simp only [Act.put, List.setIfInBounds_toArray, List.set_cons_succ, List.set_cons_zero]
  refine flow_val (v := ?_) rfl ?_ ?_; rotate_left; (intro W hW; go_simp; with_reducible rfl)
  simp only [Act.put, List.setIfInBounds_toArray, List.set_cons_succ, List.set_cons_zero]
  refine flow_gval (v := ?_) rfl rfl ?_ ?_; rotate_left; (intro hb; intro W hW; go_simp; with_reducible rfl)
  simp only [Act.put, List.setIfInBounds_toArray, List.set_cons_succ, List.set_cons_zero]
  refine flow_gop (v := ?_) rfl rfl ?_ ?_; rotate_left; (intro hb; intro W hW; unfold Gives; go_simp; (with_reducible refine (within_p _ _ _ W).mono ?_); rintro e W' ⟨rfl, hb3⟩; first | (refine ⟨?_, Since.trans hW hb3⟩; with_reducible rfl) | (subst hb3; refine ⟨?_, hW⟩; with_reducible rfl))
  simp only [Act.put, List.setIfInBounds_toArray, List.set_cons_succ, List.set_cons_zero]
  refine flow_gval (v := ?_) rfl rfl ?_ ?_; rotate_left; (intro hb; intro W hW; go_simp; with_reducible rfl)
  simp only [Act.put, List.setIfInBounds_toArray, List.set_cons_succ, List.set_cons_zero]
  first | refine flow_or rfl rfl ?_ | (refine flow_val (v := ?_) rfl ?_ ?_; rotate_left; (intro W hW; go_simp; with_reducible rfl))
  simp only [Act.put, List.setIfInBounds_toArray, List.set_cons_succ, List.set_cons_zero]
  intro W hW
  cases hg : (!prOk p || !netOk n || !inB 1 50 k)
  · have hok : fsOk p n k = true := by unfold fsOk; revert hg; cases prOk p <;> cases netOk n <;> cases inB 1 50 k <;> simp
    simp only [Bool.or_eq_false_iff, Bool.not_eq_false'] at hg
    obtain ⟨⟨hp1, hn⟩, hm⟩ := hg
    obtain ⟨hlab, hst⟩ := prOk_facts hp1
    obtain ⟨hn40, hn6⟩ := netOk_r6 hn
    obtain ⟨hf40, hf6⟩ := free_r6 hn
    have Hk := Lib.hid (inB_iff.1 hm)
    have Hf6 := Lib.hid hf6
    have Hn6 := Lib.hid hn6
    have Hst := Lib.hid hst
    have Hpl := Lib.hid (freeP_len hf40 hf6)
    have Hpo := Lib.hid (freeP_in (shape_free (n := n)))
    obtain ⟨F, hF⟩ : ∃ F, freeL n = F := ⟨_, rfl⟩
    obtain ⟨PT, hPT⟩ : ∃ PT, freeP F = PT := ⟨_, rfl⟩
    have Hsh : Hid (Shape n.ends F) := by rw [← hF]; exact shape_free
    have Hin : Hid (InR (p.labels - 1) F) := by rw [← hF]; exact inr_free (by omega)
    obtain ⟨R, hR⟩ : ∃ R, fsR p n k = R := ⟨_, rfl⟩
    have HR : Hid (soR (fsNx k) p n.ends PT 200000 [] F = R) := by show _ = _; rw [← hR, ← hPT, ← hF]; rfl
    have Hrr := Lib.hid (fs_yes hok hR)
    rw [hF] at Hf6 Hpl Hpo hf40
    rw [hPT] at Hpl Hpo
    have HF := Lib.hid hF
    have HPT := Lib.hid hPT
    have Hhn := Lib.hid hn
    have Hlab := Lib.hid hlab
    have Hel := Lib.hid hel
    obtain ⟨bo, hbo⟩ : ∃ bo, bo = W.heap.size := ⟨_, rfl⟩
    obtain ⟨w2, hw2⟩ : ∃ w2, w2 = W.alloc (.cells #[.slice none 0 0] 85) := ⟨_, rfl⟩
    have Hi : Hid (BoxA w2 bo #[.slice none 0 0]) := by rw [hw2, hbo]; exact BoxA.new _ _ _
    have hbw : w0.heap.size ≤ bo := by rw [hbo]; exact (Since.below hW).size
    have hs2 : Since w0 w2 := by rw [hw2]; exact since_alloc _ hW
    have Hs2 := Lib.hid hs2
    have Hbw := Lib.hid hbw
    have Hbo := Lib.hid hbo
    have Hw2 := Lib.hid hw2
    have q00 := lift_cell p00 hs2
    have q01 := lift_cell p01 hs2
    have q02 := lift_cell p02 hs2
    have q03 := lift_cell p03 hs2
    have q10 := lift_cell p10 hs2
    have q11 := lift_cell p11 hs2
    have q12 := lift_cell p12 hs2
    clear hw2 hbo hW hbw hF hPT hR hm hp1 hst hf6 hn6 hok hn hlab
    go_upto_region 4 with (fail)
    rw [← Hbo.out, ← Hw2.out]
    refine wp_region_fork (w0 := w2) 6 [0, 0, 0, 1, 1, 2] (fun _ W u => NilP w2 W u) (fun _ W W' u h hs => h.keep hs) (by kernel_rfl) (by kernel_rfl) (since_refl _) ?_
    rw [show idxN 2 ([0, 0, 0, 1, 1, 2] : List Nat) = [5] from by decide]
    simp only [selN, List.take_succ_cons, List.take_zero, List.drop_succ_cons, List.drop_zero, if_true, if_false, reduceCtorEq, Nat.reduceEqDiff, reduceIte, Nat.zero_ne_one, Nat.one_ne_zero]
    refine pflow_val (v := ?_) rfl ?_ ?_; rotate_left; (intro W hW; go_simp; with_reducible rfl)
    simp only [Act.put, List.setIfInBounds_toArray, List.set_cons_succ, List.set_cons_zero]
    refine pflow_val (v := ?_) rfl ?_ ?_; rotate_left; (intro W hW; go_simp; with_reducible rfl)
    simp only [Act.put, List.setIfInBounds_toArray, List.set_cons_succ, List.set_cons_zero]
    refine pflow_val (v := ?_) rfl ?_ ?_; rotate_left; (intro W hW; go_simp; with_reducible rfl)
    simp only [Act.put, List.setIfInBounds_toArray, List.set_cons_succ, List.set_cons_zero]
    refine ⟨?_, ?_⟩
    · intro j hj
      obtain rfl := List.mem_singleton.1 hj
      intro o ho
      cases ho
      refine ⟨rfl, fun W hW => ?_⟩
      unfold GivesAny
      go_simp
      all_goals (first | exact NilP.new (by first | exact hW.below.size | simp) | exact ⟨NilP.new hW.below.size, since_alloc _ (since_refl _)⟩)
    intro W hW
    intro W1 h1
    have hW1 := Since.after hW h1
    refine ⟨rfl, ?_⟩
    go_simp
    (with_reducible refine (unlabeled_any _ _ _ n W1 (HNn.out W1 (Hs2.out.after hW1)) (by omega) (fun v es hv => Nat.le_trans (Hn6.out v es hv) (by omega))).mono ?_)
    rintro e W ⟨u1, S1, rfl, ho1, hb1⟩
    refine ⟨_, rfl, hb1, ?_⟩
    have hW := hW1.after (hb1)
    obtain ⟨AU, mU, cU, rfl⟩ := lawII.one ho1
    have ho2 := ho1.read
    rw [HF.out] at ho2
    have HO1 := Lib.hid (show ∀ X, Since W X → IntSS X _ F from fun X hX => ho2.keep hX.below)
    clear ho1 ho2 hb1
    (try simp only [Act.put, List.setIfInBounds_toArray, List.set_cons_succ, List.set_cons_zero])
    intro W1 h1
    have hW1 := Since.after hW h1
    refine ⟨rfl, ?_⟩
    go_simp
    (with_reducible refine (newSolver_any _ _ _ _ _ _ p n F W1 (HPp.out W1 (Hs2.out.after hW1)) (HNn.out W1 (Hs2.out.after hW1)) (HO1.out W1 h1) hf40 Hf6.out).mono ?_)
    rintro e W ⟨sb, ul, uf, SL, rfl, hS, hsb, hb⟩
    refine ⟨_, rfl, hb, ?_⟩
    have hW := hW1.after (hb)
    rw [HPT.out] at hS
    obtain ⟨B0, hB1, hB2, hB3⟩ : ∃ B0, bo < B0 ∧ B0 ≤ sb ∧ SolM W sb _ _ _ _ _ _ B0 := ⟨_, (Hi.out.below hW1 Hi.out.lt).lt, hsb, hS⟩
    have HZ := Lib.hid hB1
    have HS := Lib.hid (show ∀ X, Since W X → SolM X sb _ _ _ _ _ _ B0 from fun X hX => hB3.keepB hX.below)
    have Hsb := Lib.hid hB2
    clear hS hb hsb hB1 hB2 hB3
    (try simp only [Act.put, List.setIfInBounds_toArray, List.set_cons_succ, List.set_cons_zero])
    intro us W h1 hU
    have hW := Since.after hW h1
    have hU5 : (fun _ W u => NilP w2 W u) 5 W (us 5) := by first | exact hU 5 (by simp) | exact hU
    (try simp only [] at hU5)
    simp only [putAll, List.getElem?_toArray, List.getElem?_cons_succ, List.getElem?_cons_zero]
    (try simp only [Act.put, List.setIfInBounds_toArray, List.set_cons_succ, List.set_cons_zero])
    obtain ⟨u5, hu5⟩ : ∃ x, x = us 5 := ⟨_, rfl⟩
    rw [← hu5] at hU5 ⊢
    clear hu5
    clear hU us
    obtain ⟨bs, rfl, hbt, hb2⟩ := hU5
    simp only [TFlow]
    have hbsW : bs < W.heap.size := (Array.getElem?_eq_some_iff.1 hbt).1
    have hSW := HS.out W h1
    have hP0 : BoxA W bs #[.pointer none] := ⟨_, hbt⟩
    have hI2 : BoxA W bo #[.slice none 0 0] := Hi.out.below hW Hi.out.lt
    have hbn : bs ≠ bo := by
      rintro rfl
      obtain ⟨r1, h1⟩ := hI2
      rw [hbt] at h1
      simp at h1
    have hbz : bs ∉ sb :: SL := by
      intro hm
      rcases List.mem_cons.1 hm with rfl | hm
      · obtain ⟨r1, h1⟩ := hSW.1
        rw [hbt] at h1
        simp [arrI] at h1
      · obtain ⟨cur, e, he, hc⟩ := ownII_ty hSW.2.1 hm
        rw [hbt] at hc
        rcases he with rfl | rfl <;> simp at hc
    obtain ⟨w9, hw9⟩ : ∃ w9, w9 = W.setCell ⟨bs, 0, none⟩ (.pointer (some ⟨sb, 0, none⟩)) := ⟨_, rfl⟩
    have hP9 : BoxA w9 bs #[.pointer (some ⟨sb, 0, none⟩)] := by rw [hw9]; exact hP0.put 0 _
    obtain ⟨e1, e2⟩ := hP0.cell 0 _ rfl
    have e3 := (hP9.cell 0 _ rfl).1
    have hS9 : SolM w9 sb _ _ _ _ _ _ B0 := hSW.stable (fun j hj => by
      rw [hw9]
      refine Below.heap_setCell _ _ _ j ?_
      rcases hj with rfl | hj | hj
      · exact fun e => hbz (by rw [show bs = j from e.symm]; exact List.mem_cons_self)
      · exact fun e => hbz (by rw [show bs = j from e.symm]; exact List.mem_cons_of_mem _ hj)
      · obtain ⟨cur, hc⟩ := hSW.ufTy hj
        rintro rfl
        rw [hbt] at hc
        simp at hc)
    have hI9 : BoxA w9 bo #[.slice none 0 0] := by rw [hw9]; exact hI2.set (p := ⟨bs, 0, none⟩) (show bs ≠ bo from hbn)
    have hW9 : Since w0 w9 := by rw [hw9]; exact Below.setCell (Hs2.out.after hW) (by show w0.heap.size ≤ bs; exact Nat.le_trans Hs2.out.below.size hb2) _
    have HW9 := Lib.hid hW9
    have Hrun := Lib.hid (fsRun_any p n F PT k sb _ _ _ _ _ ul uf SL bo bs (w.heap.size + 1 + 1) B0 w0 w9 R hW9 HPp.out HNn.out hS9 HK0.out.lt Hbw.out HZ.out Hsb.out hbz hbn (fun j hj => by have := (hSW.uf j hj).1; have := HZ.out; have := Hsb.out; omega)
      hI9 hP9 (HK0.out.below hW9.below HK0.out.lt) Hk.out Hhn.out Hst.out Hel.out Hlab.out Hsh.out Hin.out Hpo.out Hpl.out Hn6.out HR.out)
    have Hw9 := Lib.hid hw9
    have hwB : w.heap.size ≤ w9.heap.size := Nat.le_trans Hb0.out.size hW9.below.size
    clear hW h1 hw9 hP0 hP9 hbt hSW hI2 hS9 hI9 hbn hbz hb2 hbsW
    go_upto_region 5 with (fail)
    rw [← Hw9.out]
    clear e1 e2
    go_wp2_with fail
    refine Hrun.out.mono ?_
    rintro e W2 ⟨rfl, ⟨u, S, hB, hO⟩, hb2⟩
    obtain ⟨AO, mO, cO, rfl⟩ := lawIII.one hO
    have Hs4 := Lib.hid (Below.trans HW9.out hb2)
    have HO := Lib.hid (lawIII.mono hO hwB)
    have c1 := (hB.cell 0 _ rfl).1
    clear e3 hB hO hb2 hW9
    by_cases h3 : R.2.1 = 3
    · have hbe : (R.2.1 == 3) = true := by simpa using h3
      have hr0 := Hrr.out.1
      have hr1 := Hrr.out.2
      rw [if_pos h3] at hr0
      rw [decide_eq_true h3] at hr1
      have H0 := Lib.hid hr0
      have H1 := Lib.hid hr1
      clear h3 hr0 hr1
      go_wp2
      go_ret2
      rw [H0.out, H1.out]
      exact ⟨_, _, rfl, ownIII_nil _ _, Since.after Hb0.out Hs4.out⟩
    · have hbe : (R.2.1 == 3) = false := by simpa using h3
      have hr0 := Hrr.out.1
      have hr1 := Hrr.out.2
      rw [if_neg h3] at hr0
      rw [decide_eq_false h3] at hr1
      have H0 := Lib.hid hr0
      have H1 := Lib.hid hr1
      clear h3 hr0 hr1
      go_wp2
      go_ret2
      rw [H0.out, H1.out]
      exact ⟨_, _, rfl, HO.out, Since.after Hb0.out Hs4.out⟩
  · have hk : fsOk p n k = false := by unfold fsOk; revert hg; cases prOk p <;> cases netOk n <;> cases inB 1 50 k <;> simp
    obtain ⟨h0, h1⟩ := fs_no hk
    have HW := Lib.hid hW
    have H0 := Lib.hid h0
    have H1 := Lib.hid h1
    clear hW h0 h1
    go_wp2
    go_ret2
    rw [H0.out, H1.out]
    exact ⟨_, _, rfl, ownIII_nil _ _, Since.after Hb0.out HW.out⟩
end Go.Proofs.YtomnaabadohecaaGreat
namespace Go.Proofs.YtomnaabadohecaaGreat
open Go.RowKit
/-! the first solutions: the reference -/
theorem szT_snoc1 (s : List (List (List Int))) (l : List (List Int)) : szT (s ++ [l]) = szT s + szR l := by
  unfold szT
  simp
def fsInv (p : Prob) (n : Net) (PT : List (Int × Int)) (k : Int) (R : List (List (List Int)) × SoR) (s : List (List (List Int))) (fr : Bool) (l : List (List Int)) (pos st : Int) : Prop :=
  (((s.length : Int) < k ∧ soA (fsNx k) p n.ends PT 200000 fr s l pos st = R) ∨ (¬ (s.length : Int) < k ∧ R.1 = s ∧ R.2.1 = 1)) ∧ szT s ≤ 240 * s.length ∧ (s.length : Int) ≤ 50
set_option maxRecDepth 100000 in
set_option maxHeartbeats 16000000 in
theorem fnExactFirstSolutions_spec (pa pb ve vi vn : Value) (p : Prob) (n : Net) (k : Int) (w : World) (hp : PrIn w pa pb p) (h : NetIn w ve vi vn n) (_ : -9223372036854775808 ≤ k ∧ k ≤ 9223372036854775807) (hpz : szPr p ≤ 1048576) (hsz : szNet n ≤ 1048576) :
    Calls Tryz.prog 51 #[.agg #[.int .i64 p.labels, .int .i64 p.degree, pa, pb], .agg #[ve, vi, vn], .int .i64 k] w fun e w' => ∃ u S, e = .returned (.tuple #[u, .bool (fnExactFirstSolutions_r1 p n k)]) ∧ OwnIII w' w.heap.size u (fnExactFirstSolutions_r0 p n k) S ∧ szT (fnExactFirstSolutions_r0 p n k) ≤ 1000000000 ∧ Below w.heap.size w w' := by
  have hel : p.edges.length ≤ 1048576 := by unfold szPr szII at hpz; omega
  have Hnl := Lib.hid (szNet_ids hsz)
  obtain ⟨w0, hw0⟩ : ∃ w0, w0 = ((w).alloc (.cells #[.int .i64 p.labels, .int .i64 p.degree, pa, pb] 74)).alloc (.cells #[ve, vi, vn] 43) := ⟨_, rfl⟩
  have hb0 : Below w.heap.size w w0 := by rw [hw0]; exact (((Below.refl _ _).alloc (by simp <;> omega) _).alloc (by simp <;> omega) _)
  have H := Lib.hid (h.keep hb0)
  obtain ⟨h1, h2, h3⟩ := h.keep hb0
  obtain ⟨A, c, rfl, hlc, hm, hA⟩ := h1
  obtain ⟨A2, c2, rfl, _, hm2, _⟩ := h2
  obtain ⟨A3, c3, rfl, _, hm3, _⟩ := h3
  unfold maxLen at hm hm2 hm3
  have hkP := hp.keep hb0
  have HP := Lib.hid hkP
  obtain ⟨P0, pz0, rfl, hlP0, hmP0, hPe0⟩ := id hkP.1
  unfold maxLen at hmP0
  have HPe0 := Lib.hid hPe0
  clear hPe0
  obtain ⟨P1, pz1, rfl, hlP1, hmP1, hPe1⟩ := id hkP.2
  unfold maxLen at hmP1
  have HPe1 := Lib.hid hPe1
  clear hPe1
  clear hkP hp
  have p00 : ∀ W, Since w0 W → W.cell? ⟨w.heap.size, 0, none⟩ = some (.int .i64 p.labels) := have_cell (by rw [hw0]; simp)
  have p01 : ∀ W, Since w0 W → W.cell? ⟨w.heap.size, 1, none⟩ = some (.int .i64 p.degree) := have_cell (by rw [hw0]; simp)
  have p02 : ∀ W, Since w0 W → W.cell? ⟨w.heap.size, 2, none⟩ = some (.slice P0 p.nodes.length pz0) := have_cell (by rw [hw0]; simp)
  have p03 : ∀ W, Since w0 W → W.cell? ⟨w.heap.size, 3, none⟩ = some (.slice P1 p.edges.length pz1) := have_cell (by rw [hw0]; simp)
  have p10 : ∀ W, Since w0 W → W.cell? ⟨w.heap.size + 1, 0, none⟩ = some (.slice A n.ends.length c) := have_cell (by rw [hw0]; simp)
  have p11 : ∀ W, Since w0 W → W.cell? ⟨w.heap.size + 1, 1, none⟩ = some (.slice A2 n.ids.length c2) := have_cell (by rw [hw0]; simp)
  have p12 : ∀ W, Since w0 W → W.cell? ⟨w.heap.size + 1, 2, none⟩ = some (.slice A3 n.inputs.length c3) := have_cell (by rw [hw0]; simp)
  have Hb0 := Lib.hid hb0
  have Hw0 := Lib.hid hw0
  have HA := Lib.hid hA
  clear hA h
  clear hb0 hw0
  have HPp := Lib.hid (show ∀ X, Since w0 X → PrIn X (.slice P0 p.nodes.length pz0) (.slice P1 p.edges.length pz1) p from fun X hX => HP.out.keep hX)
  have HNn := Lib.hid (show ∀ X, Since w0 X → NetIn X (.slice A n.ends.length c) (.slice A2 n.ids.length c2) (.slice A3 n.inputs.length c3) n from fun X hX => H.out.keep hX.below)
  clear hsz hpz
  go_enter Tryz.func51, Tryz.ntmps51
  go_upto_region 1 with (fail)
  rw [← Hw0.out]
  refine wp_region_flow0 13 (Since w0) (since_refl _) ?_
  simp only [List.take_succ_cons, List.take_zero, List.drop_succ_cons, List.drop_zero]
  refine flow_val (v := ?_) rfl ?_ ?_; rotate_left; (intro W hW; go_simp; with_reducible rfl)
  simp only [Act.put, List.setIfInBounds_toArray, List.set_cons_succ, List.set_cons_zero]
  refine flow_op ?_ rfl ?_ ?_; rotate_left; (intro W hW; unfold Gives; go_simp; (with_reducible refine (prGood_any _ _ p W (HPp.out W hW)).mono ?_); rintro e W' ⟨rfl, hb3⟩; first | (refine ⟨?_, Since.trans hW hb3⟩; with_reducible rfl) | (subst hb3; refine ⟨?_, hW⟩; with_reducible rfl))
  simp only [Act.put, List.setIfInBounds_toArray, List.set_cons_succ, List.set_cons_zero]
  refine flow_val (v := ?_) rfl ?_ ?_; rotate_left; (intro W hW; go_simp; with_reducible rfl)
  simp only [Act.put, List.setIfInBounds_toArray, List.set_cons_succ, List.set_cons_zero]
  refine flow_val (v := ?_) rfl ?_ ?_; rotate_left; (intro W hW; go_simp; with_reducible rfl)
  simp only [Act.put, List.setIfInBounds_toArray, List.set_cons_succ, List.set_cons_zero]
  refine flow_gval (v := ?_) rfl rfl ?_ ?_; rotate_left; (intro hb; intro W hW; go_simp; with_reducible rfl)
  simp only [Act.put, List.setIfInBounds_toArray, List.set_cons_succ, List.set_cons_zero]
  refine flow_gop (v := ?_) rfl rfl ?_ ?_; rotate_left; (intro hb; intro W hW; unfold Gives; go_simp; (with_reducible refine (neGood_any _ _ _ n W (HNn.out W hW)).mono ?_); rintro e W' ⟨rfl, hb3⟩; first | (refine ⟨?_, Since.trans hW hb3⟩; with_reducible rfl) | (subst hb3; refine ⟨?_, hW⟩; with_reducible rfl))
  simp only [Act.put, List.setIfInBounds_toArray, List.set_cons_succ, List.set_cons_zero]
  refine flow_gval (v := ?_) rfl rfl ?_ ?_; rotate_left; (intro hb; intro W hW; go_simp; with_reducible rfl)
  simp only [Act.put, List.setIfInBounds_toArray, List.set_cons_succ, List.set_cons_zero]
  first | refine flow_or rfl rfl ?_ | (refine flow_val (v := ?_) rfl ?_ ?_; rotate_left; (intro W hW; go_simp; with_reducible rfl))
  simp only [Act.put, List.setIfInBounds_toArray, List.set_cons_succ, List.set_cons_zero]
  refine flow_val (v := ?_) rfl ?_ ?_; rotate_left; (intro W hW; go_simp; with_reducible rfl)
  simp only [Act.put, List.setIfInBounds_toArray, List.set_cons_succ, List.set_cons_zero]
  refine flow_gval (v := ?_) rfl rfl ?_ ?_; rotate_left; (intro hb; intro W hW; go_simp; with_reducible rfl)
  simp only [Act.put, List.setIfInBounds_toArray, List.set_cons_succ, List.set_cons_zero]
  refine flow_gop (v := ?_) rfl rfl ?_ ?_; rotate_left; (intro hb; intro W hW; unfold Gives; go_simp; (with_reducible refine (l1In_p _ _ _ W).mono ?_); rintro e W' ⟨rfl, hb3⟩; first | (refine ⟨?_, Since.trans hW hb3⟩; with_reducible rfl) | (subst hb3; refine ⟨?_, hW⟩; with_reducible rfl))
  simp only [Act.put, List.setIfInBounds_toArray, List.set_cons_succ, List.set_cons_zero]
  refine flow_gval (v := ?_) rfl rfl ?_ ?_; rotate_left; (intro hb; intro W hW; go_simp; with_reducible rfl)
  simp only [Act.put, List.setIfInBounds_toArray, List.set_cons_succ, List.set_cons_zero]
  first | refine flow_or rfl rfl ?_ | (refine flow_val (v := ?_) rfl ?_ ?_; rotate_left; (intro W hW; go_simp; with_reducible rfl))
  simp only [Act.put, List.setIfInBounds_toArray, List.set_cons_succ, List.set_cons_zero]
  intro W hW
  cases hg : (!prOk p || !netOk n || !inB 1 50 k)
  · have hok : fsOk p n k = true := by unfold fsOk; revert hg; cases prOk p <;> cases netOk n <;> cases inB 1 50 k <;> simp
    simp only [Bool.or_eq_false_iff, Bool.not_eq_false'] at hg
    obtain ⟨⟨hp1, hn⟩, hm⟩ := hg
    have hk := inB_iff.1 hm
    obtain ⟨hlab, hst⟩ := prOk_facts hp1
    obtain ⟨hn40, hn6⟩ := netOk_r6 hn
    obtain ⟨hf40, hf6⟩ := free_r6 hn
    have Hf6 := Lib.hid hf6
    have Hn6 := Lib.hid hn6
    have Hst := Lib.hid hst
    have Hpl := Lib.hid (freeP_len hf40 hf6)
    have Hpo := Lib.hid (freeP_in (shape_free (n := n)))
    obtain ⟨F, hF⟩ : ∃ F, freeL n = F := ⟨_, rfl⟩
    obtain ⟨PT, hPT⟩ : ∃ PT, freeP F = PT := ⟨_, rfl⟩
    have Hsh : Hid (Shape n.ends F) := by rw [← hF]; exact shape_free
    have Hin : Hid (InR (p.labels - 1) F) := by rw [← hF]; exact inr_free (by omega)
    obtain ⟨R, hR⟩ : ∃ R, fsR p n k = R := ⟨_, rfl⟩
    have HR : Hid (fsInv p n PT k R [] true F 0 0) := ⟨.inl ⟨by show ((0 : Nat) : Int) < k; omega, by rw [← hR, ← hPT, ← hF]; rfl⟩, by simp [szT], by simp⟩
    have Hrr := Lib.hid (fs_yes hok hR)
    rw [hF] at Hf6 Hpl Hpo hf40
    rw [hPT] at Hpl Hpo
    have HF := Lib.hid hF
    have HPT := Lib.hid hPT
    have Hhn := Lib.hid hn
    have Hlab := Lib.hid hlab
    have Hk := Lib.hid hk
    have Hel := Lib.hid hel
    have Hs2 := Lib.hid hW
    clear hF hPT hR hm hp1 hst hf6 hn6 hok hW
    go_upto_region 3 with (fail)
    refine wp_region_chain (w0 := w0) 5 [false, false, false, true, true] (by kernel_rfl) (by kernel_rfl) (Hs2.out) ?_
    simp only [selF, selT, List.take_succ_cons, List.take_zero, List.drop_succ_cons, List.drop_zero]
    refine pflow_val (v := ?_) rfl ?_ ?_; rotate_left; (intro W hW; go_simp; with_reducible rfl)
    simp only [Act.put, List.setIfInBounds_toArray, List.set_cons_succ, List.set_cons_zero]
    refine pflow_val (v := ?_) rfl ?_ ?_; rotate_left; (intro W hW; go_simp; with_reducible rfl)
    simp only [Act.put, List.setIfInBounds_toArray, List.set_cons_succ, List.set_cons_zero]
    refine pflow_val (v := ?_) rfl ?_ ?_; rotate_left; (intro W hW; go_simp; with_reducible rfl)
    simp only [Act.put, List.setIfInBounds_toArray, List.set_cons_succ, List.set_cons_zero]
    intro W hW
    refine Or.inl ⟨rfl, ?_⟩
    go_simp
    (with_reducible refine (soEmpty_any _ _ _ n W (HNn.out W hW) (by omega) (fun v es hv => Nat.le_trans (Hn6.out v es hv) (by omega))).mono ?_)
    rintro e W' ⟨u1, S1, rfl, ho1, hb1⟩
    refine ⟨_, rfl, hW.trans hb1, ?_⟩
    replace hW := hW.trans hb1
    obtain ⟨AU, mU, cU, rfl⟩ := lawII.one ho1
    have HO1 := Lib.hid (HF.out ▸ ho1.read)
    have HZ1 : Hid (w0.heap.size ≤ W'.heap.size) := (Since.below hW).size
    clear ho1 hb1
    (try simp only [Act.put, List.setIfInBounds_toArray, List.set_cons_succ, List.set_cons_zero])
    refine Or.inl ⟨rfl, ?_⟩
    go_simp
    (with_reducible refine (soStart_any _ _ _ _ _ _ p n F 200000 _ (HPp.out _ hW) (HNn.out _ hW) HO1.out hf40 Hf6.out).mono ?_)
    rintro e W' ⟨sb, ul, uf, SL, rfl, hS, hsb, hb⟩
    refine ⟨_, rfl, hW.trans hb, ?_⟩
    replace hW := hW.trans hb
    rw [HPT.out] at hS
    have HS0 := Lib.hid (hS.mono HZ1.out)
    have Hsb : Hid (w0.heap.size ≤ sb) := Nat.le_trans HZ1.out hsb
    clear hS hb hsb
    (try simp only [Act.put, List.setIfInBounds_toArray, List.set_cons_succ, List.set_cons_zero])
    simp only [TFlow]
    have HW := Lib.hid hW
    obtain ⟨B1, hB1⟩ : ∃ B1, B1 = W'.heap.size := ⟨_, rfl⟩
    have hsbB : sb < B1 := by rw [hB1]; exact HS0.out.1.lt
    have HufB : Hid (∀ j, uf.ownBlock = some j → sb + 1 ≤ j ∧ j < B1) := by rw [hB1]; exact HS0.out.uf
    have HSLB : Hid (∀ j ∈ SL, j < sb) := HS0.out.2.2.1
    have HwB : Hid (w.heap.size ≤ B1) := by show _ ≤ _; rw [hB1]; exact Nat.le_trans Hb0.out.size HW.out.below.size
    have Hw0B : Hid (w0.heap.size ≤ B1) := by show _ ≤ _; rw [hB1]; exact HW.out.below.size
    have HBW : Hid (B1 ≤ W'.heap.size) := by show _ ≤ _; rw [hB1]; exact Nat.le_refl _
    clear hW hB1
    go_wp2
    go_loopw [9] (fun cv wr => ∃ (s : List (List (List Int))) (So : List Nat) (fr : Bool) (l : List (List Int)) (pos st : Int), OwnIII wr B1 cv s So ∧ (0 ≤ pos ∧ pos ≤ PT.length ∧ 0 ≤ st ∧ st ≤ 200000) ∧ fsInv p n PT k R s fr l pos st ∧ SolM wr sb (arrS p (.slice P0 p.nodes.length pz0) (.slice P1 p.edges.length pz1) (.slice A n.ends.length c) (.slice A2 n.ids.length c2) (.slice A3 n.inputs.length c3) ul uf pos st 200000 fr) l PT ul uf SL w0.heap.size ∧ (Shape n.ends l ∧ InR (p.labels - 1) l) ∧ (Since w0 wr ∧ B1 ≤ wr.heap.size)) (fun _ wr => frAt wr sb + soMeas 200000 (stAt wr sb 9) (stAt wr sb 10))
    case atStart => exact ⟨[], [], true, F, 0, 0, ownIII_nil _ _, ⟨by omega, by omega, by omega, by omega⟩, HR.out, HS0.out, ⟨Hsh.out, Hin.out⟩, ⟨HW.out, HBW.out⟩⟩
    case round =>
      obtain ⟨s, So, fr, l, pos, st, hO, ⟨hq1, hq2, hs1, hs2⟩, heq, hmem, hinv, hb⟩ := hrel
      have HO := Lib.hid hO
      obtain ⟨AO, mO, cO, rfl⟩ := lawIII.one hO
      have hmO : mO = s.length := by
        obtain ⟨vs0, Ss0, e0, -⟩ := id hO
        rcases e0.2 with ⟨hv, hz⟩ | ⟨g, cap, cur, hv, -⟩
        · simp only [Value.slice.injEq] at hv; omega
        · simp only [Value.slice.injEq] at hv; omega
      subst hmO
      clear hO
      obtain ⟨heq, hszT, hsl⟩ := heq
      have HszT := Lib.hid hszT
      clear hszT
      by_cases hlt : (s.length : Int) < k
      · have hR0 : soA (fsNx k) p n.ends PT 200000 fr s l pos st = R := by
          rcases heq with h | h
          · exact h.2
          · exact absurd hlt h.1
        obtain ⟨M0, hM0⟩ : ∃ z, frAt wr sb + soMeas 200000 (stAt wr sb 9) (stAt wr sb 10) = z := ⟨_, rfl⟩
        have HM0 := Lib.hid hM0
        have HMe : Hid ((if fr = true then 1 else 0) + soMeas 200000 pos st = M0) := by
          show _ = _
          obtain ⟨d0, d1, d2, d3, d4, d5, d6, d7, d8, d9, d10, d11, d12⟩ := arrS_cells hmem.1
          rw [← hM0, stAt_of d9, stAt_of d10, frAt_of d12]
        have Hrun := Lib.hid (soRun_only p n _ _ _ _ _ ul uf sb SL w0.heap.size PT 200000 pos st fr l wr Hsb.out (fun X hX => HPp.out X (Below.trans hb.1 hX)) (fun X hX => HNn.out X (Below.trans hb.1 hX)) hmem Hhn.out Hst.out Hel.out Hlab.out hinv.1 hinv.2 Hpo.out Hpl.out ⟨by omega, by omega⟩ ⟨hq1, hq2⟩ ⟨hs1, hs2⟩ Hn6.out)
        obtain ⟨r, hr⟩ : ∃ r, soQ p n.ends PT 200000 fr l pos st = r := ⟨_, rfl⟩
        have Hnx := Lib.hid (soA_next (fsNx k) p n.ends PT 200000 fr s l pos st hq1 hq2 hs2 r hr)
        rw [hR0] at Hnx
        rw [hr] at Hrun
        have Hb := Lib.hid hb
        clear hr hM0 hmem hinv heq hb hR0
        go_wp2_with fail
        refine Hrun.out.mono ?_
        rintro e W2 ⟨rfl, hS2, hin2, hb2⟩
        have HS2 := Lib.hid hS2
        have Hin2 := Lib.hid hin2
        have HO2 := Lib.hid (lawIII.only HO.out hb2.o (fun j hj hm => by
          have h8 := (lawIII.range HO.out j hj).1
          rcases List.mem_cons.1 hm with h | h
          · omega
          · have := HSLB.out j h; omega))
        have Hs2 := Lib.hid (show Since w0 W2 from Below.trans Hb.out.1 hb2.b)
        have HZ2 : Hid (B1 ≤ W2.heap.size) := Nat.le_trans Hb.out.2 hb2.b.size
        clear hS2 hin2 hb2
        by_cases h3 : r.1 = 3
        · have hbe : (r.1 == 3) = true := by simpa using h3
          have hRR := Hnx.out.1
          rw [if_neg (by omega)] at hRR
          have hr0 := Hrr.out.1
          have hr1 := Hrr.out.2
          rw [hRR, if_pos h3] at hr0
          rw [hRR, decide_eq_true h3] at hr1
          have H0 := Lib.hid hr0
          have H1 := Lib.hid hr1
          clear hRR hr0 hr1 h3
          go_wp2
          go_ret2
          rw [H0.out, H1.out]
          exact ⟨_, _, rfl, ownIII_nil _ _, by simp [szT], Since.after Hb0.out Hs2.out⟩
        · have hbe3 : (r.1 == 3) = false := by simpa using h3
          by_cases h2 : r.1 = 2
          · have hbe : (r.1 == 2) = true := by simpa using h2
            have hRR := Hnx.out.1
            rw [if_neg (by omega)] at hRR
            have hr0 := Hrr.out.1
            have hr1 := Hrr.out.2
            rw [hRR, if_neg h3] at hr0
            rw [hRR, decide_eq_false h3] at hr1
            have H0 := Lib.hid hr0
            have H1 := Lib.hid hr1
            clear hRR hr0 hr1 h3 h2
            go_wp2
            go_ret2
            rw [H0.out, H1.out]
            exact ⟨_, _, rfl, lawIII.mono HO2.out HwB.out, by have := HszT.out; show szT s ≤ _; omega, Since.after Hb0.out Hs2.out⟩
          · have hbe : (r.1 == 2) = false := by simpa using h2
            have h1 : r.1 = 1 := by rcases Hnx.out.2.2 with h | h | h <;> omega
            have hRR := Hnx.out.1
            rw [if_pos h1] at hRR
            obtain ⟨e1, e2, e3, e4⟩ := Hnx.out.2.1 h1
            have E4 := Lib.hid e4
            have HRR := Lib.hid hRR
            have H1r := Lib.hid h1
            obtain ⟨hl40, hl6⟩ := shape_r6 Hhn.out Hin2.out.1
            have Hl6 := Lib.hid hl6
            have hc7 := (arrS_cells HS2.out.1).2.2.2.2.2.2.2.1
            have q7 := have_cell hc7
            have hL := HS2.out.rows
            have HL := Lib.hid (show ∀ X, Since W2 X → IntSS X ul r.2.1 from fun X hX => hL.keep hX.below)
            obtain ⟨AL, cL, rfl, hlc, hmc, -⟩ := hL
            unfold maxLen at hmc
            clear hRR e4 h1 h2 h3 hl6 hc7
            have HnL := Lib.hid (show ∀ j, (Value.slice AO s.length cO).ownBlock = some j → B1 ≤ j from fun j hj => by
              obtain ⟨vs, Ss, r1, r2, r3, r4, r5⟩ := id HO2.out
              exact (lawIII.range HO2.out j (by rw [r4, hj]; simp)).1)
            have hlk : (s.length : Int) + 1 ≤ 50 := by have := Hk.out; omega
            have hszl : s.length + 1 ≤ 4000000 := by omega
            have Hst0 := Lib.hid hs1
            clear hq1 hq2 hs1 hs2
            have q77 := q7 W2 (since_refl _)
            go_wp2_with fail
            refine (soCopy_any _ r.2.1 W2 (HL.out _ (since_refl _)) (by omega) (fun v row hv => Nat.le_trans (Hl6.out v row hv) (by omega))).mono ?_
            rintro e W' ⟨u2, T2, rfl, ho2, hb2⟩
            obtain ⟨A2', m2', c2', rfl⟩ := lawII.one ho2
            have Ho2 := Lib.hid ho2
            obtain ⟨WA, hWAd⟩ : ∃ WA, WA = W'.alloc (.cells #[.slice A2' m2' c2'] 22) := ⟨_, rfl⟩
            have hW : Since W2 WA := by rw [hWAd]; exact since_alloc _ hb2
            have HWA := Lib.hid hWAd
            clear q77 ho2 hb2
            clear q7
            have HsA := Lib.hid hW
            have HoO := Lib.hid (lawIII.keep HO2.out HsA.out.below)
            have Ho3 : Hid (OwnII WA B1 (.slice A2' m2' c2') r.2.1 T2) := by rw [hWAd]; exact lawII.mono (lawII.keep Ho2.out (below_alloc _ _)) HZ2.out
            have HD := Lib.hid (show ∀ j ∈ T2, j ∉ So from fun j hj hS => by have h1 := (lawII.range Ho2.out j hj).1; have := (lawIII.range HO2.out j hS).2; omega)
            have hcA : WA.cell? ⟨W'.heap.size, 0, none⟩ = some (.slice A2' m2' c2') := by rw [hWAd]; simp
            have HcA := Lib.hid hcA
            have HBA : Hid (B1 ≤ WA.heap.size) := Nat.le_trans HZ2.out HsA.out.below.size
            have HSA := Lib.hid (HS2.out.keepB HsA.out.below)
            clear hW hWAd hcA
            go_wp2_with (at_builtin; rw [← HWA.out]; refine app_rowIII rfl _ _ rfl rfl HoO.out W'.heap.size rfl HcA.out Ho3.out HD.out hszl HBA.out ?_; intro g cc w3 S3 ho3 hg3 hb3; have Hg3 := Lib.hid hg3; have Hb3 := Lib.hid hb3; have Hw3 := Lib.hid ho3; clear ho3 hg3 hb3)
            have HS3 := Lib.hid (HSA.out.stable (w' := w3) (fun j hj => by
              have hj1 : j < B1 := by
                rcases hj with h | h | h
                · omega
                · have := HSLB.out j h; omega
                · exact (HufB.out j h).2
              exact Hg3.out.block j (by have := HBA.out; omega) (fun e => by have := HnL.out j e.symm; omega)))
            go_roundw
            case rel =>
              refine ⟨s ++ [r.2.1], S3, false, r.2.1, r.2.2.1, r.2.2.2, Hw3.out, ⟨by omega, by omega, by have := Hst0.out; omega, by omega⟩, ⟨?_, ?_, ?_⟩, HS3.out, Hin2.out, ⟨?_, ?_⟩⟩
              · by_cases hn1 : ((s ++ [r.2.1]).length : Int) < k
                · refine .inl ⟨hn1, ?_⟩
                  have h7 := HRR.out
                  rw [if_pos (show (fsNx k s r.2.1).1 = true from decide_eq_true (by rw [List.length_append] at hn1; exact hn1))] at h7
                  exact h7.symm
                · refine .inr ⟨hn1, ?_⟩
                  have h7 := HRR.out
                  rw [if_neg (show ¬ (fsNx k s r.2.1).1 = true from fun h => hn1 (by rw [List.length_append]; exact of_decide_eq_true h))] at h7
                  rw [h7]
                  exact ⟨rfl, H1r.out⟩
              · rw [szT_snoc1, List.length_append]
                have h8 := szR_bound Hl6.out
                have h9 := HszT.out
                simp only [List.length_cons, List.length_nil]
                omega
              · rw [List.length_append]
                simp only [List.length_cons, List.length_nil]
                omega
              · exact Below.trans (Hs2.out.after HsA.out) (Hb3.out.mono Hw0B.out)
              · exact Nat.le_trans HBA.out Hb3.out.size
            case measure =>
              obtain ⟨d0, d1, d2, d3, d4, d5, d6, d7, d8, d9, d10, d11, d12⟩ := arrS_cells HS3.out.1
              rw [HM0.out, stAt_of d9, stAt_of d10, frAt_of d12, ← HMe.out]
              have := E4.out
              cases fr <;> simp at this ⊢ <;> omega
      · have hR0 : R.1 = s ∧ R.2.1 = 1 := by
          rcases heq with h | h
          · exact absurd h.1 hlt
          · exact h.2
        have hr0 := Hrr.out.1
        have hr1 := Hrr.out.2
        rw [if_neg (by omega), hR0.1] at hr0
        rw [decide_eq_false (by omega)] at hr1
        have H0 := Lib.hid hr0
        have H1 := Lib.hid hr1
        have Hb := Lib.hid hb
        clear hr0 hr1 hR0 heq hmem hinv hb
        go_wp2
        go_ret2
        rw [H0.out, H1.out]
        exact ⟨_, rfl, ⟨_, lawIII.mono HO.out HwB.out⟩, by have := HszT.out; show szT s ≤ _; omega, Since.after Hb0.out Hb.out.1⟩
  · have hk : fsOk p n k = false := by unfold fsOk; revert hg; cases prOk p <;> cases netOk n <;> cases inB 1 50 k <;> simp
    obtain ⟨h0, h1⟩ := fs_no hk
    have HW := Lib.hid hW
    have H0 := Lib.hid h0
    have H1 := Lib.hid h1
    clear hW h0 h1
    go_wp2
    go_ret2
    rw [H0.out, H1.out]
    exact ⟨_, _, rfl, ownIII_nil _ _, by simp [szT], Since.after Hb0.out HW.out⟩
end Go.Proofs.YtomnaabadohecaaGreat
