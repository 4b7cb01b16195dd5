/- Parts of the proof: walks of functions and plain laws. -/
import Derived.Test.YtomnaabadohecaaGreatP18
import Derived.Test.YtomnaabadohecaaGreatP14
import Derived.Deep.CutRange
namespace Go.Proofs.YtomnaabadohecaaGreat
open Go.RowKit
/-! the search: what a step does to the memory -/
theorem SolM.keepB {w w' : World} {sb : Nat} {vs : Array Value} {l : List (List Int)} {ports : List (Int × Int)} {ul uf : Value} {SL : List Nat} {B : Nat} (h : SolM w sb vs l ports ul uf SL B) (hb : Below w.heap.size w w') : SolM w' sb vs l ports ul uf SL B := by
  obtain ⟨h1, h2, h3, T, h4⟩ := h
  exact ⟨h1.below hb h1.lt, lawII.keep h2 hb, h3, T, lawE.keep h4 hb⟩
theorem SolM.rows {w : World} {sb : Nat} {vs : Array Value} {l : List (List Int)} {ports : List (Int × Int)} {ul uf : Value} {SL : List Nat} {B : Nat} (h : SolM w sb vs l ports ul uf SL B) : IntSS w ul l := by
  obtain ⟨-, h2, -⟩ := h
  exact h2.read
theorem SolM.field {w : World} {sb : Nat} {vs : Array Value} {l : List (List Int)} {ports : List (Int × Int)} {ul uf : Value} {SL : List Nat} {B : Nat} (h : SolM w sb vs l ports ul uf SL B) (hB : B ≤ sb) (i : Nat) (u : Value) :
    SolM (w.setCell ⟨sb, i, none⟩ u) sb (vs.setIfInBounds i u) l ports ul uf SL B ∧ Below B w (w.setCell ⟨sb, i, none⟩ u) ∧ Only (sb :: SL) w (w.setCell ⟨sb, i, none⟩ u) := by
  obtain ⟨h1, h2, h3, T, h4⟩ := h
  have hlt := h1.lt
  refine ⟨⟨h1.put i u, lawII.stable h2 fun k hk => Below.heap_setCell _ _ _ k (by have := h3 k hk; show k ≠ sb; omega), h3, T, RowLaw.put lawE h4 (by show sb < sb + 1; omega) u⟩, (Below.refl _ _).setCell (show B ≤ sb from hB) u, (Only.refl _ _).setCell (.inl (by simp)) u⟩
theorem SolM.label {w : World} {sb : Nat} {vs : Array Value} {l : List (List Int)} {ports : List (Int × Int)} {ul uf : Value} {SL : List Nat} {B : Nat} (h : SolM w sb vs l ports ul uf SL B) {v i : Nat} {row : List Int} {x : Int} (hv : l[v]? = some row) (hi : row[i]? = some x) :
    ∃ gl cl gr cr, ul = .slice (some ⟨gl, 0, none⟩) l.length cl ∧ w.cell? ⟨gl, v, none⟩ = some (.slice (some ⟨gr, 0, none⟩) row.length cr) ∧ w.cell? ⟨gr, i, none⟩ = some (.int .i64 x) ∧ w.frozen? ⟨gr, i, none⟩ = false ∧ gr ∈ SL ∧
      ∀ y, SolM (w.setCell ⟨gr, i, none⟩ (.int .i64 y)) sb vs (putB l ((v : Int), (i : Int)) y) ports ul uf SL B ∧ Below B w (w.setCell ⟨gr, i, none⟩ (.int .i64 y)) ∧ Only (sb :: SL) w (w.setCell ⟨gr, i, none⟩ (.int .i64 y)) := by
  obtain ⟨h1, h2, h3, T4, h4⟩ := h
  have hr := h2.read
  obtain ⟨AL, cl, rfl, hcl, -, -⟩ := hr
  have hsome : ∃ gl, AL = some ⟨gl, 0, none⟩ := by
    obtain ⟨vs', Ss, r1, -⟩ := h2
    rcases ownsRow_cases r1 with ⟨e, h0⟩ | ⟨g, c, e, -⟩
    · have := lt_of_get hv; omega
    · cases e; exact ⟨g, rfl⟩
  obtain ⟨gl, rfl⟩ := hsome
  obtain ⟨u, T, c1, hu, hT, hup⟩ := OwnRows.touch lawI h2 hv
  obtain ⟨huo, hTe⟩ := hu
  rcases huo.cases with ⟨rfl, h0⟩ | ⟨gr, cr, rfl, hg1, hg2⟩
  · subst h0; simp at hi
  · have hgT : gr ∈ T := by rw [hTe]; simp [Value.ownBlock]
    have hgS := hT gr hgT
    have hgsb := h3 gr hgS
    refine ⟨gl, cl, gr, cr, rfl, c1, huo.cell hi, huo.free i, hgS, fun y => ?_⟩
    have hon : Only T w (w.setCell ⟨gr, i, none⟩ (.int .i64 y)) := (Only.refl _ _).setCell (.inl hgT) _
    have hn := hup (row.set i y) _ ⟨by have := huo.set (k := i) y; simpa using this, hTe⟩ hon
    refine ⟨⟨h1.set (by show gr ≠ sb; omega), ?_, h3, T4, RowLaw.put lawE h4 (by show gr < sb + 1; omega) _⟩, (Below.refl _ _).setCell (show B ≤ gr from (lawII.range h2 gr hgS).1) _, (Only.refl _ _).setCell (.inl (List.mem_cons_of_mem _ hgS)) _⟩
    unfold putB
    simp only [Int.toNat_natCast]
    rw [getD_of hv]
    have e : (l.set v (row.set i y)).length = l.length := List.length_set
    exact hn
theorem arrI_cells {W : World} {sb : Nat} {p : Prob} {pa pb va vb vc ul uf : Value} {st : Int} (h : BoxA W sb (arrI p pa pb va vb vc ul uf st)) : W.cell? ⟨sb, 0, none⟩ = some (.int .i64 p.labels) ∧ W.cell? ⟨sb, 1, none⟩ = some (.int .i64 p.degree) ∧ W.cell? ⟨sb, 2, none⟩ = some (pa) ∧ W.cell? ⟨sb, 3, none⟩ = some (pb) ∧ W.cell? ⟨sb, 4, none⟩ = some (va) ∧ W.cell? ⟨sb, 5, none⟩ = some (vb) ∧ W.cell? ⟨sb, 6, none⟩ = some (vc) ∧ W.cell? ⟨sb, 7, none⟩ = some (ul) ∧ W.cell? ⟨sb, 8, none⟩ = some (uf) ∧ W.cell? ⟨sb, 9, none⟩ = some (.int .i64 st) :=
  ⟨(h.cell 0 _ rfl).1, (h.cell 1 _ rfl).1, (h.cell 2 _ rfl).1, (h.cell 3 _ rfl).1, (h.cell 4 _ rfl).1, (h.cell 5 _ rfl).1, (h.cell 6 _ rfl).1, (h.cell 7 _ rfl).1, (h.cell 8 _ rfl).1, (h.cell 9 _ rfl).1⟩
theorem arrS_cells {W : World} {sb : Nat} {p : Prob} {pa pb va vb vc ul uf : Value} {i st most : Int} {fr : Bool} (h : BoxA W sb (arrS p pa pb va vb vc ul uf i st most fr)) : W.cell? ⟨sb, 0, none⟩ = some (.int .i64 p.labels) ∧ W.cell? ⟨sb, 1, none⟩ = some (.int .i64 p.degree) ∧ W.cell? ⟨sb, 2, none⟩ = some (pa) ∧ W.cell? ⟨sb, 3, none⟩ = some (pb) ∧ W.cell? ⟨sb, 4, none⟩ = some (va) ∧ W.cell? ⟨sb, 5, none⟩ = some (vb) ∧ W.cell? ⟨sb, 6, none⟩ = some (vc) ∧ W.cell? ⟨sb, 7, none⟩ = some (ul) ∧ W.cell? ⟨sb, 8, none⟩ = some (uf) ∧ W.cell? ⟨sb, 9, none⟩ = some (.int .i64 i) ∧ W.cell? ⟨sb, 10, none⟩ = some (.int .i64 st) ∧ W.cell? ⟨sb, 11, none⟩ = some (.int .i64 most) ∧ W.cell? ⟨sb, 12, none⟩ = some (.bool fr) :=
  ⟨(h.cell 0 _ rfl).1, (h.cell 1 _ rfl).1, (h.cell 2 _ rfl).1, (h.cell 3 _ rfl).1, (h.cell 4 _ rfl).1, (h.cell 5 _ rfl).1, (h.cell 6 _ rfl).1, (h.cell 7 _ rfl).1, (h.cell 8 _ rfl).1, (h.cell 9 _ rfl).1, (h.cell 10 _ rfl).1, (h.cell 11 _ rfl).1, (h.cell 12 _ rfl).1⟩
/-- labels of a search -/
def InR (hi : Int) (l : List (List Int)) : Prop := ∀ (v : Nat) (row : List Int) (i : Nat) (x : Int), l[v]? = some row → row[i]? = some x → -1 ≤ x ∧ x ≤ hi
theorem putB_get {l : List (List Int)} {v i : Nat} {row : List Int} {y : Int} (hv : l[v]? = some row) (hi : i < row.length) :
    (putB l ((v : Int), (i : Int)) y)[v]? = some (row.set i y) ∧ ∀ k, k ≠ v → (putB l ((v : Int), (i : Int)) y)[k]? = l[k]? := by
  unfold putB
  simp only [Int.toNat_natCast]
  rw [getD_of hv]
  exact ⟨List.getElem?_set_self (lt_of_get hv), fun k hk => List.getElem?_set_ne (Ne.symm hk)⟩
theorem putB_inr {l : List (List Int)} {v i : Nat} {row : List Int} {y hi : Int} (h : InR hi l) (hv : l[v]? = some row) (hil : i < row.length) (hy : -1 ≤ y ∧ y ≤ hi) : InR hi (putB l ((v : Int), (i : Int)) y) := by
  obtain ⟨p1, p2⟩ := putB_get (y := y) hv hil
  intro k r j x hk hj
  by_cases hkv : k = v
  · subst hkv
    rw [p1] at hk
    cases hk
    by_cases hji : j = i
    · subst hji
      rw [List.getElem?_set_self hil] at hj
      cases hj; exact hy
    · rw [List.getElem?_set_ne (Ne.symm hji)] at hj
      exact h k row j x hv hj
  · rw [p2 k hkv] at hk
    exact h k r j x hk hj
theorem putB_len (l : List (List Int)) (e : Int × Int) (y : Int) : (putB l e y).length = l.length := by unfold putB; simp
theorem putB_shape {ess : List (List (Int × Int))} {l : List (List Int)} {v i : Nat} {row : List Int} {y : Int} (h : Shape ess l) (hv : l[v]? = some row) (hil : i < row.length) : Shape ess (putB l ((v : Int), (i : Int)) y) := by
  obtain ⟨p1, p2⟩ := putB_get (y := y) hv hil
  refine ⟨by rw [putB_len]; exact h.1, fun k es r hes hk => ?_⟩
  by_cases hkv : k = v
  · subst hkv
    rw [p1] at hk
    cases hk
    rw [List.length_set]
    exact h.2 k es row hes hv
  · rw [p2 k hkv] at hk
    exact h.2 k es r hes hk
/-- a port that is free lies in the network -/
def PortsIn (ess : List (List (Int × Int))) (ports : List (Int × Int)) : Prop := ∀ (k : Nat) (e : Int × Int), ports[k]? = some e → ∃ (v i : Nat) (es : List (Int × Int)), e = ((v : Int), (i : Int)) ∧ ess[v]? = some es ∧ i < es.length
theorem mem_freeU {l : List (List Int)} {k : Nat} {e : Int × Int} (h : e ∈ freeU l k) : ∃ (v i : Nat) (row : List Int), e = ((v : Int), (i : Int)) ∧ v < k ∧ l.getD v [] = row ∧ i < row.length := by
  unfold freeU at h
  rw [List.mem_flatMap] at h
  obtain ⟨v, hv, he⟩ := h
  unfold freeR at he
  rw [List.mem_map] at he
  obtain ⟨i, hi, rfl⟩ := he
  rw [List.mem_filter] at hi
  exact ⟨v, i, _, rfl, List.mem_range.1 hv, rfl, List.mem_range.1 hi.1⟩
theorem freeP_in {ess : List (List (Int × Int))} {l : List (List Int)} (h : Shape ess l) : PortsIn ess (freeP l) := by
  intro k e hk
  obtain ⟨v, i, row, rfl, hv, hr, hi⟩ := mem_freeU (List.mem_of_getElem? hk)
  obtain ⟨row', hrow⟩ := getx l v hv
  rw [getD_of hrow] at hr
  subst hr
  obtain ⟨es, hes⟩ := getx ess v (by rw [← h.1]; exact hv)
  exact ⟨v, i, es, rfl, hes, by rw [← h.2 v es row' hes hrow]; exact hi⟩
/-- the steps in memory -/
def stAt (w : World) (b i : Nat) : Int := match w.cell? ⟨b, i, none⟩ with | some (.int .i64 z) => z | _ => 0
theorem stAt_of {w : World} {b i : Nat} {z : Int} (h : w.cell? ⟨b, i, none⟩ = some (.int .i64 z)) : stAt w b i = z := by unfold stAt; rw [h]
theorem end_at {w : World} {base : Nat} {uf : Value} {ports : List (Int × Int)} {T : List Nat} (h : OwnE w base uf ports T) : ∃ A c, uf = .slice A ports.length c ∧ ports.length ≤ c ∧ c ≤ maxLen ∧ ∀ (k : Nat) (e : Int × Int), ports[k]? = some e → ∃ b off, A = some ⟨b, off, none⟩ ∧ w.cell? ⟨b, off + k * 2, none⟩ = some (.int .i64 e.1) ∧ w.cell? ⟨b, off + k * 2 + 1, none⟩ = some (.int .i64 e.2) := by
  obtain ⟨A, c, rfl, h1, h2, h3⟩ := h.read
  exact ⟨A, c, rfl, h1, h2, h3⟩
theorem SolM.rowAt {w : World} {sb : Nat} {vs : Array Value} {l : List (List Int)} {ports : List (Int × Int)} {A : Option Addr} {k c : Nat} {uf : Value} {SL : List Nat} {B : Nat} (h : SolM w sb vs l ports (.slice A k c) uf SL B) {v : Nat} {row : List Int} (hv : l[v]? = some row) :
    ∃ b off u, A = some ⟨b, off, none⟩ ∧ w.cell? ⟨b, off + v, none⟩ = some u ∧ IntS w u row := by
  obtain ⟨A', c', e, -, -, hA⟩ := h.rows
  injection e with e1 e2 e3
  subst e1
  obtain ⟨b, off, u, h1, h2, h3⟩ := hA v row hv
  exact ⟨b, off, u, h1, h2, h3⟩
theorem SolM.labelAt {w : World} {sb : Nat} {vs : Array Value} {l : List (List Int)} {ports : List (Int × Int)} {uf : Value} {SL : List Nat} {B gl gr k cl m cr : Nat} (h : SolM w sb vs l ports (.slice (some ⟨gl, 0, none⟩) k cl) uf SL B) {v i : Nat} {row : List Int} {x : Int} (hv : l[v]? = some row) (hi : row[i]? = some x)
    (hc : w.cell? ⟨gl, v, none⟩ = some (.slice (some ⟨gr, 0, none⟩) m cr)) : w.cell? ⟨gr, i, none⟩ = some (.int .i64 x) ∧ w.frozen? ⟨gr, i, none⟩ = false ∧ gr ∈ SL ∧
      ∀ y, SolM (w.setCell ⟨gr, i, none⟩ (.int .i64 y)) sb vs (putB l ((v : Int), (i : Int)) y) ports (.slice (some ⟨gl, 0, none⟩) k cl) uf SL B ∧ Below B w (w.setCell ⟨gr, i, none⟩ (.int .i64 y)) ∧ Only (sb :: SL) w (w.setCell ⟨gr, i, none⟩ (.int .i64 y)) := by
  obtain ⟨gl', cl', gr', cr', e, h1, h2, h3, h4, h5⟩ := h.label hv hi
  simp only [Value.slice.injEq, Option.some.injEq, Addr.mk.injEq, and_true] at e
  obtain ⟨rfl, -, -⟩ := e
  rw [h1] at hc
  simp only [Option.some.injEq, Value.slice.injEq, Addr.mk.injEq, and_true] at hc
  obtain ⟨rfl, -, -⟩ := hc
  exact ⟨h2, h3, h4, h5⟩
section
variable (p : Prob) (ends : List (List (Int × Int))) (ports : List (Int × Int)) (most : Int) (F : Nat) {l : List (List Int)} {q v i : Nat} {st : Int} {row : List Int} {x : Int}
theorem cellB_at (hv : l[v]? = some row) (hi : row[i]? = some x) : cellB l ((v : Int), (i : Int)) = x := by
  unfold cellB
  simp only [Int.toNat_natCast]
  rw [getD_of hv, getD_of hi]
theorem soAll_at {σ : Type} (nx : σ → List (List Int) → Bool × σ) (s : σ) (hq : ports[q]? = some ((v : Int), (i : Int))) (hv : l[v]? = some row) (hi : row[i]? = some x) (hst : st ≤ most) (hf : soMeas most q st ≤ F) :
    soAll nx p ends ports most F s l q st = (if x = p.labels - 1 then soAll nx p ends ports most F s (putB l ((v : Int), (i : Int)) (-1)) ((q : Int) - 1) st
      else if st = most then (s, 3, l, (q : Int), st)
      else if (nodeB p (row.set i (x + 1)) && portB p ends (putB l ((v : Int), (i : Int)) (x + 1)) ((v : Int), (i : Int))) = true then soAll nx p ends ports most F s (putB l ((v : Int), (i : Int)) (x + 1)) ((q : Int) + 1) (st + 1)
      else soAll nx p ends ports most F s (putB l ((v : Int), (i : Int)) (x + 1)) q (st + 1)) := by
  have hql := lt_of_get hq
  rw [soAll_step nx p ends ports most F s l q st hst (by omega) hf, if_neg (by omega), if_neg (by omega)]
  simp only [Int.toNat_natCast, getD_of hq, cellB_at hv hi]
  rw [getD_of (putB_get (y := x + 1) hv (lt_of_get hi)).1]
theorem soGo_at (hq : ports[q]? = some ((v : Int), (i : Int))) (hv : l[v]? = some row) (hi : row[i]? = some x) (hst : st ≤ most) (hf : soMeas most q st ≤ F) :
    soGo p ends ports most F l q st = (if x = p.labels - 1 then soGo p ends ports most F (putB l ((v : Int), (i : Int)) (-1)) ((q : Int) - 1) st
      else if st = most then (3, l, (q : Int), st)
      else if (nodeB p (row.set i (x + 1)) && portB p ends (putB l ((v : Int), (i : Int)) (x + 1)) ((v : Int), (i : Int))) = true then soGo p ends ports most F (putB l ((v : Int), (i : Int)) (x + 1)) ((q : Int) + 1) (st + 1)
      else soGo p ends ports most F (putB l ((v : Int), (i : Int)) (x + 1)) q (st + 1)) := by
  have hql := lt_of_get hq
  rw [soGo_step p ends ports most F l q st hst (by omega) hf, if_neg (by omega), if_neg (by omega)]
  simp only [Int.toNat_natCast, getD_of hq, cellB_at hv hi]
  rw [getD_of (putB_get (y := x + 1) hv (lt_of_get hi)).1]
end
end Go.Proofs.YtomnaabadohecaaGreat
namespace Go.Proofs.YtomnaabadohecaaGreat
open Go.RowKit
/-! the program's search -/
theorem node_put {p : Prob} {l : List (List Int)} {v i : Nat} {row : List Int} {y : Int} (hv : l[v]? = some row) (hi : i < row.length) : (putB l ((v : Int), (i : Int)) y).getD (((v : Int), (i : Int)) : Int × Int).1.toNat [] = row.set i y := by
  simp only [Int.toNat_natCast]
  exact getD_of (putB_get hv hi).1
def soR {σ : Type} (nx : σ → List (List Int) → Bool × σ) (p : Prob) (ends : List (List (Int × Int))) (ports : List (Int × Int)) (most : Int) (s : σ) (l : List (List Int)) : σ × SoR :=
  if holdsB p ends l = true then soAll nx p ends ports most (soMeas most 0 0) s l 0 0 else (s, 2, l, 0, 0)
set_option maxRecDepth 100000 in
set_option maxHeartbeats 16000000 in
theorem run_any {σ : Type} (nx : σ → List (List Int) → Bool × σ) (J : σ → World → Prop) (fid : FuncId) (caps : Array Value) (p : Prob) (n : Net) (pa pb va vb vc ul uf : Value) (sb : Nat) (SL : List Nat) (B : Nat) (ports : List (Int × Int)) (most : Int) (s0 : σ) (l0 : List (List Int)) (w : World)
    (henter : ∀ args w, (callFunc fid args).run Tryz.prog w = .ok (.enter fid args) w) (hBs : B ≤ sb)
    (hPp : ∀ X, Below B w X → PrIn X pa pb p) (hNn : ∀ X, Below B w X → NetIn X va vb vc n) (hJk : ∀ s W W', J s W → Only (sb :: SL) W W' → J s W')
    (hcl : ∀ s l st W, Below B w W → SolM W sb (arrI p pa pb va vb vc ul uf st) l ports ul uf SL B → J s W → Calls Tryz.prog fid caps W fun e W' => e = .returned (.bool (nx s l).1) ∧ J (nx s l).2 W' ∧ SolM W' sb (arrI p pa pb va vb vc ul uf st) l ports ul uf SL B ∧ Below B W W')
    (hS : SolM w sb (arrI p pa pb va vb vc ul uf 0) l0 ports ul uf SL B) (hJ : J s0 w) (hn : netOk n = true) (hst : Strict p.edges) (hel : p.edges.length ≤ 1048576) (hlab : 1 ≤ p.labels ∧ p.labels ≤ 8) (hsh : Shape n.ends l0) (hin : InR (p.labels - 1) l0) (hpo : PortsIn n.ends ports) (hpl : ports.length ≤ 1000) (hmo : 0 ≤ most ∧ most ≤ 200000)
    (hr6 : ∀ (v : Nat) (es : List (Int × Int)), n.ends[v]? = some es → es.length ≤ 6) :
    Calls Tryz.prog 102 #[.pointer (some ⟨sb, 0, none⟩), .int .i64 most, .func (.func fid) #[] caps] w fun e w' =>
      e = .returned (.int .i64 (soR nx p n.ends ports most s0 l0).2.1) ∧ SolM w' sb (arrI p pa pb va vb vc ul uf (soR nx p n.ends ports most s0 l0).2.2.2.2) (soR nx p n.ends ports most s0 l0).2.2.1 ports ul uf SL B ∧ J (soR nx p n.ends ports most s0 l0).1 w' ∧ Below B w w' := by
  have hBw : B ≤ w.heap.size := Nat.le_trans hBs (Nat.le_of_lt hS.1.lt)
  obtain ⟨A5, c5, hul, -⟩ := id hS.2.1.read
  obtain ⟨TE, hTE⟩ := hS.2.2.2
  obtain ⟨A6, c6, huf, -, -, -⟩ := end_at hTE
  obtain ⟨A1, c1, hpa, -⟩ := id (hPp w (Below.refl _ _)).1
  obtain ⟨A2, c2, hpb, -⟩ := id (hPp w (Below.refl _ _)).2
  obtain ⟨A3, c3, hva, -⟩ := id (hNn w (Below.refl _ _)).1
  obtain ⟨A4, c4, hvb, -⟩ := id (hNn w (Below.refl _ _)).2.1
  obtain ⟨A7, c7, hvc, -⟩ := id (hNn w (Below.refl _ _)).2.2
  subst hul huf hpa hpb hva hvb hvc
  have hwl : IntKind.i64.wrap (p.labels - 1) = p.labels - 1 := wr64 _ (by omega) (by omega)
  have eg := henter
  have HPp := Lib.hid hPp
  have HNn := Lib.hid hNn
  have HJk := Lib.hid hJk
  have Hcl := Lib.hid hcl
  have HS := Lib.hid hS
  have HJ := Lib.hid hJ
  have Hst := Lib.hid hst
  have Hsh := Lib.hid hsh
  have Hin := Lib.hid hin
  have Hpo := Lib.hid hpo
  have Hr6 := Lib.hid hr6
  have hrl : Hid (∀ (v : Nat) (row : List Int), l0[v]? = some row → row.length ≤ 1000000) := fun v row hv => by
    obtain ⟨es, hes⟩ := getx n.ends v (by rw [← hsh.1]; exact lt_of_get hv)
    have := hsh.2 v es row hes hv
    have := hr6 v es hes
    omega
  obtain ⟨k0, k1, k2, k3, k4, k5, k6, k7, -, -⟩ := arrI_cells hS.1
  replace k0 := have_cell k0
  replace k1 := have_cell k1
  replace k2 := have_cell k2
  replace k3 := have_cell k3
  replace k4 := have_cell k4
  replace k5 := have_cell k5
  replace k6 := have_cell k6
  replace k7 := have_cell k7
  clear hPp hNn hJk hcl hS hJ hst hsh hin hpo hr6 hTE henter
  obtain ⟨hB0, hhB⟩ : ∃ b, holdsB p n.ends l0 = b := ⟨_, rfl⟩
  have HhB := Lib.hid hhB
  clear hhB
  obtain ⟨R, hR⟩ : ∃ R, soR nx p n.ends ports most s0 l0 = R := ⟨_, rfl⟩
  have HR := Lib.hid hR
  rw [hR]
  clear hR
  go_enter Tryz.func102, Tryz.ntmps102
  go_upto_region 1 with (fail)
  refine wp_region_flow 14 (Since w) (by kernel_rfl) (by kernel_rfl) (by simp) (since_drew (since_refl _)) ?_
  simp only [List.take_succ_cons, List.take_zero, List.drop_succ_cons, List.drop_zero]
  refine flow_val (v := ?_) rfl ?_ ?_; rotate_left; (intro W hW; go_simp; with_reducible rfl)
  simp only [Act.put, List.setIfInBounds_toArray, List.set_cons_succ, List.set_cons_zero]
  refine flow_val (v := ?_) rfl ?_ ?_; rotate_left; (intro W hW; go_simp; with_reducible rfl)
  simp only [Act.put, List.setIfInBounds_toArray, List.set_cons_succ, List.set_cons_zero]
  refine flow_val (v := ?_) rfl ?_ ?_; rotate_left; (intro W hW; go_simp; with_reducible rfl)
  simp only [Act.put, List.setIfInBounds_toArray, List.set_cons_succ, List.set_cons_zero]
  refine flow_val (v := ?_) rfl ?_ ?_; rotate_left; (intro W hW; go_simp; with_reducible rfl)
  simp only [Act.put, List.setIfInBounds_toArray, List.set_cons_succ, List.set_cons_zero]
  refine flow_val (v := ?_) rfl ?_ ?_; rotate_left; (intro W hW; go_simp; with_reducible rfl)
  simp only [Act.put, List.setIfInBounds_toArray, List.set_cons_succ, List.set_cons_zero]
  refine flow_val (v := ?_) rfl ?_ ?_; rotate_left; (intro W hW; go_simp; with_reducible rfl)
  simp only [Act.put, List.setIfInBounds_toArray, List.set_cons_succ, List.set_cons_zero]
  refine flow_val (v := ?_) rfl ?_ ?_; rotate_left; (intro W hW; go_simp; with_reducible rfl)
  simp only [Act.put, List.setIfInBounds_toArray, List.set_cons_succ, List.set_cons_zero]
  refine flow_val (v := ?_) rfl ?_ ?_; rotate_left; (intro W hW; go_simp; with_reducible rfl)
  simp only [Act.put, List.setIfInBounds_toArray, List.set_cons_succ, List.set_cons_zero]
  refine flow_val (v := ?_) rfl ?_ ?_; rotate_left; (intro W hW; go_simp; with_reducible rfl)
  simp only [Act.put, List.setIfInBounds_toArray, List.set_cons_succ, List.set_cons_zero]
  refine flow_val (v := ?_) rfl ?_ ?_; rotate_left; (intro W hW; go_simp; with_reducible rfl)
  simp only [Act.put, List.setIfInBounds_toArray, List.set_cons_succ, List.set_cons_zero]
  refine flow_val (v := ?_) rfl ?_ ?_; rotate_left; (intro W hW; go_simp; with_reducible rfl)
  simp only [Act.put, List.setIfInBounds_toArray, List.set_cons_succ, List.set_cons_zero]
  refine flow_val (v := ?_) rfl ?_ ?_; rotate_left; (intro W hW; go_simp; with_reducible rfl)
  simp only [Act.put, List.setIfInBounds_toArray, List.set_cons_succ, List.set_cons_zero]
  refine flow_op ?_ rfl ?_ ?_; rotate_left; (intro W hW; unfold Gives; go_simp; (with_reducible refine (holds_any _ _ _ _ _ _ p n l0 W (HPp.out W (hW.below.mono hBw)) (HNn.out W (hW.below.mono hBw)) (HS.out.keepB hW.below).rows hn Hsh.out Hst.out hel hrl.out).mono ?_); rintro e W' ⟨rfl, hb3⟩; first | (refine ⟨?_, Since.trans hW hb3⟩; with_reducible rfl) | (subst hb3; refine ⟨?_, hW⟩; with_reducible rfl))
  simp only [Act.put, List.setIfInBounds_toArray, List.set_cons_succ, List.set_cons_zero]
  refine flow_val (v := ?_) rfl ?_ ?_; rotate_left; (intro W hW; go_simp; with_reducible rfl)
  simp only [Act.put, List.setIfInBounds_toArray, List.set_cons_succ, List.set_cons_zero]
  intro W hW
  have HW := Lib.hid hW
  clear hW k0 k1 k2 k3 k4 k5 k6 k7
  rw [HhB.out]
  cases hB0
  · have hRe : Hid (R = (s0, 2, l0, 0, 0)) := by show _ = _; rw [← HR.out]; unfold soR; rw [if_neg (by rw [HhB.out]; simp)]
    go_wp2
    go_ret
    rw [hRe.out]
    exact ⟨rfl, HS.out.keepB HW.out.below, HJk.out _ _ _ HJ.out (Only.of_below HW.out.below), HW.out.below.mono hBw⟩
  · obtain ⟨F, hF⟩ : ∃ F, F = soMeas most 0 0 := ⟨_, rfl⟩
    have hRe : Hid (R = soAll nx p n.ends ports most F s0 l0 0 0) := by show _ = _; rw [← HR.out, hF]; unfold soR; rw [if_pos HhB.out]
    have hF0 : Hid (soMeas most 0 0 ≤ F) := by show _ ≤ _; rw [hF]; exact Nat.le_refl _
    clear hF
    obtain ⟨gU, hgU⟩ : ∃ z, z = sb := ⟨_, rfl⟩
    have HgU := Lib.hid hgU
    clear hgU
    go_wp2
    go_loopw [7] (fun a wr => ∃ (s : σ) (l : List (List Int)) (pos st : Int), a = .int .i64 pos ∧ -1 ≤ pos ∧ pos ≤ ports.length ∧ 0 ≤ st ∧ st ≤ most ∧ (R = soAll nx p n.ends ports most F s l pos st ∧ soMeas most pos st ≤ F) ∧ (SolM wr sb (arrI p (.slice A1 p.nodes.length c1) (.slice A2 p.edges.length c2) (.slice A3 n.ends.length c3) (.slice A4 n.ids.length c4) (.slice A7 n.inputs.length c7) (.slice A5 l0.length c5) (.slice A6 ports.length c6) st) l ports (.slice A5 l0.length c5) (.slice A6 ports.length c6) SL B ∧ J s wr) ∧ (Shape n.ends l ∧ InR (p.labels - 1) l) ∧ Below B w wr) (fun a wr => soMeas most (intOf a) (stAt wr sb 9))
    case atStart => exact ⟨s0, l0, 0, 0, rfl, by omega, by omega, by omega, hmo.1, ⟨hRe.out, hF0.out⟩, ⟨HS.out.keepB HW.out.below, HJk.out _ _ _ HJ.out (Only.of_below HW.out.below)⟩, ⟨Hsh.out, Hin.out⟩, HW.out.below.mono hBw⟩
    case round =>
      obtain ⟨s, l, pos, st, rfl, hp1, hp2, hs1, hs2, heq, hmem, hinv, hb⟩ := hrel
      have Heq := Lib.hid heq
      have Hmem := Lib.hid hmem
      have Hinv := Lib.hid hinv
      have Hb := Lib.hid hb
      obtain ⟨d0, d1, d2, d3, d4, d5, d6, d7, d8, d9⟩ := arrI_cells hmem.1.1
      have hme : Hid (stAt wr sb 9 = st) := stAt_of d9
      have Hst0 : Hid (st = stAt wr sb 9) := hme.out.symm
      have Hlen0 : Hid (l0.length = l.length) := by show _ = _; have h1 := hmem.1.rows; obtain ⟨_, _, e, -⟩ := h1; simp only [Value.slice.injEq] at e; exact e.2.1
      clear heq hmem hinv hb d0 d1 d2 d3 d4 d5 d6 d7 d9
      have HFm : Hid (soMeas most pos st ≤ F) := Heq.out.2
      obtain ⟨M0, hM0⟩ : ∃ z, soMeas most (intOf (Value.int .i64 pos)) (stAt wr sb 9) = z := ⟨_, rfl⟩
      have HM0 := Lib.hid hM0
      have HMe : Hid (soMeas most pos st = M0) := by show _ = _; rw [← hM0, hme.out]; rfl
      clear hM0
      go_upto_if 30 with (fail)
      go_cut [7] from 24 to 121 (fun a wx => ∃ (s1 : σ) (pos1 : Int), a = .int .i64 pos1 ∧ -1 ≤ pos1 ∧ pos1 < ports.length ∧ soMeas most pos1 st ≤ M0 ∧ R = soAll nx p n.ends ports most F s1 l pos1 st ∧ (SolM wx sb (arrI p (.slice A1 p.nodes.length c1) (.slice A2 p.edges.length c2) (.slice A3 n.ends.length c3) (.slice A4 n.ids.length c4) (.slice A7 n.inputs.length c7) (.slice A5 l0.length c5) (.slice A6 ports.length c6) st) l ports (.slice A5 l0.length c5) (.slice A6 ports.length c6) SL B ∧ J s1 wx) ∧ Below B w wx)
      case first =>
        by_cases hlen : pos = ports.length
        · have hbe : (pos == (ports.length : Int)) = true := by simpa using hlen
          have hstep := Lib.hid (soAll_step nx p n.ends ports most F s l pos st hs2 hp1 Heq.out.2)
          have hcall := Lib.hid (Hcl.out s l st wr Hb.out Hmem.out.1 Hmem.out.2)
          obtain ⟨bo, hbo⟩ : ∃ b, (nx s l).1 = b := ⟨_, rfl⟩
          have Hbo := Lib.hid hbo
          obtain ⟨s1, hs1e⟩ : ∃ x, (nx s l).2 = x := ⟨_, rfl⟩
          have Hs1 := Lib.hid hs1e
          have hRb : Hid (∀ b, (nx s l).1 = b → R = if b = true then soAll nx p n.ends ports most F s1 l (pos - 1) st else (s1, 1, l, pos, st)) := by
            intro b hb
            rw [Heq.out.1, hstep.out, if_neg (by omega), if_pos hlen, hb, Hs1.out]
          obtain ⟨pos1, hpos1⟩ : ∃ z, pos - 1 = z := ⟨_, rfl⟩
          have wp1 : IntKind.i64.wrap (pos - 1) = pos1 := by rw [wr64 _ (by omega) (by omega)]; exact hpos1
          have hq1 : -1 ≤ pos1 := by omega
          have hq2 : pos1 < ports.length := by omega
          have Hle : Hid (soMeas most pos1 st ≤ M0) := by show _ ≤ _; rw [← HMe.out]; unfold soMeas; omega
          have HF1 : Hid (soMeas most pos1 st ≤ F) := by show _ ≤ _; have := Hle.out; rw [← HMe.out] at this; exact Nat.le_trans this HFm.out
          have Hp1 := Lib.hid hpos1
          clear hbo hs1e hlen hpos1 hp1 hp2 hstep
          go_wp2_with fail
          refine hcall.out.mono ?_
          rw [Hbo.out, Hs1.out]
          rintro e w1 ⟨rfl, hJ1, hS1, hb1⟩
          have Hm1 := Lib.hid (And.intro hS1 hJ1)
          have Hb1 := Lib.hid (Hb.out.trans hb1)
          clear hJ1 hS1 hb1
          cases bo
          · have hRR : Hid (R = (s1, 1, l, pos, st)) := by show _ = _; rw [hRb.out false Hbo.out, if_neg (by simp)]
            go_wp2
            go_ret
            rw [hRR.out]
            exact ⟨rfl, Hm1.out.1, Hm1.out.2, Hb1.out⟩
          have Hx1 : Hid (R = soAll nx p n.ends ports most F s1 l pos1 st) := by show _ = _; rw [hRb.out true Hbo.out, if_pos rfl, Hp1.out]
          go_wp2
          go_meet
          case rel => exact ⟨s1, pos1, rfl, hq1, hq2, Hle.out, Hx1.out, Hm1.out, Hb1.out⟩
        · have hbe : (pos == (ports.length : Int)) = false := by simpa using hlen
          have hq2 : pos < ports.length := by omega
          clear hlen
          go_wp2
          go_meet
          case rel => exact ⟨s, pos, rfl, hp1, hq2, by rw [← HMe.out]; exact Nat.le_refl _, Heq.out.1, Hmem.out, Hb.out⟩
      case rest =>
        obtain ⟨s1, pos1, rfl, hq1, hq2, hle, hx1, hm1, hb1⟩ := hcut
        obtain ⟨w1, hw1⟩ : ∃ z, z = wc := ⟨_, rfl⟩
        have Hle : Hid (soMeas most pos1 st ≤ M0) := hle
        have HF1 : Hid (soMeas most pos1 st ≤ F) := by show _ ≤ _; rw [← HMe.out] at hle; exact Nat.le_trans hle HFm.out
        have Hx1 := Lib.hid hx1
        have Hm1 := Lib.hid hm1
        have Hb1 := Lib.hid hb1
        clear hle hx1 hm1 hb1 hw1 w1 d8 hp1 hp2
        by_cases hneg : pos1 < 0
        · have hRR : Hid (R = (s1, 2, l, pos1, st)) := by show _ = _; rw [Hx1.out, soAll_step nx p n.ends ports most F s1 l pos1 st hs2 hq1 HF1.out, if_pos hneg]
          go_wp2
          go_ret
          rw [hRR.out]
          exact ⟨rfl, Hm1.out.1, Hm1.out.2, Hb1.out⟩
        · obtain ⟨q, rfl⟩ := Int.eq_ofNat_of_zero_le (show 0 ≤ pos1 by omega)
          have hql : q < ports.length := by omega
          obtain ⟨e, he⟩ := getx ports q hql
          obtain ⟨v, i, es, rfl, hes, hie⟩ := Hpo.out q e he
          have hvl : v < l.length := by rw [Hinv.out.1.1]; exact lt_of_get hes
          obtain ⟨row, hrow⟩ := getx l v hvl
          have hre := Hinv.out.1.2 v es row hes hrow
          have hr6 := Hr6.out v es hes
          have hir : i < row.length := by omega
          have hrow6 : row.length ≤ 6 := by omega
          obtain ⟨x, hx⟩ := getx row i hir
          have hxb := Hinv.out.2 v row i x hrow hx
          have Hstep := Lib.hid (soAll_at p n.ends ports most F nx s1 he hrow hx hs2 HF1.out)
          obtain ⟨gl, cl, gr, cr, e5, f1, f2, f3, f4, -⟩ := Hm1.out.1.label hrow hx
          injection e5 with ea eb' ec
          subst ea ec
          obtain ⟨TE1, hTE1⟩ := Hm1.out.1.2.2.2
          obtain ⟨A6', c6', e6, -, -, hA6⟩ := end_at hTE1
          obtain ⟨b6, o6, e7, t1, t2⟩ := hA6 q _ he
          injection e6 with ea6 eb6 ec6
          subst ec6
          rw [← ea6] at e7
          subst e7
          obtain ⟨d0, d1, d2, d3, d4, d5, d6, d7, d8, d9⟩ := arrI_cells Hm1.out.1.1
          have hv0 : v < l0.length := by rw [Hlen0.out]; exact hvl
          have hsw : sb < wc.heap.size := Hm1.out.1.1.lt
          have hgs : gr < sb := Hm1.out.1.2.2.1 gr f4
          have Hrow := Lib.hid hrow
          have Hx := Lib.hid hx
          have Hes := Lib.hid hes
          clear he hes hie hrow hx hre ea6 eb6 eb' hA6 hTE1 f3 hvl d1 d2 d3 d4 d5 d6 hneg hq1 hq2
          go_upto_region 11 with (fail)
          obtain ⟨eb, heb⟩ : ∃ eb, eb = wc.heap.size := ⟨_, rfl⟩
          obtain ⟨w2, hw2⟩ : ∃ w2, w2 = wc.alloc (.cells #[.int .i64 v, .int .i64 i] 114) := ⟨_, rfl⟩
          have hs12 : Since wc w2 := by rw [hw2]; exact since_alloc _ (since_refl _)
          have HE : Hid (BoxA w2 eb #[.int .i64 v, .int .i64 i]) := by rw [heb, hw2]; exact BoxA.new _ _ _
          have hebs : sb < eb := by rw [heb]; exact hsw
          rw [← hw2, ← heb]
          have g0 : ∀ W, Since w2 W → W.cell? ⟨eb, 0, none⟩ = some (.int .i64 v) := have_cell (HE.out.cell 0 _ rfl).1
          have g1 : ∀ W, Since w2 W → W.cell? ⟨eb, 1, none⟩ = some (.int .i64 i) := have_cell (HE.out.cell 1 _ rfl).1
          have l7 := lift_cell (have_cell d7) hs12
          have l1 := lift_cell (have_cell f1) hs12
          have l2 := lift_cell (have_cell f2) hs12
          have l00 := lift_cell (have_cell d0) hs12
          have l9 := lift_cell (have_cell d9) hs12
          have Hs12 := Lib.hid hs12
          clear hw2 heb hs12 d0 d7 d8 d9 f1 f2 t1 t2 hsw
          refine wp_region_flow 12 (Since w2) (by kernel_rfl) (by kernel_rfl) (by simp) (since_drew (since_refl _)) ?_
          simp only [List.take_succ_cons, List.take_zero, List.drop_succ_cons, List.drop_zero]
          refine flow_val (v := ?_) rfl ?_ ?_; rotate_left; (intro W hW; go_simp; with_reducible rfl)
          simp only [Act.put, List.setIfInBounds_toArray, List.set_cons_succ, List.set_cons_zero]
          refine flow_val (v := ?_) rfl ?_ ?_; rotate_left; (intro W hW; go_simp; with_reducible rfl)
          simp only [Act.put, List.setIfInBounds_toArray, List.set_cons_succ, List.set_cons_zero]
          refine flow_val (v := ?_) rfl ?_ ?_; rotate_left; (intro W hW; go_simp; with_reducible rfl)
          simp only [Act.put, List.setIfInBounds_toArray, List.set_cons_succ, List.set_cons_zero]
          refine flow_val (v := ?_) rfl ?_ ?_; rotate_left; (intro W hW; go_simp; with_reducible rfl)
          simp only [Act.put, List.setIfInBounds_toArray, List.set_cons_succ, List.set_cons_zero]
          refine flow_val (v := ?_) rfl ?_ ?_; rotate_left; (intro W hW; go_simp; with_reducible rfl)
          simp only [Act.put, List.setIfInBounds_toArray, List.set_cons_succ, List.set_cons_zero]
          refine flow_val (v := ?_) rfl ?_ ?_; rotate_left; (intro W hW; go_simp; with_reducible rfl)
          simp only [Act.put, List.setIfInBounds_toArray, List.set_cons_succ, List.set_cons_zero]
          refine flow_val (v := ?_) rfl ?_ ?_; rotate_left; (intro W hW; go_simp; with_reducible rfl)
          simp only [Act.put, List.setIfInBounds_toArray, List.set_cons_succ, List.set_cons_zero]
          refine flow_val (v := ?_) rfl ?_ ?_; rotate_left; (intro W hW; go_simp; with_reducible rfl)
          simp only [Act.put, List.setIfInBounds_toArray, List.set_cons_succ, List.set_cons_zero]
          refine flow_val (v := ?_) rfl ?_ ?_; rotate_left; (intro W hW; go_simp; with_reducible rfl)
          simp only [Act.put, List.setIfInBounds_toArray, List.set_cons_succ, List.set_cons_zero]
          refine flow_val (v := ?_) rfl ?_ ?_; rotate_left; (intro W hW; go_simp; with_reducible rfl)
          simp only [Act.put, List.setIfInBounds_toArray, List.set_cons_succ, List.set_cons_zero]
          refine flow_val (v := ?_) rfl ?_ ?_; rotate_left; (intro W hW; go_simp; with_reducible rfl)
          simp only [Act.put, List.setIfInBounds_toArray, List.set_cons_succ, List.set_cons_zero]
          refine flow_val (v := ?_) rfl ?_ ?_; rotate_left; (intro W hW; go_simp; with_reducible rfl)
          simp only [Act.put, List.setIfInBounds_toArray, List.set_cons_succ, List.set_cons_zero]
          intro W3 hW3
          have m2 := lift_cell l2 hW3
          have m00 := lift_cell l00 hW3
          have Hl1 := Lib.hid (lift_cell l1 hW3)
          have Hl9 := Lib.hid (lift_cell l9 hW3)
          have HW3 := Lib.hid hW3
          have Hm00 := Lib.hid m00
          clear g0 g1 l7 l1 l2 l00 l9 hW3
          go_upto_region 12 with (fail)
          by_cases hxe : x = p.labels - 1
          · have hbx : (x == p.labels - 1) = true := by simpa using hxe
            have Hxe := Lib.hid hxe
            clear hxe
            refine wp_region_flow 10 (Since W3) (by kernel_rfl) (by kernel_rfl) (by simp) (since_drew (since_refl _)) ?_
            simp only [List.take_succ_cons, List.take_zero, List.drop_succ_cons, List.drop_zero]
            refine flow_val (v := ?_) rfl ?_ ?_; rotate_left; (intro W hW; go_simp; with_reducible rfl)
            simp only [Act.put, List.setIfInBounds_toArray, List.set_cons_succ, List.set_cons_zero]
            refine flow_val (v := ?_) rfl ?_ ?_; rotate_left; (intro W hW; go_simp; with_reducible rfl)
            simp only [Act.put, List.setIfInBounds_toArray, List.set_cons_succ, List.set_cons_zero]
            refine flow_val (v := ?_) rfl ?_ ?_; rotate_left; (intro W hW; go_simp; with_reducible rfl)
            simp only [Act.put, List.setIfInBounds_toArray, List.set_cons_succ, List.set_cons_zero]
            refine flow_val (v := ?_) rfl ?_ ?_; rotate_left; (intro W hW; go_simp; with_reducible rfl)
            simp only [Act.put, List.setIfInBounds_toArray, List.set_cons_succ, List.set_cons_zero]
            refine flow_val (v := ?_) rfl ?_ ?_; rotate_left; (intro W hW; go_simp; with_reducible rfl)
            simp only [Act.put, List.setIfInBounds_toArray, List.set_cons_succ, List.set_cons_zero]
            refine flow_val (v := ?_) rfl ?_ ?_; rotate_left; (intro W hW; go_simp; with_reducible rfl)
            simp only [Act.put, List.setIfInBounds_toArray, List.set_cons_succ, List.set_cons_zero]
            refine flow_val (v := ?_) rfl ?_ ?_; rotate_left; (intro W hW; go_simp; with_reducible rfl)
            simp only [Act.put, List.setIfInBounds_toArray, List.set_cons_succ, List.set_cons_zero]
            refine flow_val (v := ?_) rfl ?_ ?_; rotate_left; (intro W hW; go_simp; with_reducible rfl)
            simp only [Act.put, List.setIfInBounds_toArray, List.set_cons_succ, List.set_cons_zero]
            refine flow_val (v := ?_) rfl ?_ ?_; rotate_left; (intro W hW; go_simp; with_reducible rfl)
            simp only [Act.put, List.setIfInBounds_toArray, List.set_cons_succ, List.set_cons_zero]
            refine flow_val (v := ?_) rfl ?_ ?_; rotate_left; (intro W hW; go_simp; with_reducible rfl)
            simp only [Act.put, List.setIfInBounds_toArray, List.set_cons_succ, List.set_cons_zero]
            intro W4 hW4
            have HW4 := Lib.hid (Hs12.out.after (HW3.out.after hW4))
            obtain ⟨y1, y2, y3, y4⟩ := (Hm1.out.1.keepB HW4.out.below).labelAt Hrow.out Hx.out (Hl1.out W4 hW4)
            obtain ⟨n1, n2, n3⟩ := y4 (-1)
            have HN1 := Lib.hid n1
            have HN2 := Lib.hid (Hb1.out.trans ((HW4.out.below.mono (Nat.le_trans hBs (Nat.le_of_lt Hm1.out.1.1.lt))).trans n2))
            have HN3 := Lib.hid (HJk.out _ _ _ Hm1.out.2 ((Only.of_below HW4.out.below).trans n3))
            clear y4 n1 n2 n3 hW4 m2 m00 hbx
            have Hn2 : Hid (R = soAll nx p n.ends ports most F s1 (putB l ((v : Int), (i : Int)) (-1)) ((q : Int) - 1) st) := by show _ = _; rw [Hx1.out, Hstep.out, if_pos Hxe.out]
            have wq : IntKind.i64.wrap ((q : Int) - 1) = (q : Int) - 1 := wr64 _ (by omega) (by omega)
            have HFq : Hid (soMeas most ((q : Int) - 1) st < M0 ∧ soMeas most ((q : Int) - 1) st ≤ F) := by have := Hle.out; have := HF1.out; unfold soMeas at *; exact ⟨by omega, by omega⟩
            by_cases hq0 : (q : Int) - 1 < 0
            · have hRR : Hid (R = (s1, 2, putB l ((v : Int), (i : Int)) (-1), (q : Int) - 1, st)) := by show _ = _; rw [Hn2.out, soAll_step nx p n.ends ports most F s1 _ ((q : Int) - 1) st hs2 (by omega) HFq.out.2, if_pos hq0]
              go_wp2
              go_ret
              rw [hRR.out]
              exact ⟨rfl, HN1.out, HN3.out, HN2.out⟩
            · go_wp2
              go_roundw
              case rel => exact ⟨s1, _, (q : Int) - 1, st, by go_num, by omega, by omega, hs1, hs2, ⟨Hn2.out, HFq.out.2⟩, ⟨HN1.out, HN3.out⟩, ⟨putB_shape Hinv.out.1 Hrow.out hir, putB_inr Hinv.out.2 Hrow.out hir ⟨by omega, by omega⟩⟩, HN2.out⟩
              case measure =>
                rw [HM0.out, stAt_of (arrI_cells HN1.out.1).2.2.2.2.2.2.2.2.2]
                exact HFq.out.1
          · have hbx : (x == p.labels - 1) = false := by simpa using hxe
            have Hxe := Lib.hid hxe
            clear hxe
            refine wp_region_flow 10 (Since W3) (by kernel_rfl) (by kernel_rfl) (by simp) (since_drew (since_refl _)) ?_
            simp only [List.take_succ_cons, List.take_zero, List.drop_succ_cons, List.drop_zero]
            refine flow_val (v := ?_) rfl ?_ ?_; rotate_left; (intro W hW; go_simp; with_reducible rfl)
            simp only [Act.put, List.setIfInBounds_toArray, List.set_cons_succ, List.set_cons_zero]
            refine flow_val (v := ?_) rfl ?_ ?_; rotate_left; (intro W hW; go_simp; with_reducible rfl)
            simp only [Act.put, List.setIfInBounds_toArray, List.set_cons_succ, List.set_cons_zero]
            refine flow_val (v := ?_) rfl ?_ ?_; rotate_left; (intro W hW; go_simp; with_reducible rfl)
            simp only [Act.put, List.setIfInBounds_toArray, List.set_cons_succ, List.set_cons_zero]
            refine flow_val (v := ?_) rfl ?_ ?_; rotate_left; (intro W hW; go_simp; with_reducible rfl)
            simp only [Act.put, List.setIfInBounds_toArray, List.set_cons_succ, List.set_cons_zero]
            refine flow_val (v := ?_) rfl ?_ ?_; rotate_left; (intro W hW; go_simp; with_reducible rfl)
            simp only [Act.put, List.setIfInBounds_toArray, List.set_cons_succ, List.set_cons_zero]
            refine flow_val (v := ?_) rfl ?_ ?_; rotate_left; (intro W hW; go_simp; with_reducible rfl)
            simp only [Act.put, List.setIfInBounds_toArray, List.set_cons_succ, List.set_cons_zero]
            refine flow_val (v := ?_) rfl ?_ ?_; rotate_left; (intro W hW; go_simp; with_reducible rfl)
            simp only [Act.put, List.setIfInBounds_toArray, List.set_cons_succ, List.set_cons_zero]
            refine flow_val (v := ?_) rfl ?_ ?_; rotate_left; (intro W hW; go_simp; with_reducible rfl)
            simp only [Act.put, List.setIfInBounds_toArray, List.set_cons_succ, List.set_cons_zero]
            refine flow_val (v := ?_) rfl ?_ ?_; rotate_left; (intro W hW; go_simp; with_reducible rfl)
            simp only [Act.put, List.setIfInBounds_toArray, List.set_cons_succ, List.set_cons_zero]
            refine flow_val (v := ?_) rfl ?_ ?_; rotate_left; (intro W hW; go_simp; with_reducible rfl)
            simp only [Act.put, List.setIfInBounds_toArray, List.set_cons_succ, List.set_cons_zero]
            intro W4 hW4
            have HW4 := Lib.hid (Hs12.out.after (HW3.out.after hW4))
            obtain ⟨y1, y2, y3, y4⟩ := (Hm1.out.1.keepB HW4.out.below).labelAt Hrow.out Hx.out (Hl1.out W4 hW4)
            have y9 := Hl9.out W4 hW4
            have HSm4 := Lib.hid (Hm1.out.1.keepB HW4.out.below)
            have HE4 := Lib.hid (HE.out.below (HW3.out.after hW4).below HE.out.lt)
            clear hW4 m2 m00 hbx
            by_cases hms : st = most
            · have hbm : (st == most) = true := by simpa using hms
              have hRR : Hid (R = (s1, 3, l, (q : Int), st)) := by show _ = _; rw [Hx1.out, Hstep.out, if_neg Hxe.out, if_pos hms]
              clear hms y1 y2 y3 y4
              go_wp2
              go_ret
              rw [hRR.out]
              exact ⟨rfl, HSm4.out, HJk.out _ _ _ Hm1.out.2 (Only.of_below HW4.out.below), Hb1.out.trans (HW4.out.below.mono (Nat.le_trans hBs (Nat.le_of_lt Hm1.out.1.1.lt)))⟩
            · have hbm : (st == most) = false := by simpa using hms
              have Hms := Lib.hid hms
              obtain ⟨n1, n2, n3⟩ := y4 (x + 1)
              obtain ⟨m1, m2, m3⟩ := n1.field hBs 9 (.int .i64 (st + 1))
              have wx : IntKind.i64.wrap (x + 1) = x + 1 := wr64 _ (by omega) (by omega)
              have ws : IntKind.i64.wrap (st + 1) = st + 1 := wr64 _ (by omega) (by omega)
              obtain ⟨W5, hW5⟩ : ∃ W5, W5 = W4.setCell ⟨gr, i, none⟩ (.int .i64 (x + 1)) := ⟨_, rfl⟩
              rw [← hW5] at n1 n2 n3 m1 m2 m3
              obtain ⟨W6, hW6⟩ : ∃ W6, W6 = W5.setCell ⟨sb, 9, none⟩ (.int .i64 (st + 1)) := ⟨_, rfl⟩
              rw [← hW6] at m1 m2 m3
              have HE6 : Hid (BoxA W6 eb #[.int .i64 v, .int .i64 i]) := by
                rw [hW6, hW5]
                exact (HE4.out.set (p := ⟨gr, i, none⟩) (show gr ≠ eb by omega)).set (p := ⟨sb, 9, none⟩) (show sb ≠ eb by omega)
              have z9 := (n1.1.cell 9 (.int .i64 st) rfl).1
              have zf := (n1.1.cell 9 (.int .i64 st) rfl).2
              have hgl : W4.cell? ⟨sb, 9, none⟩ = some (.int .i64 st) := y9
              obtain ⟨lp, hlp⟩ : ∃ lp, lp = putB l ((v : Int), (i : Int)) (x + 1) := ⟨_, rfl⟩
              rw [← hlp] at m1 n1
              have Hlp := Lib.hid hlp
              have HM1 : Hid (SolM W6 sb (arrI p (.slice A1 p.nodes.length c1) (.slice A2 p.edges.length c2) (.slice A3 n.ends.length c3) (.slice A4 n.ids.length c4) (.slice A7 n.inputs.length c7) (.slice (some ⟨gl, 0, none⟩) l0.length c5) (.slice (some ⟨b6, o6, none⟩) ports.length c6) (st + 1)) lp ports (.slice (some ⟨gl, 0, none⟩) l0.length c5) (.slice (some ⟨b6, o6, none⟩) ports.length c6) SL B) := m1
              have HB6 := Lib.hid (Hb1.out.trans ((HW4.out.below.mono (Nat.le_trans hBs (Nat.le_of_lt Hm1.out.1.1.lt))).trans (n2.trans m2)))
              have HJ6 := Lib.hid (HJk.out _ _ _ Hm1.out.2 ((Only.of_below HW4.out.below).trans (n3.trans m3)))
              have Hrp : Hid (lp[v]? = some (row.set i (x + 1))) := by show _ = _; rw [hlp]; exact (putB_get Hrow.out hir).1
              have HIp : Hid (Shape n.ends lp ∧ InR (p.labels - 1) lp) := by rw [hlp]; exact ⟨putB_shape Hinv.out.1 Hrow.out hir, putB_inr Hinv.out.2 Hrow.out hir ⟨by omega, by have := Hxe.out; omega⟩⟩
              obtain ⟨rp, hrp⟩ : ∃ rp, rp = row.set i (x + 1) := ⟨_, rfl⟩
              have hrpl : rp.length = row.length := by rw [hrp, List.length_set]
              rw [← hrp] at Hrp Hstep
              rw [← hlp] at Hstep
              have HW5 := Lib.hid hW5
              have HW6 := Lib.hid hW6
              clear hlp hrp n1 n2 n3 m1 m2 m3 y3 y4 hms hW5 hW6
              go_upto_region 20 with (fail)
              rw [← HW5.out]
              clear y1 y2 y9 hgl
              go_upto_region 21 with (fail)
              rw [← HW6.out]
              clear z9 zf
              obtain ⟨d0, d1, d2, d3, d4, d5, d6, d7, d8, d9⟩ := arrI_cells HM1.out.1
              have a0 := have_cell d0
              have a1 := have_cell d1
              have a2 := have_cell d2
              have a3 := have_cell d3
              have a4 := have_cell d4
              have a5 := have_cell d5
              have a6 := have_cell d6
              have a7 := have_cell d7
              have g0 : ∀ W, Since W6 W → W.cell? ⟨eb, 0, none⟩ = some (.int .i64 v) := have_cell (HE6.out.cell 0 _ rfl).1
              have g1 : ∀ W, Since W6 W → W.cell? ⟨eb, 1, none⟩ = some (.int .i64 i) := have_cell (HE6.out.cell 1 _ rfl).1
              have hB6 : B ≤ W6.heap.size := Nat.le_trans hBs (Nat.le_of_lt HM1.out.1.lt)
              have hirp : i < rp.length := by omega
              clear d0 d1 d2 d3 d4 d5 d6 d7 d8 d9
              refine wp_region_flow 30 (Since W6) (by kernel_rfl) (by kernel_rfl) (by simp) (since_drew (since_refl _)) ?_
              simp only [List.take_succ_cons, List.take_zero, List.drop_succ_cons, List.drop_zero]
              refine flow_val (v := ?_) rfl ?_ ?_; rotate_left; (intro W hW; go_simp; with_reducible rfl)
              simp only [Act.put, List.setIfInBounds_toArray, List.set_cons_succ, List.set_cons_zero]
              refine flow_val (v := ?_) rfl ?_ ?_; rotate_left; (intro W hW; go_simp; with_reducible rfl)
              simp only [Act.put, List.setIfInBounds_toArray, List.set_cons_succ, List.set_cons_zero]
              refine flow_val (v := ?_) rfl ?_ ?_; rotate_left; (intro W hW; go_simp; with_reducible rfl)
              simp only [Act.put, List.setIfInBounds_toArray, List.set_cons_succ, List.set_cons_zero]
              refine flow_val (v := ?_) rfl ?_ ?_; rotate_left; (intro W hW; go_simp; with_reducible rfl)
              simp only [Act.put, List.setIfInBounds_toArray, List.set_cons_succ, List.set_cons_zero]
              refine flow_val (v := ?_) rfl ?_ ?_; rotate_left; (intro W hW; go_simp; with_reducible rfl)
              simp only [Act.put, List.setIfInBounds_toArray, List.set_cons_succ, List.set_cons_zero]
              refine flow_val (v := ?_) rfl ?_ ?_; rotate_left; (intro W hW; go_simp; with_reducible rfl)
              simp only [Act.put, List.setIfInBounds_toArray, List.set_cons_succ, List.set_cons_zero]
              refine flow_val (v := ?_) rfl ?_ ?_; rotate_left; (intro W hW; go_simp; with_reducible rfl)
              simp only [Act.put, List.setIfInBounds_toArray, List.set_cons_succ, List.set_cons_zero]
              refine flow_val (v := ?_) rfl ?_ ?_; rotate_left; (intro W hW; go_simp; with_reducible rfl)
              simp only [Act.put, List.setIfInBounds_toArray, List.set_cons_succ, List.set_cons_zero]
              refine flow_val (v := ?_) rfl ?_ ?_; rotate_left; (intro W hW; go_simp; with_reducible rfl)
              simp only [Act.put, List.setIfInBounds_toArray, List.set_cons_succ, List.set_cons_zero]
              refine flow_val (v := ?_) rfl ?_ ?_; rotate_left; (intro W hW; go_simp; with_reducible rfl)
              simp only [Act.put, List.setIfInBounds_toArray, List.set_cons_succ, List.set_cons_zero]
              refine flow_val (v := ?_) rfl ?_ ?_; rotate_left; (intro W hW; go_simp; with_reducible rfl)
              simp only [Act.put, List.setIfInBounds_toArray, List.set_cons_succ, List.set_cons_zero]
              refine flow_val (v := ?_) rfl ?_ ?_; rotate_left; (intro W hW; go_simp; with_reducible rfl)
              simp only [Act.put, List.setIfInBounds_toArray, List.set_cons_succ, List.set_cons_zero]
              refine flow_val (v := ?_) rfl ?_ ?_; rotate_left; (intro W hW; go_simp; with_reducible rfl)
              simp only [Act.put, List.setIfInBounds_toArray, List.set_cons_succ, List.set_cons_zero]
              refine flow_val (v := ?_) rfl ?_ ?_; rotate_left; (intro W hW; go_simp; with_reducible rfl)
              simp only [Act.put, List.setIfInBounds_toArray, List.set_cons_succ, List.set_cons_zero]
              refine flow_val (v := ?_) rfl ?_ ?_; rotate_left; (intro W hW; go_simp; with_reducible rfl)
              simp only [Act.put, List.setIfInBounds_toArray, List.set_cons_succ, List.set_cons_zero]
              refine flow_val (v := ?_) rfl ?_ ?_; rotate_left; (intro W hW; go_simp; with_reducible rfl)
              simp only [Act.put, List.setIfInBounds_toArray, List.set_cons_succ, List.set_cons_zero]
              refine flow_op ?_ rfl ?_ ?_; rotate_left; (intro W hW; unfold Gives; go_simp; (with_reducible refine (edgeHolds_any _ _ _ _ _ _ p n lp v i rp W (HPp.out W (HB6.out.trans (hW.below.mono hB6))) (HNn.out W (HB6.out.trans (hW.below.mono hB6))) (HM1.out.keepB hW.below).rows hn HIp.out.1 Hst.out hel Hrp.out hirp).mono ?_); rintro e W' ⟨rfl, hb3⟩; first | (refine ⟨?_, Since.trans hW hb3⟩; with_reducible rfl) | (subst hb3; refine ⟨?_, hW⟩; with_reducible rfl))
              simp only [Act.put, List.setIfInBounds_toArray, List.set_cons_succ, List.set_cons_zero]
              refine flow_val (v := ?_) rfl ?_ ?_; rotate_left; (intro W hW; go_simp; with_reducible rfl)
              simp only [Act.put, List.setIfInBounds_toArray, List.set_cons_succ, List.set_cons_zero]
              refine flow_gval (v := ?_) rfl rfl ?_ ?_; rotate_left; (intro hb; intro W hW; go_simp; with_reducible rfl)
              simp only [Act.put, List.setIfInBounds_toArray, List.set_cons_succ, List.set_cons_zero]
              refine flow_gval (v := ?_) rfl rfl ?_ ?_; rotate_left; (intro hb; intro W hW; go_simp; with_reducible rfl)
              simp only [Act.put, List.setIfInBounds_toArray, List.set_cons_succ, List.set_cons_zero]
              refine flow_gval (v := ?_) rfl rfl ?_ ?_; rotate_left; (intro hb; intro W hW; go_simp; with_reducible rfl)
              simp only [Act.put, List.setIfInBounds_toArray, List.set_cons_succ, List.set_cons_zero]
              refine flow_gval (v := ?_) rfl rfl ?_ ?_; rotate_left; (intro hb; intro W hW; go_simp; with_reducible rfl)
              simp only [Act.put, List.setIfInBounds_toArray, List.set_cons_succ, List.set_cons_zero]
              refine flow_gval (v := ?_) rfl rfl ?_ ?_; rotate_left; (intro hb; intro W hW; go_simp; with_reducible rfl)
              simp only [Act.put, List.setIfInBounds_toArray, List.set_cons_succ, List.set_cons_zero]
              refine flow_gval (v := ?_) rfl rfl ?_ ?_; rotate_left; (intro hb; intro W hW; go_simp; with_reducible rfl)
              simp only [Act.put, List.setIfInBounds_toArray, List.set_cons_succ, List.set_cons_zero]
              refine flow_gval (v := ?_) rfl rfl ?_ ?_; rotate_left; (intro hb; intro W hW; go_simp; with_reducible rfl)
              simp only [Act.put, List.setIfInBounds_toArray, List.set_cons_succ, List.set_cons_zero]
              refine flow_gval (v := ?_) rfl rfl ?_ ?_; rotate_left; (intro hb; intro W hW; go_simp; with_reducible rfl)
              simp only [Act.put, List.setIfInBounds_toArray, List.set_cons_succ, List.set_cons_zero]
              refine flow_gval (v := ?_) rfl rfl ?_ ?_; rotate_left; (intro hb; intro W hW; go_simp; with_reducible rfl)
              simp only [Act.put, List.setIfInBounds_toArray, List.set_cons_succ, List.set_cons_zero]
              refine flow_gval (v := ?_) rfl rfl ?_ ?_; rotate_left; (intro hb; intro W hW; go_simp; with_reducible rfl)
              simp only [Act.put, List.setIfInBounds_toArray, List.set_cons_succ, List.set_cons_zero]
              refine flow_gop (v := ?_) rfl rfl ?_ ?_; rotate_left; (intro hb; intro W hW; unfold Gives; go_simp; (with_reducible refine (nodeHolds_any _ _ _ p lp v rp W (HPp.out W (HB6.out.trans (hW.below.mono hB6))) (HM1.out.keepB hW.below).rows Hrp.out (by omega)).mono ?_); rintro e W' ⟨rfl, hb3⟩; first | (refine ⟨?_, Since.trans hW hb3⟩; with_reducible rfl) | (subst hb3; refine ⟨?_, hW⟩; with_reducible rfl))
              simp only [Act.put, List.setIfInBounds_toArray, List.set_cons_succ, List.set_cons_zero]
              first | refine flow_and rfl rfl ?_ | (refine flow_val (v := ?_) rfl ?_ ?_; rotate_left; (intro W hW; go_simp; with_reducible rfl))
              simp only [Act.put, List.setIfInBounds_toArray, List.set_cons_succ, List.set_cons_zero]
              intro W7 hW7
              have HM7 := Lib.hid (HM1.out.keepB hW7.below)
              have HB7 := Lib.hid (HB6.out.trans (hW7.below.mono hB6))
              have HJ7 := Lib.hid (HJk.out _ _ _ HJ6.out (Only.of_below hW7.below))
              clear a0 a1 a2 a3 a4 a5 a6 a7 g0 g1 hW7
              have HFq : Hid ((soMeas most (q : Int) (st + 1) < M0 ∧ soMeas most (q : Int) (st + 1) ≤ F) ∧ (soMeas most ((q : Int) + 1) (st + 1) < M0 ∧ soMeas most ((q : Int) + 1) (st + 1) ≤ F)) := by have := Hle.out; have := HF1.out; unfold soMeas at *; exact ⟨⟨by omega, by omega⟩, ⟨by omega, by omega⟩⟩
              have wq : IntKind.i64.wrap ((q : Int) + 1) = (q : Int) + 1 := wr64 _ (by omega) (by omega)
              cases hg : (portB p n.ends lp ((v : Int), (i : Int)) && nodeB p rp)
              · have Hn2 : Hid (R = soAll nx p n.ends ports most F s1 lp q (st + 1)) := by show _ = _; rw [Hx1.out, Hstep.out, if_neg Hxe.out, if_neg Hms.out, if_neg (by rw [Bool.and_comm, hg]; simp)]
                go_wp2
                go_roundw
                case rel => exact ⟨s1, lp, q, st + 1, rfl, by omega, by omega, by omega, by have := Hms.out; omega, ⟨Hn2.out, HFq.out.1.2⟩, ⟨HM7.out, HJ7.out⟩, HIp.out, HB7.out⟩
                case measure =>
                  rw [HM0.out, stAt_of (arrI_cells HM7.out.1).2.2.2.2.2.2.2.2.2]
                  exact HFq.out.1.1
              · have Hn2 : Hid (R = soAll nx p n.ends ports most F s1 lp ((q : Int) + 1) (st + 1)) := by show _ = _; rw [Hx1.out, Hstep.out, if_neg Hxe.out, if_neg Hms.out, if_pos (by rw [Bool.and_comm, hg])]
                go_wp2
                go_roundw
                case rel => exact ⟨s1, lp, (q : Int) + 1, st + 1, by go_num, by omega, by omega, by omega, by have := Hms.out; omega, ⟨Hn2.out, HFq.out.2.2⟩, ⟨HM7.out, HJ7.out⟩, HIp.out, HB7.out⟩
                case measure =>
                  rw [HM0.out, stAt_of (arrI_cells HM7.out.1).2.2.2.2.2.2.2.2.2]
                  exact HFq.out.2.1end Go.Proofs.YtomnaabadohecaaGreat
