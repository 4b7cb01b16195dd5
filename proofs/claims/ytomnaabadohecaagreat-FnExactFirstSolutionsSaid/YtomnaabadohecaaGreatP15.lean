/- Parts of the proof: walks of functions and plain laws. -/
import Derived.Test.YtomnaabadohecaaGreatP14
import Derived.Test.YtomnaabadohecaaGreatP10
import Derived.Deep.CutRange
namespace Go.Proofs.YtomnaabadohecaaGreat
open Go.RowKit
/-! the search: what a step does to the memory -/
theorem SolM.keepB {w w' : World} {sb : Nat} {vs : Array Value} {l : List (List Int)} {ports : List (Int × Int)} {ul uf : Value} {SL : List Nat} {B : Nat} (h : SolM w sb vs l ports ul uf SL B) (hb : Below w.heap.size w w') : SolM w' sb vs l ports ul uf SL B := by
  obtain ⟨h1, h2, h3, T, h4⟩ := h
  exact ⟨h1.below hb h1.lt, lawII.keep h2 hb, h3, T, lawE.keep h4 hb⟩
theorem SolM.rows {w : World} {sb : Nat} {vs : Array Value} {l : List (List Int)} {ports : List (Int × Int)} {ul uf : Value} {SL : List Nat} {B : Nat} (h : SolM w sb vs l ports ul uf SL B) : IntSS w ul l := by
  obtain ⟨-, h2, -⟩ := h
  exact h2.read
theorem SolM.field {w : World} {sb : Nat} {vs : Array Value} {l : List (List Int)} {ports : List (Int × Int)} {ul uf : Value} {SL : List Nat} {B : Nat} (h : SolM w sb vs l ports ul uf SL B) (hB : B ≤ sb) (i : Nat) (u : Value) :
    SolM (w.setCell ⟨sb, i, none⟩ u) sb (vs.setIfInBounds i u) l ports ul uf SL B ∧ Below B w (w.setCell ⟨sb, i, none⟩ u) ∧ Only (sb :: SL) w (w.setCell ⟨sb, i, none⟩ u) := by
  obtain ⟨h1, h2, h3, T, h4⟩ := h
  have hlt := h1.lt
  refine ⟨⟨h1.put i u, lawII.stable h2 fun k hk => Below.heap_setCell _ _ _ k (by have := h3 k hk; show k ≠ sb; omega), h3, T, RowLaw.put lawE h4 (by show sb < sb + 1; omega) u⟩, (Below.refl _ _).setCell (show B ≤ sb from hB) u, (Only.refl _ _).setCell (.inl (by simp)) u⟩
theorem SolM.label {w : World} {sb : Nat} {vs : Array Value} {l : List (List Int)} {ports : List (Int × Int)} {ul uf : Value} {SL : List Nat} {B : Nat} (h : SolM w sb vs l ports ul uf SL B) {v i : Nat} {row : List Int} {x : Int} (hv : l[v]? = some row) (hi : row[i]? = some x) :
    ∃ gl cl gr cr, ul = .slice (some ⟨gl, 0, none⟩) l.length cl ∧ w.cell? ⟨gl, v, none⟩ = some (.slice (some ⟨gr, 0, none⟩) row.length cr) ∧ w.cell? ⟨gr, i, none⟩ = some (.int .i64 x) ∧ w.frozen? ⟨gr, i, none⟩ = false ∧ gr ∈ SL ∧
      ∀ y, SolM (w.setCell ⟨gr, i, none⟩ (.int .i64 y)) sb vs (putB l ((v : Int), (i : Int)) y) ports ul uf SL B ∧ Below B w (w.setCell ⟨gr, i, none⟩ (.int .i64 y)) ∧ Only (sb :: SL) w (w.setCell ⟨gr, i, none⟩ (.int .i64 y)) := by
  obtain ⟨h1, h2, h3, T4, h4⟩ := h
  have hr := h2.read
  obtain ⟨AL, cl, rfl, hcl, -, -⟩ := hr
  have hsome : ∃ gl, AL = some ⟨gl, 0, none⟩ := by
    obtain ⟨vs', Ss, r1, -⟩ := h2
    rcases ownsRow_cases r1 with ⟨e, h0⟩ | ⟨g, c, e, -⟩
    · have := lt_of_get hv; omega
    · cases e; exact ⟨g, rfl⟩
  obtain ⟨gl, rfl⟩ := hsome
  obtain ⟨u, T, c1, hu, hT, hup⟩ := OwnRows.touch lawI h2 hv
  obtain ⟨huo, hTe⟩ := hu
  rcases huo.cases with ⟨rfl, h0⟩ | ⟨gr, cr, rfl, hg1, hg2⟩
  · subst h0; simp at hi
  · have hgT : gr ∈ T := by rw [hTe]; simp [Value.ownBlock]
    have hgS := hT gr hgT
    have hgsb := h3 gr hgS
    refine ⟨gl, cl, gr, cr, rfl, c1, huo.cell hi, huo.free i, hgS, fun y => ?_⟩
    have hon : Only T w (w.setCell ⟨gr, i, none⟩ (.int .i64 y)) := (Only.refl _ _).setCell (.inl hgT) _
    have hn := hup (row.set i y) _ ⟨by have := huo.set (k := i) y; simpa using this, hTe⟩ hon
    refine ⟨⟨h1.set (by show gr ≠ sb; omega), ?_, h3, T4, RowLaw.put lawE h4 (by show gr < sb + 1; omega) _⟩, (Below.refl _ _).setCell (show B ≤ gr from (lawII.range h2 gr hgS).1) _, (Only.refl _ _).setCell (.inl (List.mem_cons_of_mem _ hgS)) _⟩
    unfold putB
    simp only [Int.toNat_natCast]
    rw [getD_of hv]
    have e : (l.set v (row.set i y)).length = l.length := List.length_set
    exact hn
theorem arrI_cells {W : World} {sb : Nat} {p : Prob} {pa pb va vb vc ul uf : Value} {st : Int} (h : BoxA W sb (arrI p pa pb va vb vc ul uf st)) : W.cell? ⟨sb, 0, none⟩ = some (.int .i64 p.labels) ∧ W.cell? ⟨sb, 1, none⟩ = some (.int .i64 p.degree) ∧ W.cell? ⟨sb, 2, none⟩ = some (pa) ∧ W.cell? ⟨sb, 3, none⟩ = some (pb) ∧ W.cell? ⟨sb, 4, none⟩ = some (va) ∧ W.cell? ⟨sb, 5, none⟩ = some (vb) ∧ W.cell? ⟨sb, 6, none⟩ = some (vc) ∧ W.cell? ⟨sb, 7, none⟩ = some (ul) ∧ W.cell? ⟨sb, 8, none⟩ = some (uf) ∧ W.cell? ⟨sb, 9, none⟩ = some (.int .i64 st) :=
  ⟨(h.cell 0 _ rfl).1, (h.cell 1 _ rfl).1, (h.cell 2 _ rfl).1, (h.cell 3 _ rfl).1, (h.cell 4 _ rfl).1, (h.cell 5 _ rfl).1, (h.cell 6 _ rfl).1, (h.cell 7 _ rfl).1, (h.cell 8 _ rfl).1, (h.cell 9 _ rfl).1⟩
theorem arrS_cells {W : World} {sb : Nat} {p : Prob} {pa pb va vb vc ul uf : Value} {i st most : Int} {fr : Bool} (h : BoxA W sb (arrS p pa pb va vb vc ul uf i st most fr)) : W.cell? ⟨sb, 0, none⟩ = some (.int .i64 p.labels) ∧ W.cell? ⟨sb, 1, none⟩ = some (.int .i64 p.degree) ∧ W.cell? ⟨sb, 2, none⟩ = some (pa) ∧ W.cell? ⟨sb, 3, none⟩ = some (pb) ∧ W.cell? ⟨sb, 4, none⟩ = some (va) ∧ W.cell? ⟨sb, 5, none⟩ = some (vb) ∧ W.cell? ⟨sb, 6, none⟩ = some (vc) ∧ W.cell? ⟨sb, 7, none⟩ = some (ul) ∧ W.cell? ⟨sb, 8, none⟩ = some (uf) ∧ W.cell? ⟨sb, 9, none⟩ = some (.int .i64 i) ∧ W.cell? ⟨sb, 10, none⟩ = some (.int .i64 st) ∧ W.cell? ⟨sb, 11, none⟩ = some (.int .i64 most) ∧ W.cell? ⟨sb, 12, none⟩ = some (.bool fr) :=
  ⟨(h.cell 0 _ rfl).1, (h.cell 1 _ rfl).1, (h.cell 2 _ rfl).1, (h.cell 3 _ rfl).1, (h.cell 4 _ rfl).1, (h.cell 5 _ rfl).1, (h.cell 6 _ rfl).1, (h.cell 7 _ rfl).1, (h.cell 8 _ rfl).1, (h.cell 9 _ rfl).1, (h.cell 10 _ rfl).1, (h.cell 11 _ rfl).1, (h.cell 12 _ rfl).1⟩
/-- labels of a search -/
def InR (hi : Int) (l : List (List Int)) : Prop := ∀ (v : Nat) (row : List Int) (i : Nat) (x : Int), l[v]? = some row → row[i]? = some x → -1 ≤ x ∧ x ≤ hi
theorem putB_get {l : List (List Int)} {v i : Nat} {row : List Int} {y : Int} (hv : l[v]? = some row) (hi : i < row.length) :
    (putB l ((v : Int), (i : Int)) y)[v]? = some (row.set i y) ∧ ∀ k, k ≠ v → (putB l ((v : Int), (i : Int)) y)[k]? = l[k]? := by
  unfold putB
  simp only [Int.toNat_natCast]
  rw [getD_of hv]
  exact ⟨List.getElem?_set_self (lt_of_get hv), fun k hk => List.getElem?_set_ne (Ne.symm hk)⟩
theorem putB_inr {l : List (List Int)} {v i : Nat} {row : List Int} {y hi : Int} (h : InR hi l) (hv : l[v]? = some row) (hil : i < row.length) (hy : -1 ≤ y ∧ y ≤ hi) : InR hi (putB l ((v : Int), (i : Int)) y) := by
  obtain ⟨p1, p2⟩ := putB_get (y := y) hv hil
  intro k r j x hk hj
  by_cases hkv : k = v
  · subst hkv
    rw [p1] at hk
    cases hk
    by_cases hji : j = i
    · subst hji
      rw [List.getElem?_set_self hil] at hj
      cases hj; exact hy
    · rw [List.getElem?_set_ne (Ne.symm hji)] at hj
      exact h k row j x hv hj
  · rw [p2 k hkv] at hk
    exact h k r j x hk hj
theorem putB_len (l : List (List Int)) (e : Int × Int) (y : Int) : (putB l e y).length = l.length := by unfold putB; simp
theorem putB_shape {ess : List (List (Int × Int))} {l : List (List Int)} {v i : Nat} {row : List Int} {y : Int} (h : Shape ess l) (hv : l[v]? = some row) (hil : i < row.length) : Shape ess (putB l ((v : Int), (i : Int)) y) := by
  obtain ⟨p1, p2⟩ := putB_get (y := y) hv hil
  refine ⟨by rw [putB_len]; exact h.1, fun k es r hes hk => ?_⟩
  by_cases hkv : k = v
  · subst hkv
    rw [p1] at hk
    cases hk
    rw [List.length_set]
    exact h.2 k es row hes hv
  · rw [p2 k hkv] at hk
    exact h.2 k es r hes hk
/-- a port that is free lies in the network -/
def PortsIn (ess : List (List (Int × Int))) (ports : List (Int × Int)) : Prop := ∀ (k : Nat) (e : Int × Int), ports[k]? = some e → ∃ (v i : Nat) (es : List (Int × Int)), e = ((v : Int), (i : Int)) ∧ ess[v]? = some es ∧ i < es.length
theorem mem_freeU {l : List (List Int)} {k : Nat} {e : Int × Int} (h : e ∈ freeU l k) : ∃ (v i : Nat) (row : List Int), e = ((v : Int), (i : Int)) ∧ v < k ∧ l.getD v [] = row ∧ i < row.length := by
  unfold freeU at h
  rw [List.mem_flatMap] at h
  obtain ⟨v, hv, he⟩ := h
  unfold freeR at he
  rw [List.mem_map] at he
  obtain ⟨i, hi, rfl⟩ := he
  rw [List.mem_filter] at hi
  exact ⟨v, i, _, rfl, List.mem_range.1 hv, rfl, List.mem_range.1 hi.1⟩
theorem freeP_in {ess : List (List (Int × Int))} {l : List (List Int)} (h : Shape ess l) : PortsIn ess (freeP l) := by
  intro k e hk
  obtain ⟨v, i, row, rfl, hv, hr, hi⟩ := mem_freeU (List.mem_of_getElem? hk)
  obtain ⟨row', hrow⟩ := getx l v hv
  rw [getD_of hrow] at hr
  subst hr
  obtain ⟨es, hes⟩ := getx ess v (by rw [← h.1]; exact hv)
  exact ⟨v, i, es, rfl, hes, by rw [← h.2 v es row' hes hrow]; exact hi⟩
/-- the steps in memory -/
def stAt (w : World) (b i : Nat) : Int := match w.cell? ⟨b, i, none⟩ with | some (.int .i64 z) => z | _ => 0
theorem stAt_of {w : World} {b i : Nat} {z : Int} (h : w.cell? ⟨b, i, none⟩ = some (.int .i64 z)) : stAt w b i = z := by unfold stAt; rw [h]
theorem end_at {w : World} {base : Nat} {uf : Value} {ports : List (Int × Int)} {T : List Nat} (h : OwnE w base uf ports T) : ∃ A c, uf = .slice A ports.length c ∧ ports.length ≤ c ∧ c ≤ maxLen ∧ ∀ (k : Nat) (e : Int × Int), ports[k]? = some e → ∃ b off, A = some ⟨b, off, none⟩ ∧ w.cell? ⟨b, off + k * 2, none⟩ = some (.int .i64 e.1) ∧ w.cell? ⟨b, off + k * 2 + 1, none⟩ = some (.int .i64 e.2) := by
  obtain ⟨A, c, rfl, h1, h2, h3⟩ := h.read
  exact ⟨A, c, rfl, h1, h2, h3⟩
theorem SolM.rowAt {w : World} {sb : Nat} {vs : Array Value} {l : List (List Int)} {ports : List (Int × Int)} {A : Option Addr} {k c : Nat} {uf : Value} {SL : List Nat} {B : Nat} (h : SolM w sb vs l ports (.slice A k c) uf SL B) {v : Nat} {row : List Int} (hv : l[v]? = some row) :
    ∃ b off u, A = some ⟨b, off, none⟩ ∧ w.cell? ⟨b, off + v, none⟩ = some u ∧ IntS w u row := by
  obtain ⟨A', c', e, -, -, hA⟩ := h.rows
  injection e with e1 e2 e3
  subst e1
  obtain ⟨b, off, u, h1, h2, h3⟩ := hA v row hv
  exact ⟨b, off, u, h1, h2, h3⟩
theorem SolM.labelAt {w : World} {sb : Nat} {vs : Array Value} {l : List (List Int)} {ports : List (Int × Int)} {uf : Value} {SL : List Nat} {B gl gr k cl m cr : Nat} (h : SolM w sb vs l ports (.slice (some ⟨gl, 0, none⟩) k cl) uf SL B) {v i : Nat} {row : List Int} {x : Int} (hv : l[v]? = some row) (hi : row[i]? = some x)
    (hc : w.cell? ⟨gl, v, none⟩ = some (.slice (some ⟨gr, 0, none⟩) m cr)) : w.cell? ⟨gr, i, none⟩ = some (.int .i64 x) ∧ w.frozen? ⟨gr, i, none⟩ = false ∧ gr ∈ SL ∧
      ∀ y, SolM (w.setCell ⟨gr, i, none⟩ (.int .i64 y)) sb vs (putB l ((v : Int), (i : Int)) y) ports (.slice (some ⟨gl, 0, none⟩) k cl) uf SL B ∧ Below B w (w.setCell ⟨gr, i, none⟩ (.int .i64 y)) ∧ Only (sb :: SL) w (w.setCell ⟨gr, i, none⟩ (.int .i64 y)) := by
  obtain ⟨gl', cl', gr', cr', e, h1, h2, h3, h4, h5⟩ := h.label hv hi
  simp only [Value.slice.injEq, Option.some.injEq, Addr.mk.injEq, and_true] at e
  obtain ⟨rfl, -, -⟩ := e
  rw [h1] at hc
  simp only [Option.some.injEq, Value.slice.injEq, Addr.mk.injEq, and_true] at hc
  obtain ⟨rfl, -, -⟩ := hc
  exact ⟨h2, h3, h4, h5⟩
section
variable (p : Prob) (ends : List (List (Int × Int))) (ports : List (Int × Int)) (most : Int) (F : Nat) {l : List (List Int)} {q v i : Nat} {st : Int} {row : List Int} {x : Int}
theorem cellB_at (hv : l[v]? = some row) (hi : row[i]? = some x) : cellB l ((v : Int), (i : Int)) = x := by
  unfold cellB
  simp only [Int.toNat_natCast]
  rw [getD_of hv, getD_of hi]
theorem soAll_at {σ : Type} (nx : σ → List (List Int) → Bool × σ) (s : σ) (hq : ports[q]? = some ((v : Int), (i : Int))) (hv : l[v]? = some row) (hi : row[i]? = some x) (hst : st ≤ most) (hf : soMeas most q st ≤ F) :
    soAll nx p ends ports most F s l q st = (if x = p.labels - 1 then soAll nx p ends ports most F s (putB l ((v : Int), (i : Int)) (-1)) ((q : Int) - 1) st
      else if st = most then (s, 3, l, (q : Int), st)
      else if (nodeB p (row.set i (x + 1)) && portB p ends (putB l ((v : Int), (i : Int)) (x + 1)) ((v : Int), (i : Int))) = true then soAll nx p ends ports most F s (putB l ((v : Int), (i : Int)) (x + 1)) ((q : Int) + 1) (st + 1)
      else soAll nx p ends ports most F s (putB l ((v : Int), (i : Int)) (x + 1)) q (st + 1)) := by
  have hql := lt_of_get hq
  rw [soAll_step nx p ends ports most F s l q st hst (by omega) hf, if_neg (by omega), if_neg (by omega)]
  simp only [Int.toNat_natCast, getD_of hq, cellB_at hv hi]
  rw [getD_of (putB_get (y := x + 1) hv (lt_of_get hi)).1]
theorem soGo_at (hq : ports[q]? = some ((v : Int), (i : Int))) (hv : l[v]? = some row) (hi : row[i]? = some x) (hst : st ≤ most) (hf : soMeas most q st ≤ F) :
    soGo p ends ports most F l q st = (if x = p.labels - 1 then soGo p ends ports most F (putB l ((v : Int), (i : Int)) (-1)) ((q : Int) - 1) st
      else if st = most then (3, l, (q : Int), st)
      else if (nodeB p (row.set i (x + 1)) && portB p ends (putB l ((v : Int), (i : Int)) (x + 1)) ((v : Int), (i : Int))) = true then soGo p ends ports most F (putB l ((v : Int), (i : Int)) (x + 1)) ((q : Int) + 1) (st + 1)
      else soGo p ends ports most F (putB l ((v : Int), (i : Int)) (x + 1)) q (st + 1)) := by
  have hql := lt_of_get hq
  rw [soGo_step p ends ports most F l q st hst (by omega) hf, if_neg (by omega), if_neg (by omega)]
  simp only [Int.toNat_natCast, getD_of hq, cellB_at hv hi]
  rw [getD_of (putB_get (y := x + 1) hv (lt_of_get hi)).1]
end
end Go.Proofs.YtomnaabadohecaaGreat
namespace Go.Proofs.YtomnaabadohecaaGreat
open Go.RowKit
/-! the reference's search -/
def soQ (p : Prob) (ends : List (List (Int × Int))) (ports : List (Int × Int)) (most : Int) (fr : Bool) (l : List (List Int)) (i st : Int) : SoR :=
  if fr = true then (if holdsB p ends l = true then soGo p ends ports most (soMeas most i st) l i st else (2, l, i, st)) else soGo p ends ports most (soMeas most i st) l (i - 1) st
end Go.Proofs.YtomnaabadohecaaGreat
