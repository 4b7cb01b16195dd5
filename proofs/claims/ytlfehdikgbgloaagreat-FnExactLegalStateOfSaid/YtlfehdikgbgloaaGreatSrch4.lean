import Derived.Test.YtlfehdikgbgloaaGreatSrch1
import Derived.Test.YtlfehdikgbgloaaGreatRep
import Derived.Test.YtlfehdikgbgloaaGreatChain
namespace Go.Proofs.YtlfehdikgbgloaaGreat
open Go.RowKit
/-! the program's search -/
section
variable {W W' : World} {B : Nat} {ve vi vn va vl : Value}
end
/-- the verifier, in every world since w0 -/
def AccOn (w0 : World) (fid : FuncId) (b : Nat) (n : Net) (most : Int) (acc : List Int → Nat → Bool) : Prop :=
  ∀ W vl ls k, Since w0 W → IntS W vl ls → ls.length = n.ends.length → k < n.ends.length → (∀ x ∈ ls.getD k 0 :: nearB ls (n.ends.getD k []), 0 ≤ x ∧ x ≤ most) →
    Calls Tryz.prog fid #[vl, .int .i64 k, .pointer (some ⟨b, 0, none⟩), .pointer (some ⟨b + 1, 0, none⟩)] W fun e w' => e = .returned (.bool (acc ls k)) ∧ Below W.heap.size W w'
theorem AccOn.use {w0 : World} {fid : FuncId} {b : Nat} {n : Net} {most : Int} {acc : List Int → Nat → Bool} (h : AccOn w0 fid b n most acc) (W : World) (vl : Value) (ls : List Int) (k : Nat) (h1 : Since w0 W) (h2 : IntS W vl ls) (h3 : ls.length = n.ends.length) (h4 : k < n.ends.length) (h5 : ∀ x ∈ ls.getD k 0 :: nearB ls (n.ends.getD k []), 0 ≤ x ∧ x ≤ most) :
    Calls Tryz.prog fid #[vl, .int .i64 k, .pointer (some ⟨b, 0, none⟩), .pointer (some ⟨b + 1, 0, none⟩)] W fun e w' => e = .returned (.bool (acc ls k)) ∧ Below W.heap.size W w' := h W vl ls k h1 h2 h3 h4 h5
def accV (fid : FuncId) (b : Nat) : Value := .func (.func fid) #[] #[.pointer (some ⟨b, 0, none⟩), .pointer (some ⟨b + 1, 0, none⟩)]
set_option maxHeartbeats 4000000 in
theorem noMatching_any (ve vi vn : Value) (n : Net) (w : World) (h : NetIn w ve vi vn n) (hN : 1 ≤ n.ends.length) (hN2 : n.ends.length ≤ 1000000) :
    Calls Tryz.prog 143 #[.agg #[ve, vi, vn]] w fun e w' => ∃ u, e = .returned u ∧ Own w' w.heap.size u (List.replicate n.ends.length (-1)) ∧ Below w.heap.size w w' := by
  obtain ⟨w0, hw0⟩ : ∃ w0, w0 = (w).alloc (.cells #[ve, vi, vn] 31) := ⟨_, rfl⟩
  have hb0 : Below w.heap.size w w0 := by rw [hw0]; exact ((Below.refl _ _).alloc (by simp) _)
  have H := Lib.hid (h.keep hb0)
  obtain ⟨h1, h2, h3⟩ := h.keep hb0
  obtain ⟨A, c, rfl, hlc, hm, hA⟩ := h1
  obtain ⟨A2, c2, rfl, _, hm2, _⟩ := h2
  obtain ⟨A3, c3, rfl, _, hm3, _⟩ := h3
  unfold maxLen at hm hm2 hm3
  have p00 : ∀ W, Since w0 W → W.cell? ⟨w.heap.size, 0, none⟩ = some (.slice A n.ends.length c) := have_cell (by rw [hw0]; simp)
  have p01 : ∀ W, Since w0 W → W.cell? ⟨w.heap.size, 1, none⟩ = some (.slice A2 n.ids.length c2) := have_cell (by rw [hw0]; simp)
  have p02 : ∀ W, Since w0 W → W.cell? ⟨w.heap.size, 2, none⟩ = some (.slice A3 n.inputs.length c3) := have_cell (by rw [hw0]; simp)
  have Hb0 := Lib.hid hb0
  have Hw0 := Lib.hid hw0
  have HA := Lib.hid hA
  clear hA h
  clear hb0 hw0
  go_enter Tryz.func143, Tryz.ntmps143
  go_upto_region 1 with (fail)
  rw [← Hw0.out]
  go_wp2_with fail
  refine (repeat1_any w0.heap.size 1 (-1) n.ends.length _ hN hN2 (by simp)).mono ?_
  rintro e w1 ⟨u, rfl, ho, hb⟩
  have Ho := Lib.hid ho
  have Hb : Hid (Since w0 w1) := Since.after (since_alloc _ (since_refl _)) hb
  clear ho hb
  go_wp2
  go_ret
  exact ⟨_, rfl, Ho.out.mono (by have := Hb0.out.size; simp; omega), Since.after Hb0.out Hb.out⟩
end Go.Proofs.YtlfehdikgbgloaaGreat
namespace Go.Proofs.YtlfehdikgbgloaaGreat
open Go.RowKit
theorem near_upto {N : Nat} {es : List (Int × Int)} (h : ∀ e ∈ es, 0 ≤ e.1 ∧ e.1 < N) : nearB (upto N) es = es.map fun e => e.1 := by
  unfold nearB
  apply List.map_congr_left
  intro e he
  obtain ⟨h1, h2⟩ := h e he
  rw [List.getD_eq_getElem?_getD, upto_get (by omega)]
  simp
  omega
end Go.Proofs.YtlfehdikgbgloaaGreat
namespace Go.Proofs.YtlfehdikgbgloaaGreat
open Go.RowKit
def srchA (n : Net) (acc : List Int → Nat → Bool) (most lim : Int) : List Int × Int × Int := srch (goodG n acc) most lim (leftM lim 0 n.ends.length 0) (List.replicate n.ends.length (-1)) 0 0
theorem tupuii {u : Value} {r : List Int × Int × Int} {a b : Int} (h : r.2 = (a, b)) : Ending.returned (.tuple #[u, .int .i64 a, .int .i64 b]) = .returned (.tuple #[u, .int .i64 r.2.1, .int .i64 r.2.2]) := by rw [h]
end Go.Proofs.YtlfehdikgbgloaaGreat
