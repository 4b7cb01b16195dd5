import Derived.Test.YtlfehdikgbgloaaGreatChain
import Derived.Test.YtlfehdikgbgloaaGreatSrchPlain
import Derived.Test.YtlfehdikgbgloaaGreatVer6
import Derived.Test.YtlfehdikgbgloaaGreatDel
namespace Go.Proofs.YtlfehdikgbgloaaGreat
open Go.RowKit
/-! the reference's search -/
/-- what a node of a good network has -/
theorem node_at {n : Net} (h : netOk n = true) {k : Nat} (hk : k < n.ends.length) :
    n.ends[k]? = some (n.ends.getD k []) ∧ (n.ends.getD k []).length ≤ 6 ∧ (∀ e ∈ n.ends.getD k [], 0 ≤ e.1 ∧ e.1 < n.ends.length) ∧ (n.ids.length ≠ 0 → n.ids[k]? = some (n.ids.getD k 0)) ∧ n.inputs[k]? = some (n.inputs.getD k 0) := by
  obtain ⟨es, hes⟩ := getx n.ends k hk
  have e : n.ends.getD k [] = es := by simp [List.getD_eq_getElem?_getD, hes]
  obtain ⟨r1, r2⟩ := netOk_row h hes
  unfold netOk at h
  simp only [Bool.and_eq_true] at h
  obtain ⟨⟨⟨-, i1⟩, i2⟩, -⟩ := h
  unfold inputsB at i2
  simp only [Bool.and_eq_true, beq_iff_eq] at i2
  obtain ⟨ink, hink⟩ := getx n.inputs k (by omega)
  have hids : n.ids.length ≠ 0 → n.ids[k]? = some (n.ids.getD k 0) := fun h0 => by
    unfold idsB at i1
    simp only [Bool.or_eq_true, Bool.and_eq_true, beq_iff_eq] at i1
    have : n.ids.length = n.ends.length := by
      rcases i1 with e | ⟨e, -⟩
      · exact absurd (by simpa using e) h0
      · omega
    have hk' : k < n.ids.length := by omega
    rw [List.getD_eq_getElem?_getD, List.getElem?_eq_getElem hk']; rfl
  rw [e]
  exact ⟨hes, r1, r2, hids, by rw [hink]; simp [hink]⟩
/-- the kinds of searches -/
def KindOk (s m most : Int) : Prop := (s = 0 ∧ 3 ≤ m ∧ m ≤ 40 ∧ most = m - 1) ∨ (1 ≤ s ∧ s ≤ 5 ∧ 0 ≤ most ∧ most ≤ 999999999999)
theorem KindOk.most {s m most : Int} (h : KindOk s m most) : 0 ≤ most ∧ most ≤ 999999999999 := by unfold KindOk at h; omega
def accG (n : Net) (s m : Int) (ls : List Int) (k : Nat) : Bool := if s = 0 then modS m (ls.getD k 0) (nearB ls (n.ends.getD k [])) else accAt n s ls k
section
variable {W W' : World} {B : Nat} {ve vi vn vl : Value} {s m most lim st : Int}
end
set_option maxHeartbeats 4000000 in
theorem roFree_any (N : Nat) (w : World) (hN : N ≤ 1000000) : Calls Tryz.prog 163 #[.int .i64 N] w fun e w' => ∃ u, e = .returned u ∧ Own w' w.heap.size u (List.replicate N (-1)) ∧ Below w.heap.size w w' := by
  go_enter Tryz.func163, Tryz.ntmps163
  go_wp2_with (at_make; refine mk_ints _ rfl _ _ rfl _ _ N rfl rfl rfl rfl (by omega) ?_; intro w1 ho1 hb1 hz1)
  obtain ⟨g, hg⟩ : ∃ g, g = w.heap.size := ⟨_, rfl⟩
  rw [← hg] at ho1 hz1 ⊢
  have Hg := Lib.hid hg
  clear hg hz1
  go_wp2
  go_loopw [9] (fun i wr => ∃ k : Nat, k ≤ N ∧ i = .int .i64 k ∧ Own wr w.heap.size (.slice (some ⟨g, 0, none⟩) N N) (List.replicate k (-1) ++ List.replicate (N - k) 0) ∧ Below w.heap.size w wr) (fun i _ => N - (intOf i).toNat)
  case atStart => exact ⟨0, Nat.zero_le _, rfl, by have := ho1; simpa [Hg.out] using this, hb1⟩
  case round =>
    obtain ⟨k, hk, rfl, ho, hb⟩ := hrel
    have Ho := Lib.hid ho
    have Hb := Lib.hid hb
    clear ho1 hb1 ho hb
    by_cases hlt : k < N
    · obtain ⟨y, hy⟩ := getx (List.replicate k (-1 : Int) ++ List.replicate (N - k) 0) k (by simp; omega)
      have cz := Ho.out.cell hy
      have fz := Ho.out.free k
      clear hy
      go_wp2
      go_roundw
      case rel =>
        refine ⟨k + 1, by omega, by go_num, ?_, Hb.out.setCell (by show w.heap.size ≤ g; rw [Hg.out]; exact Nat.le_refl _) _⟩
        have := Ho.out.set (k := k) (-1)
        have e : (List.replicate k (-1 : Int) ++ List.replicate (N - k) 0).set k (-1) = List.replicate (k + 1) (-1) ++ List.replicate (N - (k + 1)) 0 := by
          rw [List.set_append_right _ _ (by simp), List.length_replicate, Nat.sub_self, show N - k = (N - (k + 1)) + 1 by omega, List.replicate_succ, List.set_cons_zero, List.replicate_succ', List.append_assoc]
          rfl
        rwa [e] at this
      case measure => simp [intOf]; omega
    · obtain rfl : k = N := by omega
      go_wp2
      go_ret
      exact ⟨_, rfl, by have := Ho.out; rwa [Nat.sub_self, List.replicate_zero, List.append_nil] at this, Hb.out⟩
end Go.Proofs.YtlfehdikgbgloaaGreat
namespace Go.Proofs.YtlfehdikgbgloaaGreat
open Go.RowKit
theorem all_take_snoc {p : Int → Bool} {xs : List Int} {j : Nat} {x : Int} (hx : xs[j]? = some x) (h : (xs.take j).all p = true) (hp : p x = true) : (xs.take (j + 1)).all p = true := by
  rw [take_snoc hx, List.all_append, h]
  simp [hp]
theorem viewG_len (n : Net) (v : Nat) : (viewG n v).length = ((n.ends.getD v []).map fun e => e.1).length + 1 := by simp [viewG]
end Go.Proofs.YtlfehdikgbgloaaGreat
namespace Go.Proofs.YtlfehdikgbgloaaGreat
open Go.RowKit
/-- the search of the reference, as a whole -/
def srchR (n : Net) (s m most lim : Int) : List Int × Int × Int := srch (goodG n (accG n s m)) most lim (leftM lim 0 n.ends.length 0) (List.replicate n.ends.length (-1)) 0 0
theorem own_other {W : World} {base b k : Nat} {u : Value} {xs : List Int} (h : Own W base u xs) (hd : u.ownBlock ≠ some b) (v : Value) : Own (W.setCell ⟨b, k, none⟩ v) base u xs :=
  ownsRow_stable h fun j hj => Below.heap_setCell W _ v j (fun e => hd (by simp at hj; rw [hj, e]))
theorem getD_some {ls : List Int} {v : Nat} (h : v < ls.length) : ls[v]? = some (ls.getD v 0) := by rw [List.getD_eq_getElem?_getD, List.getElem?_eq_getElem h]; rfl
end Go.Proofs.YtlfehdikgbgloaaGreat
