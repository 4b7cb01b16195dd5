/- Parts of the proof: walks of functions and plain laws. -/
import Derived.Test.YtgmdpppljkmabaaGreatP0
import Derived.Test.YtgmdpppljkmabaaGreatP3
set_option maxRecDepth 100000
set_option maxHeartbeats 16000000
namespace Go.Proofs.YtgmdpppljkmabaaGreat
open Go Go.RowKit
def al (n : am) (v : Nat) : Nat:=((List.range n.ends.length).find? fun w => decide (0 ≤ (dM n v).getD w 0)).getD 0
def dW (n : am) : List Int:=(List.range n.ends.length).map fun v => (al n v : Int)
theorem bK {n : am} (hn : an n = true) {v : Nat} (hv : v < n.ends.length) : fH n v (al n v) ∧ al n v < n.ends.length ∧ (∀ w,fH n v w → al n v ≤ w):=by
 unfold al
 cases h : (List.range n.ends.length).find? fun w => decide (0 ≤ (dM n v).getD w 0) with
 | none =>
  have:=List.find?_eq_none.1 h v (List.mem_range.2 hv)
  exact absurd (decide_eq_true ((iG hn hv hv).2 fH.refl)) this
 | some u =>
  rw [List.find?_range_eq_some] at h;obtain ⟨h1,h2,h3⟩:=h;have hu:=List.mem_range.1 h2;refine ⟨(iG hn hv hu).1 (of_decide_eq_true h1),hu,fun w hw => ?_⟩
  show u ≤ w
  rcases Nat.lt_or_ge w u with hlt | hge
  ·have:=h3 w hlt
   rw [decide_eq_true ((iG hn hv (by omega)).2 hw)] at this;cases this
  ·exact hge
theorem AH {n : am} (hn : an n = true) {v : Nat} (hv : v < n.ends.length) : al n v ≤ v:=(bK hn hv).2.2 v fH.refl
theorem fK {n : am} (hn : an n = true) {a b : Nat} (ha : a < n.ends.length) (h : fH n a b) : al n a = al n b:=by
 have hb:=lv hn ha h;have h1:=bK hn ha;have h2:=bK hn hb;exact Nat.le_antisymm (h1.2.2 _ (h.trans h2.1)) (h2.2.2 _ ((h.symm hn ha).trans h1.1))
theorem pB {n : am} (hn : an n = true) {v : Nat} (hv : v < n.ends.length) : al n (al n v) = al n v:=(fK hn hv (bK hn hv).1).symm
theorem rz {n : am} (hn : an n = true) {k w : Nat} (hk : k < n.ends.length) (hw : w < n.ends.length) (hr : al n k = k) : fH n k w ↔ al n w = k:=by
 constructor
 ·intro h;rw [← fK hn hk h,hr]
 ·intro h;have:=(bK hn hw).1;rw [h] at this;exact this.symm hn hw
def fE (n : am) (k j : Nat) : List Int:=(List.range n.ends.length).map fun w => if decide (al n w < k) || (decide (al n w = k) && decide (w < j)) then (al n w : Int) else -1
theorem dU (n : am) (k j : Nat) : (fE n k j).length = n.ends.length:=by simp [fE]
theorem fh {n : am} {k j w : Nat} (hw : w < n.ends.length) : (fE n k j)[w]? = some (if decide (al n w < k) || (decide (al n w = k) && decide (w < j)) then (al n w : Int) else -1):=by
 unfold fE;rw [List.getElem?_map,List.getElem?_range hw];rfl
theorem AJ (n : am) : fE n 0 0 = List.replicate n.ends.length (-1):=by
 apply List.ext_getElem?
 intro w
 by_cases hw : w < n.ends.length
 ·rw [fh hw,List.getElem?_replicate,if_pos hw];simp
 ·rw [List.getElem?_eq_none (by rw [dU];omega),List.getElem?_eq_none (by simp;omega)]
theorem Dm (n : am) {j : Nat} (hn : an n = true) : fE n n.ends.length j = dW n:=by
 apply List.ext_getElem?
 intro w
 by_cases hw : w < n.ends.length
 ·rw [fh hw,if_pos (by simp [(bK hn hw).2.1])]
  unfold dW;rw [List.getElem?_map,List.getElem?_range hw];rfl
 ·rw [List.getElem?_eq_none (by rw [dU];omega),List.getElem?_eq_none (by simp [dW];omega)]
theorem AK (n : am) (k : Nat) : fE n k n.ends.length = fE n (k + 1) 0:=by
 apply List.ext_getElem?
 intro w
 by_cases hw : w < n.ends.length
 ·rw [fh hw,fh hw];congr 2
  simp only [Bool.or_eq_true,Bool.and_eq_true,decide_eq_true_eq,eq_iff_iff];omega
 ·rw [List.getElem?_eq_none (by rw [dU];omega),List.getElem?_eq_none (by rw [dU];omega)]
theorem AM {n : am} (hn : an n = true) {k : Nat} (hk : k < n.ends.length) (hr : al n k ≠ k) : fE n k 0 = fE n (k + 1) 0:=by
 apply List.ext_getElem?
 intro w
 by_cases hw : w < n.ends.length
 ·rw [fh hw,fh hw];congr 2
  simp only [Bool.or_eq_true,Bool.and_eq_true,decide_eq_true_eq,eq_iff_iff]
  have : al n w ≠ k:=fun h => hr (by rw [← h];exact pB hn hw)
  omega
 ·rw [List.getElem?_eq_none (by rw [dU];omega),List.getElem?_eq_none (by rw [dU];omega)]
theorem AW {n : am} (hn : an n = true) {k : Nat} (hk : k < n.ends.length) : ∃ x,(fE n k 0)[k]? = some x ∧ (0 ≤ x ↔ al n k ≠ k):=by
 refine ⟨_,fh hk,?_⟩
 have:=AH hn hk
 by_cases h : al n k = k
 ·rw [h];simp
 ·rw [if_pos (by simp;omega)];constructor
  ·intro _;exact h
  ·intro _;omega
theorem Dn {n : am} (hn : an n = true) {k j : Nat} (hk : k < n.ends.length) (hj : j < n.ends.length) (hr : al n k = k) (hd : 0 ≤ (dM n k).getD j 0) : (fE n k j).set j (k : Int) = fE n k (j + 1):=by
 have hl:=(rz hn hk hj hr).1 ((iG hn hk hj).1 hd);apply List.ext_getElem?
 intro w
 by_cases hw : w < n.ends.length
 ·rw [List.getElem?_set,fh hw,fh hw,dU]
  by_cases e : j = w
  ·subst e;rw [if_pos rfl,if_pos hj,hl,if_pos (by simp)]
  ·rw [if_neg e];congr 2
   simp only [Bool.or_eq_true,Bool.and_eq_true,decide_eq_true_eq,eq_iff_iff];omega
 ·rw [List.getElem?_eq_none (by rw [List.length_set,dU];omega),List.getElem?_eq_none (by rw [dU];omega)]
theorem AX {n : am} (hn : an n = true) {k j : Nat} (hk : k < n.ends.length) (hj : j < n.ends.length) (hr : al n k = k) (hd : ¬ 0 ≤ (dM n k).getD j 0) : fE n k j = fE n k (j + 1):=by
 have hl : al n j ≠ k:=fun h => hd ((iG hn hk hj).2 ((rz hn hk hj hr).2 h))
 apply List.ext_getElem?
 intro w
 by_cases hw : w < n.ends.length
 ·rw [fh hw,fh hw];congr 2
  simp only [Bool.or_eq_true,Bool.and_eq_true,decide_eq_true_eq,eq_iff_iff]
  by_cases e : j = w
  ·subst e;omega
  ·omega
 ·rw [List.getElem?_eq_none (by rw [dU];omega),List.getElem?_eq_none (by rw [dU];omega)]
end Go.Proofs.YtgmdpppljkmabaaGreat
