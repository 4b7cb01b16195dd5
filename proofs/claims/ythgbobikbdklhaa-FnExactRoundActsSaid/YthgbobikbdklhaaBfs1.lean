import Derived.Test.YthgbobikbdklhaaBfsPlain
import Derived.Test.YthgbobikbdklhaaChain
import Derived.Test.YthgbobikbdklhaaDel
import Derived.Test.YthgbobikbdklhaaFlow5
namespace Go.Proofs.Ythgbobikbdklhaa
open Go.RowKit
theorem own_oth {W : World} {base b k : Nat} {u : Value} {xs : List Int} (h : Own W base u xs) (hd : u.ownBlock ≠ some b) (v : Value) : Own (W.setCell ⟨b, k, none⟩ v) base u xs :=
  ownsRow_stable h fun j hj => Below.heap_setCell W _ v j (fun e => hd (by simp at hj; rw [hj, e]))
theorem getD_at {ls : List Int} {v : Nat} (h : v < ls.length) : ls[v]? = some (ls.getD v 0) := by rw [List.getD_eq_getElem?_getD, List.getElem?_eq_getElem h]; rfl
theorem pre_at {xs ys zs : List Int} {i : Nat} {x : Int} (h : zs = xs ++ ys) (hx : xs[i]? = some x) : zs[i]? = some x := by
  rw [h, List.getElem?_append_left (lt_of_get hx)]; exact hx
end Go.Proofs.Ythgbobikbdklhaa
