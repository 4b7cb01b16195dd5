import Derived.Test.YthgbobikbdklhaaBfs1
import Derived.Test.YthgbobikbdklhaaQueue
import Derived.Test.YthgbobikbdklhaaRep
namespace Go.Proofs.Ythgbobikbdklhaa
open Go.RowKit
theorem Own.onlyq {W W' : World} {base g : Nat} {u : Value} {xs : List Int} (h : Own W base u xs) (ho : Only [g] W W') (hd : u.ownBlock ≠ some g) : Own W' base u xs :=
  ownsRow_stable h fun j hj => ho.block j (World.ownsRow.lt h j (by simpa using hj)).2 (fun hs => hd (by simp at hs; subst hs; simpa using hj))
end Go.Proofs.Ythgbobikbdklhaa
