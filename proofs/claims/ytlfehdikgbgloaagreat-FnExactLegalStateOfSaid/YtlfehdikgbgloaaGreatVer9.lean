import Derived.Test.YtlfehdikgbgloaaGreatVer6
import Derived.Test.YtlfehdikgbgloaaGreatDel
namespace Go.Proofs.YtlfehdikgbgloaaGreat
open Go.RowKit
/-- the nodes that reject -/
def rejL (n : Net) (s : Int) (ls : List Int) : List Int := keptB (fun v => accAt n s ls v.toNat) (upto ls.length)
theorem rejL_le (n : Net) (s : Int) (ls : List Int) : (rejL n s ls).length ≤ ls.length := by
  have := kept_le (fun v => accAt n s ls v.toNat) (upto ls.length)
  rw [upto_len] at this
  exact this
theorem kept_snoc' (p : Int → Bool) (k : Nat) : keptB p (upto (k + 1)) = keptB p (upto k) ++ if p k then [] else [(k : Int)] := by
  rw [upto_snoc]
  unfold keptB
  rw [List.filter_append]
  congr 1
  cases h : p (k : Int) <;> simp [h]
def fnExactRejectingNodes_r1 (n : Net) (s : Int) (ls : List Int) : Bool := labOk n s ls
def fnExactRejectingNodes_d (n : Net) (s : Int) (ls : List Int) : List Int := if labOk n s ls then rejL n s ls else []
def fnExactIsAccepted_r1 (n : Net) (s : Int) (ls : List Int) : Bool := labOk n s ls
def fnExactIsAccepted_r0 (n : Net) (s : Int) (ls : List Int) : Bool := labOk n s ls && (rejL n s ls).length == 0
theorem fnExactRejectingNodes_dl (n : Net) (s : Int) (ls : List Int) (_ : szNet n ≤ 1048576) (hb : ls.length ≤ 1048576) : (fnExactRejectingNodes_d n s ls).length ≤ 4611686018427387904 := by
  unfold fnExactRejectingNodes_d
  split
  · have := rejL_le n s ls
    omega
  · simp
end Go.Proofs.YtlfehdikgbgloaaGreat
