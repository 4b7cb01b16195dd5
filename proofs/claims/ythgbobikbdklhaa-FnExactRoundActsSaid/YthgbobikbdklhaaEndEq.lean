import Derived.Test.YthgbobikbdklhaaFlow
import Derived.Test.YthgbobikbdklhaaNetW
namespace Go.Proofs.Ythgbobikbdklhaa
open Go Go.RowKit
@[simp ↓] theorem run_neq_end (a b c d : Int) (w : World) : (binOp .neq 57 (.agg #[.int .i64 a, .int .i64 b]) (.agg #[.int .i64 c, .int .i64 d])).run Try.prog w = .ok (.bool (!eqE (a, b) (c, d))) w := by
  go_simp
  by_cases f1 : a = c
  · by_cases f2 : b = d
    · simp [f1, f2, eqE]
    · simp [f1, f2, eqE]
  · simp [f1, eqE]
@[simp ↓] theorem run_eql_end (a b c d : Int) (w : World) : (binOp .eql 57 (.agg #[.int .i64 a, .int .i64 b]) (.agg #[.int .i64 c, .int .i64 d])).run Try.prog w = .ok (.bool (eqE (a, b) (c, d))) w := by
  go_simp
  by_cases f1 : a = c
  · by_cases f2 : b = d
    · simp [f1, f2, eqE]
    · simp [f1, f2, eqE]
  · simp [f1, eqE]
theorem NetIn.es {w : World} {a b c : Value} {n : Net} (h : NetIn w a b c n) : EndSS w a n.ends := h.1
theorem NetIn.is {w : World} {a b c : Value} {n : Net} (h : NetIn w a b c n) : IntS w b n.ids := h.2.1
theorem NetIn.ns {w : World} {a b c : Value} {n : Net} (h : NetIn w a b c n) : IntS w c n.inputs := h.2.2
theorem end_zero (ev : Operand → Value) (d : Option Tmp) (ty : TypeId) (pos : String) (af : Array Edge) (W : World) : (execOp ev ⟨d, .alloc 57, ty, pos, af, none⟩).run Try.prog W = .ok (.value (ptr W.heap.size)) (W.alloc (.cells #[.int .i64 0, .int .i64 0] 57)) := by
  unfold ptr
  go_simp
theorem end_store (ev : Operand → Value) (ty : TypeId) (pos : String) (af : Array Edge) (W : World) (p x : Operand) (b : Nat) (q1 q2 : Value) (y1 y2 : Int) (h1 : ev p = ptr b) (h2 : ev x = .agg #[.int .i64 y1, .int .i64 y2]) (h3 : W.cell? ⟨b, 0, none⟩ = some q1) (h4 : W.cell? ⟨b, 1, none⟩ = some q2) (h5 : W.frozen? ⟨b, 0, none⟩ = false) (h6 : W.frozen? ⟨b, 1, none⟩ = false) :
    (execOp ev ⟨none, .store 57 p x, ty, pos, af, none⟩).run Try.prog W = .ok .skip ((W.setCell ⟨b, 0, none⟩ (.int .i64 y1)).setCell ⟨b, 1, none⟩ (.int .i64 y2)) := by
  unfold ptr at h1
  go_simp
theorem wr64 (z : Int) (h : -9223372036854775808 ≤ z) (h2 : z ≤ 9223372036854775807) : IntKind.i64.wrap z = z := IntWalk.i64_in z ⟨h, h2⟩
end Go.Proofs.Ythgbobikbdklhaa
