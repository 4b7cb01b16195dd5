import Derived.Test.YtbfoefkfcnaimaaGreatSrch4
import Derived.Test.YtbfoefkfcnaimaaGreatRej
namespace Go.Proofs.YtbfoefkfcnaimaaGreat
open Go.RowKit
theorem srch_none_list (good : List Int → Nat → Bool) (most lim : Int) : ∀ (f : Nat) (ls : List Int) (v : Nat) (made : Int), (srch good most lim f ls v made).2.1 ≠ 1 → (srch good most lim f ls v made).1 = []
  | 0, _, _, _, _ => rfl
  | f + 1, ls, v, made, h => by
    unfold srch at h ⊢
    split at h
    · rename_i h1
      rw [if_pos h1]
      split at h
      · rename_i h2
        rw [if_pos h2]
        split at h
        · rename_i h3
          rw [if_pos h3]
        · rename_i h3
          rw [if_neg h3]
          exact srch_none_list good most lim f _ _ _ h
      · rename_i h2
        rw [if_neg h2]
        split at h
        · rename_i h3
          rw [if_pos h3]
        · rename_i h3
          rw [if_neg h3]
          exact srch_none_list good most lim f _ _ _ h
    · exact absurd rfl h
theorem srch_len (good : List Int → Nat → Bool) (most lim : Int) : ∀ (f : Nat) (ls : List Int) (v : Nat) (made : Int), (srch good most lim f ls v made).1.length ≤ ls.length
  | 0, _, _, _ => Nat.zero_le _
  | f + 1, ls, v, made => by
    unfold srch
    split
    · split
      · split
        · exact Nat.zero_le _
        · have := srch_len good most lim f (ls.set v (-1)) (v - 1) made
          rwa [List.length_set] at this
      · split
        · exact Nat.zero_le _
        · have := srch_len good most lim f (ls.set v (ls.getD v 0 + 1)) (if good (ls.set v (ls.getD v 0 + 1)) v then v + 1 else v) (made + 1)
          rwa [List.length_set] at this
    · exact Nat.le_refl _
set_option maxHeartbeats 1000000 in
theorem found_any (ve vi vn vl : Value) (s m most lim st z : Int) (B : Nat) (w : World) (ha : AS w B ve vi vn s m most lim st vl) :
    Calls Tryz.prog 18 #[.pointer (some ⟨B, 0, none⟩), .int .i64 z] w fun e w' => e = .returned (if z = 1 then vl else .slice none 0 0) ∧ Below w.heap.size w w' := by
  have c8 := ha.c8
  by_cases hz : z = 1
  · subst hz
    rw [if_pos rfl]
    go_enter Tryz.func18, Tryz.ntmps18
    go_wp2
    go_ret
    exact ⟨rfl, Below.refl _ _⟩
  · rw [if_neg hz]
    have hzf : (z == 1) = false := by rw [beq_eq_false_iff_ne]; exact hz
    have hzb : (z != 1) = true := by simpa using hz
    go_enter Tryz.func18, Tryz.ntmps18
    go_wp2
    go_ret
    exact ⟨rfl, Below.refl _ _⟩
def fnExactForgeModulo_r3 (n : Net) (m steps : Int) : Bool := netOk n && inB 3 40 m && inB 0 200000 steps
def fnExactForgeModulo_r2 (n : Net) (m steps : Int) : Int := if fnExactForgeModulo_r3 n m steps then (srchR n 0 m (m - 1) steps).2.2 else 0
def fnExactForgeModulo_r1 (n : Net) (m steps : Int) : Int := if fnExactForgeModulo_r3 n m steps then (srchR n 0 m (m - 1) steps).2.1 else 0
def fnExactForgeModulo_d (n : Net) (m steps : Int) : List Int := if fnExactForgeModulo_r3 n m steps then (srchR n 0 m (m - 1) steps).1 else []
theorem fnExactForgeModulo_dl (n : Net) (m steps : Int) (hsz : szNet n ≤ 1048576) : (fnExactForgeModulo_d n m steps).length ≤ 4611686018427387904 := by
  unfold fnExactForgeModulo_d
  split
  · have := srch_len (goodG n (accG n 0 m)) (m - 1) steps (leftM steps 0 n.ends.length 0) (List.replicate n.ends.length (-1)) 0 0
    unfold srchR
    unfold szNet szEE at hsz
    rw [List.length_replicate] at this
    omega
  · simp
theorem tup4 {u : Value} {a b a' b' : Int} {c c' : Bool} (h1 : a = a') (h2 : b = b') (h3 : c = c') : Ending.returned (.tuple #[u, .int .i64 a, .int .i64 b, .bool c]) = .returned (.tuple #[u, .int .i64 a', .int .i64 b', .bool c']) := by rw [h1, h2, h3]
theorem results_tmp4 {fn : Func} {t u v x : Tmp} (h : fn.results = #[.tmp t, .tmp u, .tmp v, .tmp x]) (tmps : Array Value) (P : Program) (w : World) :
    (results fn tmps).run P w = .ok (.tuple #[tmps.getD t undef, tmps.getD u undef, tmps.getD v undef, tmps.getD x undef]) w := by
  simp [results, h]
end Go.Proofs.YtbfoefkfcnaimaaGreat
namespace Go.Proofs.YtbfoefkfcnaimaaGreat
open Go.RowKit
end Go.Proofs.YtbfoefkfcnaimaaGreat
