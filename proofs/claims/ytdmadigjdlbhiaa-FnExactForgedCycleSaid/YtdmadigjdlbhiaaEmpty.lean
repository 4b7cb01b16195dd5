import Derived.Test.YtdmadigjdlbhiaaNetLaw
import Derived.Test.YtdmadigjdlbhiaaIsNet
namespace Go.Proofs.Ytdmadigjdlbhiaa
open Go.RowKit
theorem es_info : (Try.prog.info? 68).map (fun i => (i.zero, i.size, i.bytes)) = some (some (.slice none 0 0), 1, 24) := by kernel_rfl
theorem end_info : (Try.prog.info? 67).map (fun i => (i.zero, i.size, i.bytes)) = some (some (.agg #[.int .i64 0, .int .i64 0]), 2, 16) := by kernel_rfl
theorem made_rep (z : Value) (n : Nat) : madeCells #[z] (n * 1) = Array.replicate n z := by
  apply Array.ext'
  rw [toList_madeCells_one]; simp
/-- make([][]End, n), whatever the world -/
theorem run_mk_rows (n : Nat) (hn : n ≤ 1000000) (W : World) : (Instr.makeSlice 37 (.int .i64 (n : Int)) (.int .i64 (n : Int))).run Try.prog W = .ok (.slice (some ⟨W.heap.size, 0, none⟩) n n) (W.alloc (.cells (Array.replicate n (Value.slice none 0 0)) 68)) := by
  obtain ⟨i0, hi, hz0, hz1, hz2⟩ := info_parts es_info
  have hr := run_make (P := Try.prog) W 37 68 i0 (.slice none 0 0) Try.underlying37 hi hz0 .i64 .i64 n n (by omega) (Int.le_refl _) (by rw [hz2]; omega) (by omega)
  rw [hz1] at hr
  simp only [Int.toNat_natCast] at hr
  rw [show (Value.slice none 0 0).cells = #[Value.slice none 0 0] from rfl, made_rep] at hr
  exact hr
theorem run_mk_ints (n : Nat) (hn : n ≤ 1000000) (W : World) : (Instr.makeSlice 25 (.int .i64 (n : Int)) (.int .i64 (n : Int))).run Try.prog W = .ok (.slice (some ⟨W.heap.size, 0, none⟩) n n) (W.alloc (.cells (Array.replicate n (Value.int .i64 0)) 3)) := by
  obtain ⟨i0, hi, hz0, hz1, hz2⟩ := info_parts int_info
  have hr := run_make (P := Try.prog) W 25 3 i0 (.int .i64 0) Try.underlying25 hi hz0 .i64 .i64 n n (by omega) (Int.le_refl _) (by rw [hz2]; omega) (by omega)
  rw [hz1] at hr
  simp only [Int.toNat_natCast] at hr
  rw [show (Value.int IntKind.i64 0).cells = #[Value.int .i64 0] from rfl, made_rep] at hr
  exact hr
def emptyNet (n : Nat) : Net := { ends := List.replicate n [], ids := [], inputs := List.replicate n 0 }
theorem ownE_nil (w : World) (base : Nat) : OwnE w base (.slice none 0 0) [] [] := ⟨World.ownsRow_nil w base _ _, rfl⟩
theorem ownI_nil (w : World) (base : Nat) : OwnI w base (.slice none 0 0) [] [] := ⟨own_nil w base, rfl⟩
theorem own_made (w : World) (n : Nat) (hn : n ≤ 1000000) : OwnI (w.alloc (.cells (Array.replicate n (Value.int .i64 0)) 3)) w.heap.size (.slice (some ⟨w.heap.size, 0, none⟩) n n) (List.replicate n 0) [w.heap.size] := by
  have := own_lit w (List.replicate n 0) (by simp [maxLen]; omega)
  simp only [List.length_replicate, List.map_replicate, List.toArray_replicate] at this
  exact ⟨this, rfl⟩
theorem ownEE_made (w : World) (n : Nat) (hn : n ≤ 1000000) : OwnEE (w.alloc (.cells (Array.replicate n (Value.slice none 0 0)) 68)) w.heap.size (.slice (some ⟨w.heap.size, 0, none⟩) n n) (List.replicate n []) [w.heap.size] :=
  by have := OwnRows.made (R := OwnE) (e := 68) n (by simp [maxLen]; omega) ownE_nil w; rw [List.toArray_replicate] at this; exact this
theorem ownNet_two (w : World) (B : Obj) (n : Nat) (hn : n ≤ 1000000) :
    OwnNet (((w.alloc B).alloc (.cells (Array.replicate n (Value.slice none 0 0)) 68)).alloc (.cells (Array.replicate n (Value.int .i64 0)) 3)) w.heap.size
      (.slice (some ⟨w.heap.size + 1, 0, none⟩) n n) (.slice none 0 0) (.slice (some ⟨w.heap.size + 1 + 1, 0, none⟩) n n) (emptyNet n) [w.heap.size + 1, w.heap.size + 1 + 1] := by
  have h1 := ownEE_made (w.alloc B) n hn
  have h2 := own_made ((w.alloc B).alloc (.cells (Array.replicate n (Value.slice none 0 0)) 68)) n hn
  simp only [World.size_alloc] at h1 h2
  exact ⟨[w.heap.size + 1], [], [w.heap.size + 1 + 1], lawEE.mono (lawEE.keep h1 (below_alloc _ _)) (by omega), ownI_nil _ _, lawI.mono h2 (by omega), rfl, by simp⟩
theorem ownNet_two' (w : World) (B : Obj) (n : Nat) (hn : n ≤ 1000000) :
    OwnNet (((w.alloc B).alloc (.cells (Array.replicate n (Value.int .i64 0)) 3)).alloc (.cells (Array.replicate n (Value.slice none 0 0)) 68)) w.heap.size
      (.slice (some ⟨w.heap.size + 1 + 1, 0, none⟩) n n) (.slice none 0 0) (.slice (some ⟨w.heap.size + 1, 0, none⟩) n n) (emptyNet n) [w.heap.size + 1 + 1, w.heap.size + 1] := by
  have h1 := own_made (w.alloc B) n hn
  have h2 := ownEE_made ((w.alloc B).alloc (.cells (Array.replicate n (Value.int .i64 0)) 3)) n hn
  simp only [World.size_alloc] at h1 h2
  exact ⟨[w.heap.size + 1 + 1], [], [w.heap.size + 1], lawEE.mono h2 (by omega), ownI_nil _ _, lawI.mono (lawI.keep h1 (below_alloc _ _)) (by omega), rfl, by simp⟩
theorem below3 (w : World) (a b c : Obj) : Below w.heap.size w (((w.alloc a).alloc b).alloc c) := (((Below.refl _ _).alloc (Nat.le_refl _) _).alloc (by simp) _).alloc (by simp; omega) _
theorem OwnNet.drew {w : World} {base : Nat} {ve vi vn : Value} {n : Net} {S : List Nat} (h : OwnNet w base ve vi vn n S) : OwnNet w.drew base ve vi vn n S := h.stable fun _ _ => rfl
/-- a new network came back -/
def NewNet (w : World) (n : Net) (e : Ending) (w' : World) : Prop := ∃ ve vi vn S, e = .returned (.agg #[ve, vi, vn]) ∧ OwnNet w' w.heap.size ve vi vn n S ∧ Below w.heap.size w w'
set_option maxHeartbeats 1000000 in
theorem neEmpty_any (n : Nat) (hn : n ≤ 1000000) (w : World) : Calls Try.prog 58 #[.int .i64 n] w (NewNet w (emptyNet n)) := by
  have m1 := run_mk_rows n hn
  have m2 := run_mk_ints n hn
  go_enter Try.func58, Try.ntmps58
  go_wp2
  go_region
  · go_wp2
    refine bodyPost_ret (v := .agg #[.slice (some ⟨w.heap.size + 1, 0, none⟩) n n, .slice none 0 0, .slice (some ⟨w.heap.size + 1 + 1, 0, none⟩) n n]) (by simp [results, Try.results58, go_sem]) rfl ?_
    exact ⟨_, _, _, _, rfl, (ownNet_two w _ n hn).drew, (below3 _ _ _ _).drew⟩
  · go_wp2
    refine bodyPost_ret (v := .agg #[.slice (some ⟨w.heap.size + 1 + 1, 0, none⟩) n n, .slice none 0 0, .slice (some ⟨w.heap.size + 1, 0, none⟩) n n]) (by simp [results, Try.results58, go_sem]) rfl ?_
    exact ⟨_, _, _, _, rfl, (ownNet_two' w _ n hn).drew, (below3 _ _ _ _).drew⟩
end Go.Proofs.Ytdmadigjdlbhiaa
