import Derived.Test.YtdmadigjdlbhiaaWired
namespace Go.Proofs.Ytdmadigjdlbhiaa
open Go.RowKit
/-- a new network and true came back -/
def NewNetT (w : World) (n : Net) (e : Ending) (w' : World) : Prop := ∃ ve vi vn S, e = .returned (.tuple #[.agg #[ve, vi, vn], .bool true]) ∧ OwnNet w' w.heap.size ve vi vn n S ∧ Below w.heap.size w w'
set_option maxHeartbeats 1000000 in
theorem emptyNetwork_ok (n : Nat) (h0 : 1 ≤ n) (h1 : n ≤ 40) (w : World) : Calls Try.prog 66 #[.int .i64 n] w (NewNetT w (emptyNet n)) := by
  have hn : n ≤ 1000000 := by omega
  have m1 := run_mk_rows n hn
  have m2 := run_mk_ints n hn
  have hin : inB 1 40 (n : Int) = true := inB_iff.2 ⟨by omega, by omega⟩
  go_enter Try.func66, Try.ntmps66
  go_wp2_with (go_at_call 38; refine (within_b _ _ _ _).mono ?_; rintro e w' ⟨rfl, rfl⟩)
  go_region
  · go_wp2
    refine bodyPost_ret (v := .tuple #[.agg #[.slice (some ⟨w.heap.size + 1, 0, none⟩) n n, .slice none 0 0, .slice (some ⟨w.heap.size + 1 + 1, 0, none⟩) n n], .bool true]) (by simp [results, Try.results66, go_sem]) rfl ?_
    exact ⟨_, _, _, _, rfl, (ownNet_two w _ n hn).drew, (below3 _ _ _ _).drew⟩
  · go_wp2
    refine bodyPost_ret (v := .tuple #[.agg #[.slice (some ⟨w.heap.size + 1 + 1, 0, none⟩) n n, .slice none 0 0, .slice (some ⟨w.heap.size + 1, 0, none⟩) n n], .bool true]) (by simp [results, Try.results66, go_sem]) rfl ?_
    exact ⟨_, _, _, _, rfl, (ownNet_two' w _ n hn).drew, (below3 _ _ _ _).drew⟩
set_option maxHeartbeats 1000000 in
theorem cycleEnd_any (k v i b0 : Nat) (hk0 : 1 ≤ k) (hk : k ≤ 1000) (hv : v < k) (x y : Int) (hi : (cycRow k v)[i]? = some (x, y)) (w : World) (hc : w.cell? ⟨b0, 0, none⟩ = some (.int .i64 k)) :
    Calls Try.prog 60 #[.int .i64 v, .int .i64 i, .pointer (some ⟨b0, 0, none⟩)] w fun e w' => e = .returned (.agg #[.int .i64 x, .int .i64 y]) ∧ Below w.heap.size w w' := by
  obtain ⟨p, hp⟩ : ∃ p, p = (v + 1) % k := ⟨_, rfl⟩
  obtain ⟨q, hq⟩ : ∃ q, q = (v + k - 1) % k := ⟨_, rfl⟩
  have e1 : ((v : Int) + 1).tmod k = (p : Int) := by rw [hp, Int.tmod_eq_emod_of_nonneg (by omega)]; simp
  have e2 : ((v : Int) + k - 1).tmod k = (q : Int) := by
    rw [hq, Int.tmod_eq_emod_of_nonneg (by omega), Int.natCast_emod]; congr 1; omega
  have h1 : p < k := hp ▸ Nat.mod_lt _ (by omega)
  have h2 : q < k := hq ▸ Nat.mod_lt _ (by omega)
  rw [cycRow, ← hp, ← hq] at hi
  have hlt := World.block_lt_of_cell? w _ hc
  simp only at hlt
  clear hp hq
  match i, hi with
  | 0, hi =>
    simp at hi
    obtain ⟨rfl, rfl⟩ := hi
    go_enter Try.func60, Try.ntmps60
    go_wp2
    refine bodyPost_ret (v := .agg #[.int .i64 p, .int .i64 1]) (by simp [results, Try.results60, go_sem]) rfl ?_
    exact ⟨rfl, below_alloc _ _⟩
  | 1, hi =>
    simp at hi
    obtain ⟨rfl, rfl⟩ := hi
    go_enter Try.func60, Try.ntmps60
    go_wp2
    refine bodyPost_ret (v := .agg #[.int .i64 q, .int .i64 0]) (by simp [results, Try.results60, go_sem]) rfl ?_
    exact ⟨rfl, below_alloc _ _⟩
  | i + 2, hi => simp at hi
set_option maxHeartbeats 1000000 in
theorem network_ok (ve vi vn : Value) (n : Net) (w : World) (h : NetIn w ve vi vn n) (hl : n.ids.length ≤ 17592186044416) (hok : netOk n = true) :
    Calls Try.prog 67 #[.agg #[ve, vi, vn]] w fun e w' => e = .returned (.tuple #[.agg #[ve, vi, vn], .bool true]) ∧ Below w.heap.size w w' := by
  have hb0 : Below w.heap.size w ((w.alloc (.cells #[ve, vi, vn] 39)).alloc (.cells #[.slice none 0 0, .slice none 0 0, .slice none 0 0] 39)) := (below_alloc _ _).alloc (by simp) _
  have H := Lib.hid (h.keep hb0)
  obtain ⟨⟨A1, c1, rfl, _, _, _⟩, ⟨A2, c2, rfl, _, _, _⟩, ⟨A3, c3, rfl, _, _, _⟩⟩ := h
  have Hb0 := Lib.hid hb0
  clear hb0
  go_enter Try.func67, Try.ntmps67
  go_wp2_with fail
  refine (isNetwork_any _ _ _ n _ H.out hl).mono ?_
  rw [hok]
  rintro e w1 ⟨rfl, hb⟩
  have hx0 := (Box3.new w (.slice A1 n.ends.length c1) (.slice A2 n.ids.length c2) (.slice A3 n.inputs.length c3) 39).alloc (.cells #[.slice none 0 0, .slice none 0 0, .slice none 0 0] 39)
  have hx1 := Box3.new (w.alloc (.cells #[.slice A1 n.ends.length c1, .slice A2 n.ids.length c2, .slice A3 n.inputs.length c3] 39)) (.slice none 0 0) (.slice none 0 0) (.slice none 0 0) 39
  simp only [World.size_alloc] at hx1
  obtain ⟨r0, r1, r2, _⟩ := (hx0.below hb (by simp; omega)).cells
  obtain ⟨s0, s1, s2, t0, t1, t2⟩ := (hx1.below hb (by simp)).cells
  have Hb := Lib.hid (Hb0.out.trans (hb.mono (by simp; omega)))
  clear hx0 hx1 hb
  go_wp2
  refine bodyPost_ret (v := .tuple #[.agg #[.slice A1 n.ends.length c1, .slice A2 n.ids.length c2, .slice A3 n.inputs.length c3], .bool true]) (by simp [results, Try.results67, go_sem, *]) rfl ?_
  exact ⟨rfl, ((Hb.out.setCell (by simp) _).setCell (by simp) _).setCell (by simp) _⟩
end Go.Proofs.Ytdmadigjdlbhiaa
