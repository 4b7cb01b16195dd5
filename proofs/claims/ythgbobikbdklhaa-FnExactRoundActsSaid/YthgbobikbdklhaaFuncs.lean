import Derived.Test.YthgbobikbdklhaaW3
import Derived.Shelf.Abstract
namespace Go.Proofs.Ythgbobikbdklhaa
open Go.RowKit
/-- a function value that answers p at the numbers of xs, whatever has been laid since w0 -/
def PredOn (w0 : World) (fid : FuncId) (caps : Array Value) (p : Int → Bool) (xs : List Int) : Prop :=
  ∀ x ∈ xs, ∀ w, Below w0.heap.size w0 w → Calls Try.prog fid (#[.int .i64 x] ++ caps) w fun e w' => e = .returned (.bool (p x)) ∧ Below w.heap.size w w'
theorem PredOn.keep {w0 w1 : World} {fid : FuncId} {caps : Array Value} {p : Int → Bool} {xs : List Int} (h : PredOn w0 fid caps p xs) (hb : Below w0.heap.size w0 w1) : PredOn w1 fid caps p xs :=
  fun x hx w hw => h x hx w (hb.trans (hw.mono hb.size))
def fidx (p : Int → Bool) (xs : List Int) : Int := match xs.findIdx? p with | some i => (i : Int) | none => -1
theorem fidx_none {p : Int → Bool} {xs : List Int} (h : xs.any p = false) : fidx p xs = -1 := by
  have : xs.findIdx? p = none := by
    rw [List.findIdx?_eq_none_iff]
    intro x hx
    rw [List.any_eq_false] at h
    simpa using h x hx
  simp [fidx, this]
theorem fidx_found {p : Int → Bool} {xs : List Int} {k : Nat} {x : Int} (hx : xs[k]? = some x) (hp : p x = true) (h : (xs.take k).any p = false) : fidx p xs = k := by
  have : xs.findIdx? p = some k := by
    obtain ⟨hk, rfl⟩ := List.getElem?_eq_some_iff.1 hx
    rw [List.findIdx?_eq_some_iff_getElem]
    refine ⟨hk, hp, fun j hj => ?_⟩
    rw [List.any_eq_false] at h
    simpa using h xs[j] (by rw [List.mem_take_iff_getElem]; exact ⟨j, by omega, rfl⟩)
  simp [fidx, this]
theorem fidx_any (p : Int → Bool) (xs : List Int) : decide (0 ≤ fidx p xs) = xs.any p := by
  unfold fidx
  cases h : xs.findIdx? p with
  | none =>
    rw [List.findIdx?_eq_none_iff] at h
    simp only [decide_eq_false_iff_not.2 (show ¬ (0 : Int) ≤ -1 by omega)]
    symm
    rw [List.any_eq_false]
    intro x hx; simp [h x hx]
  | some i =>
    rw [List.findIdx?_eq_some_iff_getElem] at h
    obtain ⟨hi, hp, _⟩ := h
    simp only [Int.natCast_nonneg, decide_true]
    symm
    rw [List.any_eq_true]
    exact ⟨xs[i], List.getElem_mem hi, hp⟩
set_option maxHeartbeats 400000 in
theorem indexFunc_any (v : Value) (xs : List Int) (fid : FuncId) (caps : Array Value) (p : Int → Bool) (w : World) (h : IntS w v xs) (henter : ∀ args w, (callFunc fid args).run Try.prog w = .ok (.enter fid args) w) (hp : PredOn w fid caps p xs) :
    Calls Try.prog 83 #[v, .func (.func fid) #[] caps] w fun e w' => e = .returned (.int .i64 (fidx p xs)) ∧ Below w.heap.size w w' := by
  have H := Lib.hid h
  obtain ⟨A, c, rfl, hlc, hm, hA⟩ := h
  unfold maxLen at hm
  have HA := Lib.hid hA
  clear hA
  have Hp := Lib.hid hp
  have eg := henter
  clear hp
  go_enter Try.func83, Try.ntmps83
  go_wp2
  go_loopw [8] (fun i wr => ∃ k : Nat, k ≤ xs.length ∧ i = .int .i64 k ∧ (xs.take k).any p = false ∧ Below w.heap.size w wr) (fun i _ => xs.length - (intOf i).toNat)
  case atStart => exact ⟨0, Nat.zero_le _, rfl, rfl, Below.refl _ _⟩
  case round =>
    obtain ⟨k, hk, rfl, hany, hb⟩ := hrel
    have Hany := Lib.hid hany
    have Hb := Lib.hid hb
    clear hany hb
    by_cases hlt : k < xs.length
    · obtain ⟨x, hx⟩ := getx xs k hlt
      obtain ⟨b, off, rfl, hcell⟩ := HA.out k x hx
      have hcell' := (Hb.out.cell (p := ⟨b, off + k, none⟩) (World.block_lt_of_cell? w _ hcell)).trans hcell
      have Hx := Lib.hid hx
      clear hx hcell
      cases hpx : p x
      all_goals
        have Hpx := Lib.hid hpx
        clear hpx
        go_wp2_with fail
        refine (Hp.out x (List.mem_of_getElem? Hx.out) _ Hb.out).mono ?_
        rintro e w1 ⟨rfl, hb1⟩
        rw [Hpx.out]
        have Hb1 := Lib.hid (Hb.out.trans (hb1.mono Hb.out.size))
        clear hb1
        go_wp2
      · go_roundw
        case rel => exact ⟨k + 1, by omega, by go_num, by rw [take_snoc Hx.out, List.any_append, Hany.out]; simp [Hpx.out], Hb1.out⟩
        case measure => simp [intOf]; omega
      · go_ret
        exact ⟨ret_int (fidx_found Hx.out Hpx.out Hany.out).symm, Hb1.out⟩
    · go_wp2
      go_ret
      exact ⟨ret_int (fidx_none (by have := Hany.out; rwa [take_all xs hlt] at this)).symm, Hb.out⟩
theorem containsFunc_any (v : Value) (xs : List Int) (fid : FuncId) (caps : Array Value) (p : Int → Bool) (w : World) (h : IntS w v xs) (henter : ∀ args w, (callFunc fid args).run Try.prog w = .ok (.enter fid args) w) (hp : PredOn w fid caps p xs) :
    Calls Try.prog 70 #[v, .func (.func fid) #[] caps] w fun e w' => e = .returned (.bool (xs.any p)) ∧ Below w.heap.size w w' := by
  have hb := indexFunc_any v xs fid caps p w h henter hp
  have hr := Lib.hid (fidx_any p xs)
  have Hb := Lib.hid hb
  clear hb h henter hp
  go_enter Try.func70, Try.ntmps70
  go_wp2_with fail
  refine Hb.out.mono ?_
  rintro e w1 ⟨rfl, hb1⟩
  have Hb1 := Lib.hid hb1
  clear hb1
  go_wp2
  go_ret
  exact ⟨ret_bool hr.out, Hb1.out⟩
theorem allWithin1_any (x lo hi : Int) (a b : Addr) (w : World) (ha : w.cell? a = some (.int .i64 lo)) (hb : w.cell? b = some (.int .i64 hi)) :
    Calls Try.prog 71 #[.int .i64 x, .pointer (some a), .pointer (some b)] w fun e w' => e = .returned (.bool (!inB lo hi x)) ∧ w = w' := by
  go_enter Try.func71, Try.ntmps71
  go_wp2_with (go_at_call 51; refine (within_b _ _ _ _).mono ?_; rintro e w' ⟨rfl, rfl⟩)
  go_ret
  exact ⟨rfl, rfl⟩
theorem allWithin1_enters : ∀ args w, (callFunc 71 args).run Try.prog w = .ok (.enter 71 args) w := enters_of Try.func71 (by kernel_rfl) rfl
theorem allWithin_any (v : Value) (xs : List Int) (lo hi : Int) (w : World) (h : IntS w v xs) :
    Calls Try.prog 65 #[v, .int .i64 lo, .int .i64 hi] w fun e w' => e = .returned (.bool (xs.all (inB lo hi))) ∧ Below w.heap.size w w' := by
  have H := Lib.hid h
  clear h
  have hr : (!xs.any fun x => !inB lo hi x) = xs.all (inB lo hi) := by rw [List.not_any_eq_all_not]; simp
  have Hr := Lib.hid hr
  clear hr
  go_enter Try.func65, Try.ntmps65
  go_wp2_with fail
  have hb : Below w.heap.size w ((w.alloc (Obj.cells #[Value.int IntKind.i64 lo] 3)).alloc (Obj.cells #[Value.int IntKind.i64 hi] 3)) := ((Below.refl _ _).alloc (Nat.le_refl _) _).alloc (by simp) _
  refine (containsFunc_any _ xs _ _ (fun x => !inB lo hi x) _ (H.out.keep hb) allWithin1_enters ?_).mono ?_
  · intro x _ w2 hw2
    exact (allWithin1_any x lo hi _ _ w2 ((hw2.cell (by simp; try omega)).trans (by simp)) ((hw2.cell (by simp; try omega)).trans (by simp))).mono fun _ _ ⟨he, hw⟩ => ⟨he, hw ▸ Below.refl _ _⟩
  · rintro e w1 ⟨rfl, hb1⟩
    have Hb1 := Lib.hid (hb.trans (hb1.mono (by simp; omega)))
    clear hb hb1
    go_wp2
    go_ret
    exact ⟨ret_bool Hr.out, Hb1.out⟩
end Go.Proofs.Ythgbobikbdklhaa
