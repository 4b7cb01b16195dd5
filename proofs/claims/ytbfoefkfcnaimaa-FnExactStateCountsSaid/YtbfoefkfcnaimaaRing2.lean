import Derived.Test.YtbfoefkfcnaimaaRing
namespace Go.Proofs.Ytbfoefkfcnaimaa
open Go.RowKit
def rowBad (es : List (Int × Int)) : Bool := ((es.length : Int) != 2) || ((es.getD 0 (0, 0)).2 != 1)
def PredR (w0 : World) (fid : FuncId) (caps : Array Value) (p : List (Int × Int) → Bool) (xs : List (List (Int × Int))) : Prop :=
  ∀ x ∈ xs, ∀ w u, Since w0 w → EndS w u x → Calls Try.prog fid (#[u] ++ caps) w fun e w' => e = .returned (.bool (p x)) ∧ Below w.heap.size w w'
def ridx (p : List (Int × Int) → Bool) (xs : List (List (Int × Int))) : Int := match xs.findIdx? p with | some i => (i : Int) | none => -1
section
variable {α : Type} {p : α → Bool} {xs : List α}
theorem fi_none (h : xs.any p = false) : xs.findIdx? p = none := by
  rw [List.findIdx?_eq_none_iff]
  intro x hx
  rw [List.any_eq_false] at h
  simpa using h x hx
theorem fi_found {k : Nat} {x : α} (hx : xs[k]? = some x) (hp : p x = true) (h : (xs.take k).any p = false) : xs.findIdx? p = some k := by
  obtain ⟨hk, rfl⟩ := List.getElem?_eq_some_iff.1 hx
  rw [List.findIdx?_eq_some_iff_getElem]
  refine ⟨hk, hp, fun j hj => ?_⟩
  rw [List.any_eq_false] at h
  have := h xs[j] (List.mem_take_iff_getElem.2 ⟨j, by omega, rfl⟩)
  simpa using this
theorem any_snoc' {k : Nat} {x : α} (hx : xs[k]? = some x) (h : (xs.take k).any p = false) (hp : p x = false) : (xs.take (k + 1)).any p = false := by
  rw [take_snoc hx, List.any_append, h]
  simp [hp]
end
theorem ridx_any (p : List (Int × Int) → Bool) (xs : List (List (Int × Int))) : decide (0 ≤ ridx p xs) = xs.any p := by
  unfold ridx
  cases h : xs.any p with
  | false => rw [fi_none h]; rfl
  | true =>
    cases h2 : xs.findIdx? p with
    | none =>
      rw [List.findIdx?_eq_none_iff] at h2
      rw [List.any_eq_true] at h
      obtain ⟨x, hx, hp⟩ := h
      rw [h2 x hx] at hp; cases hp
    | some i => simp
set_option maxHeartbeats 4000000 in
theorem indexFuncR_any (v : Value) (xs : List (List (Int × Int))) (fid : FuncId) (caps : Array Value) (p : List (Int × Int) → Bool) (w : World) (h : EndSS w v xs) (henter : ∀ args w, (callFunc fid args).run Try.prog w = .ok (.enter fid args) w) (hp : PredR w fid caps p xs) :
    Calls Try.prog 183 #[v, .func (.func fid) #[] caps] w fun e w' => e = .returned (.int .i64 (ridx p xs)) ∧ Below w.heap.size w w' := by
  have H := Lib.hid h
  obtain ⟨A, c, rfl, hlc, hm, hA⟩ := h
  unfold maxLen at hm
  have HA := Lib.hid hA
  clear hA
  have Hp := Lib.hid hp
  have eg := henter
  clear hp
  go_enter Try.func183, Try.ntmps183
  go_wp2
  go_loopw [8] (fun i wr => ∃ k : Nat, k ≤ xs.length ∧ i = .int .i64 k ∧ (xs.take k).any p = false ∧ Since w wr) (fun i _ => xs.length - (intOf i).toNat)
  case atStart => exact ⟨0, Nat.zero_le _, rfl, rfl, since_refl _⟩
  case round =>
    obtain ⟨k, hk, rfl, hany, hb⟩ := hrel
    have Hany := Lib.hid hany
    have Hb := Lib.hid hb
    clear hany hb
    by_cases hlt : k < xs.length
    · obtain ⟨x, hx⟩ := getx xs k hlt
      obtain ⟨b, off, u, rfl, hc0, hrow⟩ := HA.out k x hx
      have d0 := Hb.out.cell hc0
      have Hx := Lib.hid hx
      have hcall := Hp.out x (List.mem_of_getElem? hx) wr u Hb.out (hrow.keep Hb.out.below)
      obtain ⟨y, hy⟩ : ∃ y, y = p x := ⟨_, rfl⟩
      have Hy := Lib.hid hy
      rw [← hy] at hcall
      have Hcall := Lib.hid hcall
      clear hy hcall hx hc0 hrow
      go_wp2_with fail
      refine Hcall.out.mono ?_
      rintro e w1 ⟨rfl, hb1⟩
      have Hb1 := Lib.hid (Hb.out.trans hb1)
      clear hb1
      cases y
      · go_wp2
        go_roundw
        case rel => exact ⟨k + 1, by omega, by go_num, any_snoc' Hx.out Hany.out Hy.out.symm, Hb1.out⟩
        case measure => simp [intOf]; omega
      · have Hr : Hid (ridx p xs = k) := by show _ = _; unfold ridx; rw [fi_found Hx.out Hy.out.symm Hany.out]
        go_wp2
        go_ret
        exact ⟨congrArg (fun i => Ending.returned (.int .i64 i)) Hr.out.symm, Hb1.out⟩
    · obtain rfl : k = xs.length := by omega
      have Hr : Hid (ridx p xs = -1) := by show _ = _; unfold ridx; rw [fi_none (by have := Hany.out; rwa [List.take_length] at this)]
      go_wp2
      go_ret
      exact ⟨congrArg (fun i => Ending.returned (.int .i64 i)) Hr.out.symm, Hb.out⟩
theorem containsFuncR_any (v : Value) (xs : List (List (Int × Int))) (fid : FuncId) (caps : Array Value) (p : List (Int × Int) → Bool) (w : World) (h : EndSS w v xs) (henter : ∀ args w, (callFunc fid args).run Try.prog w = .ok (.enter fid args) w) (hp : PredR w fid caps p xs) :
    Calls Try.prog 168 #[v, .func (.func fid) #[] caps] w fun e w' => e = .returned (.bool (xs.any p)) ∧ Below w.heap.size w w' := by
  have hi := Lib.hid (indexFuncR_any v xs fid caps p w h henter hp)
  have He := Lib.hid (ridx_any p xs)
  obtain ⟨A, c, rfl, hlc, hm, hA⟩ := h
  go_enter Try.func168, Try.ntmps168
  go_wp2_with fail
  refine hi.out.mono ?_
  rintro e w1 ⟨rfl, hb⟩
  have Hb := Lib.hid hb
  clear hb
  go_wp2
  go_ret
  exact ⟨congrArg (fun b => Ending.returned (.bool b)) He.out, Hb.out⟩
set_option maxHeartbeats 2000000 in
theorem ring1_any (u : Value) (es : List (Int × Int)) (w : World) (h : EndS w u es) : Calls Try.prog 169 #[u] w fun e w' => e = .returned (.bool (rowBad es)) ∧ Below w.heap.size w w' := by
  obtain ⟨A, c, rfl, hlc, hm, hA⟩ := h
  by_cases h2 : es.length = 2
  · obtain ⟨e0, he0⟩ := getx es 0 (by omega)
    obtain ⟨b, off, rfl, hc0, hc1⟩ := hA 0 e0 he0
    have Hr : Hid (rowBad es = (e0.2 != 1)) := by
      show _ = _
      unfold rowBad
      rw [getD_of he0, h2]
      rfl
    have hl : ((es.length : Int) != 2) = false := by rw [h2]; rfl
    have hpos : 0 < es.length := by omega
    have Hh := Lib.hid h2
    clear hA he0 h2
    go_enter Try.func169, Try.ntmps169
    go_wp2
    go_ret
    exact ⟨congrArg (fun b => Ending.returned (.bool b)) Hr.out.symm, Below.refl _ _⟩
  · have Hr : Hid (rowBad es = true) := by
      show _ = _
      unfold rowBad
      have : ((es.length : Int) != 2) = true := by simp; omega
      rw [this]; rfl
    have hl : ((es.length : Int) != 2) = true := by simp; omega
    clear hA
    go_enter Try.func169, Try.ntmps169
    go_wp2
    go_ret
    exact ⟨congrArg (fun b => Ending.returned (.bool b)) Hr.out.symm, Below.refl _ _⟩
theorem ring1_enters : ∀ args w, (callFunc 169 args).run Try.prog w = .ok (.enter 169 args) w := enters_of Try.func169 (by kernel_rfl) rfl
end Go.Proofs.Ytbfoefkfcnaimaa
