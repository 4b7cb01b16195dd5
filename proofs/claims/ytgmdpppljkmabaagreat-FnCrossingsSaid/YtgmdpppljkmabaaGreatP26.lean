/- Parts of the proof: walks of functions and plain laws. -/
import Derived.Test.YtgmdpppljkmabaaGreatP0
import Derived.Test.YtgmdpppljkmabaaGreatP7
import Derived.Test.YtgmdpppljkmabaaGreatP25
import Derived.Test.YtgmdpppljkmabaaGreatP12
import Derived.Test.YtgmdpppljkmabaaGreatP14
import Derived.Test.YtgmdpppljkmabaaGreatP15
import Derived.Test.YtgmdpppljkmabaaGreatP16
import Derived.OpenShut
namespace Go.Proofs.YtgmdpppljkmabaaGreat
open Go Go.RowKit
/-! A region that draws its order, with calls that come one after the other and pure operations between them at any place; each value has a property of its own, the worlds an invariant that counts the calls. -/
section
variable {P : Program} {ops : Array Oper}
def DStepC (P : Program) (o : Oper) (A : Act) (W : World) (post : Value → World → Prop) : Prop :=
 match (execOp A.eval o).run P W with
 | .ok (.value u) W' => post u W'
 | .ok .skip W' => post undef W'
 | .ok (.enter f args) W' => Calls P f args W' fun e W'' => ∃ u, e = .returned u ∧ post u W''
 | _ => False
theorem dstepC_val {o : Oper} {A : Act} {W W' : World} {u : Value} {post : Value → World → Prop} (h : (execOp A.eval o).run P W = .ok (.value u) W') (hp : post u W') : DStepC P o A W post := by
 unfold DStepC; rw [h]; exact hp
theorem dstepC_skip {o : Oper} {A : Act} {W W' : World} {post : Value → World → Prop} (h : (execOp A.eval o).run P W = .ok .skip W') (hp : post undef W') : DStepC P o A W post := by
 unfold DStepC; rw [h]; exact hp
theorem dstepC_call {o : Oper} {A : Act} {W W' : World} {f : FuncId} {args : Array Value} {post : Value → World → Prop} (h : (execOp A.eval o).run P W = .ok (.enter f args) W') (hp : Calls P f args W' fun e W'' => ∃ u, e = .returned u ∧ post u W'') : DStepC P o A W post := by
 unfold DStepC; rw [h]; exact hp
def rankB (ops : Array Oper) (k : Nat) (cs : List Nat) : Bool :=
 (List.range k).all fun i => match ops[i]? with
  | none => true
  | some o => match cs.findIdx? (fun x => x == i) with
   | none => true
   | some r => r == 0 || (match cs[r - 1]? with | some j => (depsOf o).contains j | none => false)
theorem findIdx_nodup {cs : List Nat} {i j r : Nat} (h : cs.findIdx? (fun x => x == i) = some r) (h' : cs.findIdx? (fun x => x == j) = some r) : i = j := by
 obtain ⟨hr, h1, -⟩ := List.findIdx?_eq_some_iff_getElem.1 h
 obtain ⟨hr', h1', -⟩ := List.findIdx?_eq_some_iff_getElem.1 h'
 have e1 : cs[r] = i := by simpa using h1
 have e2 : cs[r] = j := by simpa using h1'
 omega
theorem wp_region_dfc {Q : Exit → Act → World → Prop} {rid : Nat} {a : Act} {w : World} (k : Nat) (cs : List Nat) (R : Nat → Value → Prop) (Inv : Nat → World → Prop)
  (hm : P.follows .mixedOrders = true) (hf : flowB ops k = true) (hkn : decide (k ≤ ops.size) = true) (hnd : cs.Nodup) (hrb : rankB ops k cs = true) (h0 : Inv 0 w.drew)
  (hstep : ∀ i o, i < k → ops[i]? = some o → ∀ V W q, Inv q W → (∀ r, cs.findIdx? (fun x => x == i) = some r → r = q) → (∀ d ∈ depsOf o, R d (V d)) → Region.wanted o (yielded ops (putAll ops (List.range k) V a).tmps) = true ∧ DStepC P o (putAll ops (List.range k) V a) W (fun u W' => Inv (if (cs.findIdx? (fun x => x == i)).isSome then q + 1 else q) W' ∧ R i u))
  (hend : ∀ V W q, Inv q W → q ≤ cs.length → (∀ i r, i < k → cs.findIdx? (fun x => x == i) = some r → r < q) → (∀ j, j < k → R j (V j)) → wpList P ops Q (ops.toList.drop k) (putAll ops (List.range k) V a) W) : (Code.region rid ops true).wp P Q a w := by
 have hok := flow_ok hf
 have hkn := of_decide_eq_true hkn
 have frame : ∀ V, FrameIs a ops V (fun j => j < k) (putAll ops (List.range k) V a) := fun V => by
  have := frame_putAll (a := a) hok.dsts hkn V (List.range k) (fun _ => False) a (fun _ h => h.elim) (fun j hj => ⟨List.mem_range.1 hj, id⟩) List.nodup_range (FrameIs.start a V)
  exact this.same (fun j => by simp)
 have hrank : ∀ i o r, i < k → ops[i]? = some o → cs.findIdx? (fun x => x == i) = some r → r = 0 ∨ ∃ j ∈ depsOf o, cs.findIdx? (fun x => x == j) = some (r - 1) := by
  intro i o r hi ho hr
  have h1 := List.all_eq_true.1 hrb i (List.mem_range.2 hi)
  rw [ho] at h1
  simp only [hr] at h1
  rw [Bool.or_eq_true] at h1
  rcases h1 with h1 | h1
  ·left; simpa using h1
  ·cases hj : cs[r - 1]? with
   | none => rw [hj] at h1; cases h1
   | some j =>
    rw [hj] at h1
    right
    refine ⟨j, by simpa using h1, ?_⟩
    rw [List.findIdx?_eq_some_iff_getElem]
    have hlt := lt_of_get hj
    have hge : cs[r - 1] = j := by
     have := List.getElem?_eq_getElem hlt
     rw [hj] at this
     exact (Option.some.inj this).symm
    refine ⟨hlt, by simpa using hge, fun m hm => ?_⟩
    intro hc
    have hc' : cs[m] = j := by simpa using hc
    have hpw := List.pairwise_iff_getElem.1 hnd m (r - 1) (by omega) hlt hm
    exact hpw (hc'.trans hge.symm)
 let J : (Nat → Prop) → Act → World → Prop := fun D a' W =>
  (∃ q, Inv q W ∧ q ≤ cs.length ∧ (∀ i r, cs.findIdx? (fun x => x == i) = some r → (D i ↔ r < q)) ∧ (∀ j, D j → j < k) ∧ ∃ V, FrameIs a ops V D a' ∧ ∀ j, D j → R j (V j)) ∨
  (∃ m, k ≤ m ∧ m ≤ ops.size ∧ (∀ j, j < ops.size → (D j ↔ j < m)) ∧ wpList P ops Q (ops.toList.drop m) a' W)
 have full : ∀ D a' W, J D a' W → (∀ j, j < k → D j) → ∃ m, k ≤ m ∧ m ≤ ops.size ∧ (∀ j, j < ops.size → (D j ↔ j < m)) ∧ wpList P ops Q (ops.toList.drop m) a' W := by
  intro D a' W hJ hD
  rcases hJ with ⟨q, hq, hql, hrk, hDk, V, hfr, hV⟩ | hJ
  ·have e : a' = putAll ops (List.range k) V a := hfr.ext (frame V) (fun j _ => ⟨hDk j, hD j⟩)
   subst e
   exact ⟨k, Nat.le_refl _, hkn, fun j _ => ⟨hDk j, hD j⟩, hend V W q hq hql (fun i r hi hr => (hrk i r hr).1 (hD i hi)) (fun j hj => hV j (hD j hj))⟩
  ·exact hJ
 refine wp_region_inv2 hm hok.back J (.inl ⟨0, h0, Nat.zero_le _, fun i r _ => ⟨fun h => h.elim, fun h => by omega⟩, fun j hj => hj.elim, fun _ => undef, FrameIs.start a _, fun j hj => hj.elim⟩) ?_ ?_
 ·intro D a' W i o hJ ho hDi hdep hcl
  have hin : i < ops.size := (Array.getElem?_eq_some_iff.1 ho).1
  by_cases hik : i < k
  ·rcases hJ with ⟨q, hq, hql, hrk, hDk, V, hfr, hV⟩ | ⟨m, h1, h2, h3, _⟩
   rotate_left
   ·exact absurd ((h3 i hin).2 (by omega)) hDi
   have hri : ∀ r, cs.findIdx? (fun x => x == i) = some r → r = q := by
    intro r hr
    have h1 : ¬ r < q := fun h => hDi ((hrk i r hr).2 h)
    rcases hrank i o r hik ho hr with h2 | ⟨j, hj, h2⟩
    ·omega
    ·have := (hrk j _ h2).1 (hdep j hj)
     omega
   obtain ⟨hw, hst⟩ := hstep i o hik ho V W q hq hri (fun d hd => hV d (hdep d hd))
   obtain ⟨he, hw'⟩ := agree_exec (ops := ops) (a' := a') (A := putAll ops (List.range k) V a) (fun t ht => hfr.agree (frame V) t (fun j oj hj hoj hd => by
    have hjk : j < k := hj.elim (fun h => hDk j h) id
    exact ⟨hdep j (hok.looks i o hik ho t ht j oj hjk hoj hd), hjk⟩)) (fun cs b => hok.nosel i o cs b ho)
   have next : ∀ u W', Inv (if (cs.findIdx? (fun x => x == i)).isSome then q + 1 else q) W' → R i u → J (fun j => D j ∨ j = i) (a'.put o.dst u) W' := by
    intro u W' hI hRi
    refine .inl ⟨_, hI, ?_, fun i' r' hr' => ?_, fun j hj => hj.elim (hDk j) (fun e => by omega), upd V i u, ?_, fun j hj => ?_⟩
    ·cases hr : cs.findIdx? (fun x => x == i) with
     | none => simpa using hql
     | some r =>
      have := hri r hr
      obtain ⟨hlt, -, -⟩ := List.findIdx?_eq_some_iff_getElem.1 hr
      simp; omega
    ·cases hr : cs.findIdx? (fun x => x == i) with
     | none =>
      simp only [Option.isSome_none, Bool.false_eq_true, if_false]
      constructor
      ·rintro (h | rfl)
       ·exact (hrk i' r' hr').1 h
       ·rw [hr] at hr'; cases hr'
      ·exact fun h => .inl ((hrk i' r' hr').2 h)
     | some r =>
      have hrq := hri r hr
      simp only [Option.isSome_some, if_true]
      constructor
      ·rintro (h | rfl)
       ·have := (hrk i' r' hr').1 h; omega
       ·rw [hr] at hr'; cases hr'; omega
      ·intro h
       by_cases h' : r' < q
       ·exact .inl ((hrk i' r' hr').2 h')
       ·have e : r' = r := by omega
        subst e
        exact .inr (findIdx_nodup hr' hr)
    ·have := (hfr.vals2 (v' := upd V i u) (fun j _ hj => (upd_ne V u (fun e => by subst e; exact hDi hj)).symm)).put (i := i) ho (fun j oj d hj hoj hd hd2 => by
      have := hok.dsts i o hik ho j oj (hDk j hj) hoj d hd hd2
      subst this
      exact hDi hj)
     rwa [upd_self] at this
    ·rcases hj with hj | rfl
     ·have hji : j ≠ i := fun e => by subst e; exact hDi hj
      rw [upd_ne V u hji]; exact hV j hj
     ·rw [upd_self]; exact hRi
   rw [if_pos (hw'.trans hw)]
   refine .inl ?_
   unfold Oper.wp
   rw [he]
   unfold DStepC at hst
   generalize (execOp (putAll ops (List.range k) V a).eval o).run P W = r at hst ⊢
   cases r with
   | ok nx W' =>
    cases nx with
    | value u => exact next u W' hst.1 hst.2
    | skip => exact next undef W' hst.1 hst.2
    | enter f args =>
     simp only [Oper.upon]
     exact Calls.mono hst fun e W'' ⟨u, he', h3, h4⟩ => by subst he'; exact next u W'' h3 h4
    | _ => exact hst.elim
   | halt x W' => exact hst.elim
  ·have hall : ∀ j, j < i → D j := fun j hj => anc_ready hcl ho hdep (hok.tail i (by omega) hin j hj)
   obtain ⟨m, h1, h2, h3, h4⟩ := full D a' W hJ (fun j hj => hall j (by omega))
   have hmi : m = i := by
    by_cases e1 : i < m
    ·exact absurd ((h3 i hin).2 e1) hDi
    ·by_cases e2 : m < i
     ·have := (h3 m (by omega)).1 (hall m e2); omega
     ·omega
   subst hmi
   have hdr : ops.toList.drop m = o :: ops.toList.drop (m + 1) := by
    have : m < ops.toList.length := by simpa using hin
    rw [List.drop_eq_getElem_cons this]
    congr 1
    have := (Array.getElem?_eq_some_iff.1 ho).2
    simpa using this
   rw [hdr] at h4
   unfold wpList at h4
   have next : ∀ a W, wpList P ops Q (ops.toList.drop (m + 1)) a W → J (fun j => D j ∨ j = m) a W := fun a W h => .inr ⟨m + 1, by omega, by omega, fun j hj => by
    constructor
    ·rintro (h | rfl)
     ·have := (h3 j hj).1 h; omega
     ·omega
    ·intro h
     by_cases e : j = m
     ·exact .inr e
     ·exact .inl ((h3 j hj).2 (by omega)), h⟩
   split
   ·rename_i hw
    rw [if_pos hw] at h4
    exact h4.imp (Oper.wp_mono next) id
   ·rename_i hw
    rw [if_neg hw] at h4
    exact next _ _ h4
 ·intro D a' W hJ hall
  obtain ⟨m, h1, h2, h3, h4⟩ := full D a' W hJ (fun j hj => hall j (by omega))
  have hmn : m = ops.size := by
   by_cases e : m < ops.size
   ·have := (h3 m e).1 (hall m e); omega
   ·omega
  subst hmn
  rw [List.drop_eq_nil_of_le (by simp)] at h4
  exact h4
def RV (l : List (Value → Prop)) : Nat → Value → Prop := fun j u => match l[j]? with | some r => r u | none => True
end
end Go.Proofs.YtgmdpppljkmabaaGreat
namespace Go.Proofs.YtgmdpppljkmabaaGreat
open Go Go.RowKit
/-! DrawCrossEdges (printed by tools/dr23.py) -/
def NewN4 (w : World) (T : Net → Prop) (e : Ending) (w' : World) : Prop :=
 ∃ ve vi vn N S, ∃ v i x j : Int, e = .returned (.tuple #[.agg #[ve, vi, vn], .int .i64 v, .int .i64 i, .int .i64 x, .int .i64 j]) ∧ OwnNet w' w.heap.size ve vi vn N S ∧ T N ∧ ((-10 ≤ v ∧ v ≤ 200) ∧ (-10 ≤ i ∧ i ≤ 200) ∧ (-10 ≤ x ∧ x ≤ 200) ∧ (-10 ≤ j ∧ j ≤ 200)) ∧ Below w.heap.size w w'
set_option maxRecDepth 100000 in
set_option maxHeartbeats 8000000 in
theorem drawCrossEdges_any (v : Value) (L : Nat) (w : World) (h : ByS w v L) (hL : L ≤ 1048576) :
  Calls Tryz.prog 17 #[v] w (NewN4 w Bd) := by
 obtain ⟨A, c, rfl, hLc, hcm, hby⟩ := h
 obtain ⟨w0, hw0⟩ : ∃ z, z = w.alloc (.cells #[.slice none 0 0, .slice none 0 0, .slice none 0 0] 27) := ⟨_, rfl⟩
 have hs0 : Since w w0 := by rw [hw0]; exact since_alloc _ (since_refl _)
 have hz0 : w0.heap.size = w.heap.size + 1 := by rw [hw0]; simp
 have hrb : BoxN w0 w.heap.size (.slice none 0 0) (.slice none 0 0) (.slice none 0 0) := by
  rw [hw0]
  show (w.heap.push _)[w.heap.size]? = _
  rw [Array.getElem?_push_size]
 obtain ⟨w1, hw1⟩ : ∃ z, z = w0.alloc (.cells #[.slice A L c, .int .i64 0, .int .u64 0] 78) := ⟨_, rfl⟩
 obtain ⟨cb, hcbd⟩ : ∃ z, z = w0.heap.size := ⟨_, rfl⟩
 have hs1 : Since w0 w1 := by rw [hw1]; exact since_alloc _ (since_refl _)
 have hcc : w1.heap[cb]? = some (.cells #[.slice A L c, .int .i64 0, .int .u64 0] 78) := by
  rw [hw1, hcbd]
  show (w0.heap.push _)[w0.heap.size]? = _
  rw [Array.getElem?_push_size]
 have Hcu := Lib.hid (cur_new hby (hs0.after hs1) (by omega) hcc hL hLc)
 have Hrb := Lib.hid (hrb.since hs1)
 have Hs1 := Lib.hid (hs0.after hs1)
 have Hw0 := Lib.hid hw0
 have Hw1 := Lib.hid hw1
 have Hcb : Hid (cb = w0.heap.size) := hcbd
 have Hz0 := Lib.hid hz0
 have Hz1 : Hid (w1.heap.size = w.heap.size + 1 + 1) := by show _ = _; rw [hw1]; simp; omega
 clear hby hs0 hrb hs1 hcc hw0 hw1 hcbd hz0
 go_enter Tryz.func17, Tryz.ntmps17
 go_upto_region 1 with (fail)
 rw [← Hw0.out]
 go_upto_region 2 with (fail)
 rw [← Hw1.out, ← Hcb.out]
 go_wp2_with fail
 refine (crossed_p cb A L c 0 w1 Hcu.out (by omega)).mono ?_
 rintro e w3 ⟨ve, vi, vn, um, N, S, ls, rfl, ho, hbd, hol, -, hcu3, hC3⟩
 obtain ⟨D0, d0, rfl, -, -, -⟩ := id ho.read.1
 obtain ⟨D1, d1, rfl, -, -, -⟩ := id ho.read.2.1
 obtain ⟨D2, d2, rfl, -, -, -⟩ := id ho.read.2.2
 obtain ⟨AU, cU, rfl, -, -, -⟩ := id hol.ints
 obtain ⟨w4, hw4⟩ : ∃ z, z = w3.alloc (.cells #[.slice D0 N.ends.length d0, .slice D1 N.ids.length d1, .slice D2 N.inputs.length d2] 27) := ⟨_, rfl⟩
 obtain ⟨pb, hpb⟩ : ∃ z, z = w3.heap.size := ⟨_, rfl⟩
 have h34 : Since w3 w4 := by rw [hw4]; exact since_alloc _ (since_refl _)
 have hbx : Box3 w4 pb (.slice D0 N.ends.length d0) (.slice D1 N.ids.length d1) (.slice D2 N.inputs.length d2) := by rw [hw4, hpb]; exact Box3.new _ _ _ _ _
 have hcbl : cb < w1.heap.size := Hcu.out.lt
 have hpc : pb ≠ cb := by have := hC3.size; omega
 have Hcu4 := Lib.hid (hcu3.since h34)
 have Hse4 : Hid (Seen cb w1 w4) := (show Seen cb w1 w3 from hC3).after h34
 have Ho4 := Lib.hid (ho.keep h34.below)
 have Hbx := Lib.hid hbx
 have Hbd := Lib.hid hbd
 have Hw4 := Lib.hid hw4
 have Hpb := Lib.hid hpb
 have Hpbb : Hid (w1.heap.size ≤ pb) := by show _ ≤ _; rw [hpb]; exact hC3.size
 clear ho hbd hol hcu3 hC3 hw4 hpb h34 hbx
 have hNl := Hbd.out.ends
 go_upto_region 3 with (fail)
 rw [← Hw4.out, ← Hpb.out]
 refine wp_region_chainS (fun W => W.cell? ⟨pb, 0, none⟩ = some (.slice D0 N.ends.length d0)) 10 [false, false, false, false, true, false, false, false, false, true] (by kernel_rfl) (by kernel_rfl) (show (World.drew w4).cell? ⟨pb, 0, none⟩ = some (.slice D0 N.ends.length d0) from Hbx.out.cells.1) ?_
 simp only [selF, selT, List.take_succ_cons, List.take_zero, List.drop_succ_cons, List.drop_zero]
 refine pflowS_val (v := ?_) rfl ?_ ?_; rotate_left; (intro W hW; (have k0 := hW); go_simp; with_reducible rfl)
 simp only [zA]
 refine pflowS_val (v := ?_) rfl ?_ ?_; rotate_left; (intro W hW; (have k0 := hW); go_simp; with_reducible rfl)
 simp only [zA]
 refine pflowS_val (v := ?_) rfl ?_ ?_; rotate_left; (intro W hW; (have k0 := hW); go_simp; with_reducible rfl)
 simp only [zA]
 refine pflowS_val (v := ?_) rfl ?_ ?_; rotate_left; (intro W hW; (have k0 := hW); go_simp; with_reducible rfl)
 simp only [zA]
 refine pflowS_val (v := ?_) rfl ?_ ?_; rotate_left; (intro W hW; (have k0 := hW); go_simp; with_reducible rfl)
 simp only [zA]
 refine pflowS_val (v := ?_) rfl ?_ ?_; rotate_left; (intro W hW; (have k0 := hW); go_simp; with_reducible rfl)
 simp only [zA]
 refine pflowS_val (v := ?_) rfl ?_ ?_; rotate_left; (intro W hW; (have k0 := hW); go_simp; with_reducible rfl)
 simp only [zA]
 refine pflowS_val (v := ?_) rfl ?_ ?_; rotate_left; (intro W hW; (have k0 := hW); go_simp; with_reducible rfl)
 simp only [zA]
 obtain ⟨W, hWd⟩ : ∃ W, W = World.drew w4 := ⟨_, rfl⟩
 rw [← hWd]
 have hW := (show (World.drew w4).cell? ⟨pb, 0, none⟩ = some (.slice D0 N.ends.length d0) from Hbx.out.cells.1)
 rw [← hWd] at hW
 have HWd := Lib.hid hWd
 clear hWd
 refine Or.inl ⟨rfl, ?_⟩
 go_simp
 (with_reducible refine (pick_p cb A L c _ (N.ends.length : Int) W (by rw [HWd.out]; exact Hcu4.out.since (since_drew (since_refl _))) (by omega) (by omega)).mono ?_)
 rintro e W' ⟨v, rfl, hv, hcu, hC⟩
 refine ⟨_, rfl, seen_cell hW hpc _ hC, ?_⟩
 replace hW := seen_cell hW hpc _ hC
 have hS1 : Since w4 W := (by rw [HWd.out]; exact since_drew (since_refl _))
 have HC3 := Lib.hid (((Seen.refl cb w4).after hS1).trans hC)
 have Hcu3 := Lib.hid hcu
 have hvb : v ≤ 100 := (by omega)
 clear hC hcu hS1 hv
 obtain ⟨wp, rfl⟩ : ∃ z, z = W' := ⟨_, rfl⟩
 (try simp only [zA])
 refine Or.inl ⟨rfl, ?_⟩
 go_simp
 (with_reducible refine (pick_p cb A L c _ (N.ends.length : Int) _ Hcu3.out (by omega) (by omega)).mono ?_)
 rintro e W' ⟨x, rfl, hx, hcu, hC⟩
 refine ⟨_, rfl, seen_cell hW hpc _ hC, ?_⟩
 replace hW := seen_cell hW hpc _ hC
 have Hse5 := Lib.hid (HC3.out.trans hC)
 have Hcu5' := Lib.hid hcu
 have hxb : x ≤ 100 := (by omega)
 clear hC hcu hx
 (try simp only [zA])
 simp only [TFlow]
 obtain ⟨w5, rfl⟩ : ∃ z, z = W' := ⟨_, rfl⟩
 clear hW
 obtain ⟨P0, hP0⟩ : ∃ z, z = 0 + 600000000000000000 + 2 + 2 := ⟨_, rfl⟩
 have HP0 : Hid (P0 = 600000000000000004) := by show _ = _; omega
 have Hcu5 : Hid (CurP w5 cb A L c P0) := by show CurP _ _ _ _ _ _; rw [hP0]; exact Hcu5'.out
 clear hP0 Hcu5'
 have y0 := seen_cell Hbx.out.cells.1 hpc w5 Hse5.out
 have y1 := seen_cell Hbx.out.cells.2.1 hpc w5 Hse5.out
 have y2 := seen_cell Hbx.out.cells.2.2.1 hpc w5 Hse5.out
 have HRW : Hid (∀ W, Seen cb w5 W → BoxN W w.heap.size (.slice none 0 0) (.slice none 0 0) (.slice none 0 0)) := fun W hW => (((Hse4.out.trans Hse5.out).trans hW).block _ Hrb.out.lt (by have := Hcb.out; have := Hz0.out; omega)).trans Hrb.out
 have hprb : pb ≠ w.heap.size := by have := Hpbb.out; have := Hz1.out; omega
 have HY : Hid (∀ q W, ((q ≤ 4 ∧ CurP W cb A L c (P0 + 2 * q) ∧ Seen cb w5 W) ∨ (q = 5 ∧ ∃ W0, Seen cb w5 W0 ∧ W = set3 W0 w.heap.size (.slice D0 N.ends.length d0) (.slice D1 N.ids.length d1) (.slice D2 N.inputs.length d2))) → W.cell? ⟨pb, 0, none⟩ = some (.slice D0 N.ends.length d0) ∧ W.cell? ⟨pb, 1, none⟩ = some (.slice D1 N.ids.length d1) ∧ W.cell? ⟨pb, 2, none⟩ = some (.slice D2 N.inputs.length d2)) := fun q W hq => by
  rcases hq with ⟨-, -, h7⟩ | ⟨-, W0, h7, rfl⟩
  ·exact ⟨seen_cell y0 hpc W h7, seen_cell y1 hpc W h7, seen_cell y2 hpc W h7⟩
  ·have hb : ∀ i, (set3 W0 w.heap.size (.slice D0 N.ends.length d0) (.slice D1 N.ids.length d1) (.slice D2 N.inputs.length d2)).cell? ⟨pb, i, none⟩ = W0.cell? ⟨pb, i, none⟩ := fun i => World.cell?_of_block (set3_blk _ _ _ _ _ hprb)
   rw [hb, hb, hb]
   exact ⟨seen_cell y0 hpc W0 h7, seen_cell y1 hpc W0 h7, seen_cell y2 hpc W0 h7⟩
 clear y0 y1 y2
 go_upto_region 4 with (fail)
 refine wp_region_dfc 20 [3, 7, 10, 12, 15] (RV [fun u => u = .agg #[.slice D0 N.ends.length d0, .slice D1 N.ids.length d1, .slice D2 N.inputs.length d2], fun u => u = .int .i64 (v : Int), fun u => u = .pointer (some ⟨cb, 0, none⟩), fun u => ∃ z : Nat, u = .int .i64 (z : Int) ∧ z < 24, fun u => ∃ z : Nat, u = .int .i64 (z : Int) ∧ z < 2, fun u => ∃ z : Int, u = .int .i64 z ∧ -10 ≤ z ∧ z ≤ 200, fun u => u = .pointer (some ⟨cb, 0, none⟩), fun u => ∃ z : Nat, u = .int .i64 (z : Int) ∧ z < 3, fun u => u = .int .i64 (x : Int), fun u => u = .pointer (some ⟨cb, 0, none⟩), fun u => ∃ z : Nat, u = .int .i64 (z : Int) ∧ z < 3, fun u => u = .pointer (some ⟨cb, 0, none⟩), fun u => ∃ z : Nat, u = .int .i64 (z : Int) ∧ z < 24, fun u => ∃ z : Nat, u = .int .i64 (z : Int) ∧ z < 2, fun u => ∃ z : Int, u = .int .i64 z ∧ -10 ≤ z ∧ z ≤ 200, fun _ => True, fun u => ∃ z : Int, u = .int .i64 z ∧ -10 ≤ z ∧ z ≤ 200, fun u => ∃ z : Nat, u = .int .i64 (z : Int) ∧ z < 3, fun u => u = .int .i64 (x : Int), fun u => ∃ z : Int, u = .int .i64 z ∧ -10 ≤ z ∧ z ≤ 200]) (fun q W => (q ≤ 4 ∧ CurP W cb A L c (P0 + 2 * q) ∧ Seen cb w5 W) ∨ (q = 5 ∧ ∃ W0, Seen cb w5 W0 ∧ W = set3 W0 w.heap.size (.slice D0 N.ends.length d0) (.slice D1 N.ids.length d1) (.slice D2 N.inputs.length d2))) (by kernel_rfl) (by kernel_rfl) (by kernel_rfl) (by decide) (by kernel_rfl) (.inl ⟨by omega, Hcu5.out.since (since_drew (since_refl _)), (Seen.refl cb w5).after (since_drew (since_refl _))⟩) ?_ ?_
 ·intro i o hi ho V W q hq hr hd
  match i, ho with
  | 0, ho =>
   cases ho
   clear hd hi hr
   refine ⟨rfl, ?_⟩
   simp only [putAll, zR20, List.getElem?_toArray, List.getElem?_cons_succ, List.getElem?_cons_zero]
   (try simp only [zA])
   obtain ⟨k0, k1, k2⟩ := HY.out q W hq
   refine dstepC_val (u := .agg #[.slice D0 N.ends.length d0, .slice D1 N.ids.length d1, .slice D2 N.inputs.length d2]) (W' := W) (by go_simp) ⟨hq, rfl⟩
  | 1, ho =>
   cases ho
   clear hd hi hr
   refine ⟨rfl, ?_⟩
   simp only [putAll, zR20, List.getElem?_toArray, List.getElem?_cons_succ, List.getElem?_cons_zero]
   (try simp only [zA])
   refine dstepC_val (u := .int .i64 (v : Int)) (W' := W) (by go_simp) ⟨hq, rfl⟩
  | 2, ho =>
   cases ho
   clear hd hi hr
   refine ⟨rfl, ?_⟩
   simp only [putAll, zR20, List.getElem?_toArray, List.getElem?_cons_succ, List.getElem?_cons_zero]
   (try simp only [zA])
   refine dstepC_val (u := .pointer (some ⟨cb, 0, none⟩)) (W' := W) (by go_simp) ⟨hq, rfl⟩
  | 3, ho =>
   cases ho
   have e2 : (fun u => u = .pointer (some ⟨cb, 0, none⟩)) (V 2) := hd 2 (by decide +kernel)
   have hq0 : Hid (0 = q) := hr 0 rfl
   clear hd hi hr
   refine ⟨rfl, ?_⟩
   simp only [putAll, zR20, List.getElem?_toArray, List.getElem?_cons_succ, List.getElem?_cons_zero]
   (try simp only [zA])
   have e2 : V 2 = _ := e2
   rw [e2]
   clear e2
   obtain ⟨hq4, hcuq, hseq⟩ : q ≤ 4 ∧ CurP W cb A L c (P0 + 2 * q) ∧ Seen cb w5 W := by
    rcases hq with h7 | ⟨h7, -⟩
    ·exact h7
    ·have := hq0.out; omega
   refine dstepC_call (f := 62) (args := #[.pointer (some ⟨cb, 0, none⟩), .int .i64 24]) (W' := W) (by go_simp) ?_
   refine (pick_p cb A L c (P0 + 2 * q) 24 W hcuq (by have := HP0.out; have := hq0.out; omega) (by omega)).mono ?_
   rintro e W' ⟨z, rfl, hz, hcu, hC⟩
   exact ⟨_, rfl, .inl ⟨show q + 1 ≤ 4 by have := hq0.out; omega, show CurP W' cb A L c (P0 + 2 * (q + 1)) from hcu.mono (by omega), hseq.trans hC⟩, z, rfl, by omega⟩
  | 4, ho =>
   cases ho
   have e3 : (fun u => ∃ z : Nat, u = .int .i64 (z : Int) ∧ z < 24) (V 3) := hd 3 (by decide +kernel)
   clear hd hi hr
   refine ⟨rfl, ?_⟩
   simp only [putAll, zR20, List.getElem?_toArray, List.getElem?_cons_succ, List.getElem?_cons_zero]
   (try simp only [zA])
   obtain ⟨z, hz, hzb⟩ := e3
   rw [hz]
   obtain ⟨y, hy⟩ : ∃ y, y = z / 23 := ⟨_, rfl⟩
   have t1 : Int.tdiv (z : Int) 23 = (y : Int) := by rw [hy]; rfl
   have t2 : (z : Int) / 23 = (y : Int) := by omega
   have hy2 : y < 2 := by omega
   have t3 : IntKind.i64.wrap (y : Int) = (y : Int) := wr64 _ (by omega) (by omega)
   clear hy
   refine dstepC_val (u := .int .i64 (y : Int)) (W' := W) (by go_simp) ⟨hq, y, rfl, hy2⟩
  | 5, ho =>
   cases ho
   have e1 : (fun u => u = .int .i64 (v : Int)) (V 1) := hd 1 (by decide +kernel)
   have e4 : (fun u => ∃ z : Nat, u = .int .i64 (z : Int) ∧ z < 2) (V 4) := hd 4 (by decide +kernel)
   clear hd hi hr
   refine ⟨rfl, ?_⟩
   simp only [putAll, zR20, List.getElem?_toArray, List.getElem?_cons_succ, List.getElem?_cons_zero]
   (try simp only [zA])
   have e1 : V 1 = _ := e1
   rw [e1]
   obtain ⟨z2, hz2, hzb2⟩ := e4
   rw [hz2]
   have t1 : IntKind.i64.wrap ((v : Int) - (z2 : Int)) = (v : Int) - (z2 : Int) := wr64 _ (by omega) (by omega)
   refine dstepC_val (u := .int .i64 ((v : Int) - (z2 : Int))) (W' := W) (by go_simp) ⟨hq, _, rfl, by omega, by omega⟩
  | 6, ho =>
   cases ho
   clear hd hi hr
   refine ⟨rfl, ?_⟩
   simp only [putAll, zR20, List.getElem?_toArray, List.getElem?_cons_succ, List.getElem?_cons_zero]
   (try simp only [zA])
   refine dstepC_val (u := .pointer (some ⟨cb, 0, none⟩)) (W' := W) (by go_simp) ⟨hq, rfl⟩
  | 7, ho =>
   cases ho
   have e6 : (fun u => u = .pointer (some ⟨cb, 0, none⟩)) (V 6) := hd 6 (by decide +kernel)
   have hq0 : Hid (1 = q) := hr 1 rfl
   clear hd hi hr
   refine ⟨rfl, ?_⟩
   simp only [putAll, zR20, List.getElem?_toArray, List.getElem?_cons_succ, List.getElem?_cons_zero]
   (try simp only [zA])
   have e6 : V 6 = _ := e6
   rw [e6]
   clear e6
   obtain ⟨hq4, hcuq, hseq⟩ : q ≤ 4 ∧ CurP W cb A L c (P0 + 2 * q) ∧ Seen cb w5 W := by
    rcases hq with h7 | ⟨h7, -⟩
    ·exact h7
    ·have := hq0.out; omega
   refine dstepC_call (f := 62) (args := #[.pointer (some ⟨cb, 0, none⟩), .int .i64 3]) (W' := W) (by go_simp) ?_
   refine (pick_p cb A L c (P0 + 2 * q) 3 W hcuq (by have := HP0.out; have := hq0.out; omega) (by omega)).mono ?_
   rintro e W' ⟨z, rfl, hz, hcu, hC⟩
   exact ⟨_, rfl, .inl ⟨show q + 1 ≤ 4 by have := hq0.out; omega, show CurP W' cb A L c (P0 + 2 * (q + 1)) from hcu.mono (by omega), hseq.trans hC⟩, z, rfl, by omega⟩
  | 8, ho =>
   cases ho
   clear hd hi hr
   refine ⟨rfl, ?_⟩
   simp only [putAll, zR20, List.getElem?_toArray, List.getElem?_cons_succ, List.getElem?_cons_zero]
   (try simp only [zA])
   refine dstepC_val (u := .int .i64 (x : Int)) (W' := W) (by go_simp) ⟨hq, rfl⟩
  | 9, ho =>
   cases ho
   clear hd hi hr
   refine ⟨rfl, ?_⟩
   simp only [putAll, zR20, List.getElem?_toArray, List.getElem?_cons_succ, List.getElem?_cons_zero]
   (try simp only [zA])
   refine dstepC_val (u := .pointer (some ⟨cb, 0, none⟩)) (W' := W) (by go_simp) ⟨hq, rfl⟩
  | 10, ho =>
   cases ho
   have e9 : (fun u => u = .pointer (some ⟨cb, 0, none⟩)) (V 9) := hd 9 (by decide +kernel)
   have hq0 : Hid (2 = q) := hr 2 rfl
   clear hd hi hr
   refine ⟨rfl, ?_⟩
   simp only [putAll, zR20, List.getElem?_toArray, List.getElem?_cons_succ, List.getElem?_cons_zero]
   (try simp only [zA])
   have e9 : V 9 = _ := e9
   rw [e9]
   clear e9
   obtain ⟨hq4, hcuq, hseq⟩ : q ≤ 4 ∧ CurP W cb A L c (P0 + 2 * q) ∧ Seen cb w5 W := by
    rcases hq with h7 | ⟨h7, -⟩
    ·exact h7
    ·have := hq0.out; omega
   refine dstepC_call (f := 62) (args := #[.pointer (some ⟨cb, 0, none⟩), .int .i64 3]) (W' := W) (by go_simp) ?_
   refine (pick_p cb A L c (P0 + 2 * q) 3 W hcuq (by have := HP0.out; have := hq0.out; omega) (by omega)).mono ?_
   rintro e W' ⟨z, rfl, hz, hcu, hC⟩
   exact ⟨_, rfl, .inl ⟨show q + 1 ≤ 4 by have := hq0.out; omega, show CurP W' cb A L c (P0 + 2 * (q + 1)) from hcu.mono (by omega), hseq.trans hC⟩, z, rfl, by omega⟩
  | 11, ho =>
   cases ho
   clear hd hi hr
   refine ⟨rfl, ?_⟩
   simp only [putAll, zR20, List.getElem?_toArray, List.getElem?_cons_succ, List.getElem?_cons_zero]
   (try simp only [zA])
   refine dstepC_val (u := .pointer (some ⟨cb, 0, none⟩)) (W' := W) (by go_simp) ⟨hq, rfl⟩
  | 12, ho =>
   cases ho
   have e11 : (fun u => u = .pointer (some ⟨cb, 0, none⟩)) (V 11) := hd 11 (by decide +kernel)
   have hq0 : Hid (3 = q) := hr 3 rfl
   clear hd hi hr
   refine ⟨rfl, ?_⟩
   simp only [putAll, zR20, List.getElem?_toArray, List.getElem?_cons_succ, List.getElem?_cons_zero]
   (try simp only [zA])
   have e11 : V 11 = _ := e11
   rw [e11]
   clear e11
   obtain ⟨hq4, hcuq, hseq⟩ : q ≤ 4 ∧ CurP W cb A L c (P0 + 2 * q) ∧ Seen cb w5 W := by
    rcases hq with h7 | ⟨h7, -⟩
    ·exact h7
    ·have := hq0.out; omega
   refine dstepC_call (f := 62) (args := #[.pointer (some ⟨cb, 0, none⟩), .int .i64 24]) (W' := W) (by go_simp) ?_
   refine (pick_p cb A L c (P0 + 2 * q) 24 W hcuq (by have := HP0.out; have := hq0.out; omega) (by omega)).mono ?_
   rintro e W' ⟨z, rfl, hz, hcu, hC⟩
   exact ⟨_, rfl, .inl ⟨show q + 1 ≤ 4 by have := hq0.out; omega, show CurP W' cb A L c (P0 + 2 * (q + 1)) from hcu.mono (by omega), hseq.trans hC⟩, z, rfl, by omega⟩
  | 13, ho =>
   cases ho
   have e12 : (fun u => ∃ z : Nat, u = .int .i64 (z : Int) ∧ z < 24) (V 12) := hd 12 (by decide +kernel)
   clear hd hi hr
   refine ⟨rfl, ?_⟩
   simp only [putAll, zR20, List.getElem?_toArray, List.getElem?_cons_succ, List.getElem?_cons_zero]
   (try simp only [zA])
   obtain ⟨z, hz, hzb⟩ := e12
   rw [hz]
   obtain ⟨y, hy⟩ : ∃ y, y = z / 23 := ⟨_, rfl⟩
   have t1 : Int.tdiv (z : Int) 23 = (y : Int) := by rw [hy]; rfl
   have t2 : (z : Int) / 23 = (y : Int) := by omega
   have hy2 : y < 2 := by omega
   have t3 : IntKind.i64.wrap (y : Int) = (y : Int) := wr64 _ (by omega) (by omega)
   clear hy
   refine dstepC_val (u := .int .i64 (y : Int)) (W' := W) (by go_simp) ⟨hq, y, rfl, hy2⟩
  | 14, ho =>
   cases ho
   have e10 : (fun u => ∃ z : Nat, u = .int .i64 (z : Int) ∧ z < 3) (V 10) := hd 10 (by decide +kernel)
   have e13 : (fun u => ∃ z : Nat, u = .int .i64 (z : Int) ∧ z < 2) (V 13) := hd 13 (by decide +kernel)
   clear hd hi hr
   refine ⟨rfl, ?_⟩
   simp only [putAll, zR20, List.getElem?_toArray, List.getElem?_cons_succ, List.getElem?_cons_zero]
   (try simp only [zA])
   obtain ⟨z1, hz1, hzb1⟩ := e10
   obtain ⟨z2, hz2, hzb2⟩ := e13
   rw [hz1, hz2]
   have t1 : IntKind.i64.wrap ((z1 : Int) - (z2 : Int)) = (z1 : Int) - (z2 : Int) := wr64 _ (by omega) (by omega)
   refine dstepC_val (u := .int .i64 ((z1 : Int) - (z2 : Int))) (W' := W) (by go_simp) ⟨hq, _, rfl, by omega, by omega⟩
  | 15, ho =>
   cases ho
   have e0 : (fun u => u = .agg #[.slice D0 N.ends.length d0, .slice D1 N.ids.length d1, .slice D2 N.inputs.length d2]) (V 0) := hd 0 (by decide +kernel)
   have hq0 : Hid (4 = q) := hr 4 rfl
   clear hd hi hr
   refine ⟨rfl, ?_⟩
   simp only [putAll, zR20, List.getElem?_toArray, List.getElem?_cons_succ, List.getElem?_cons_zero]
   (try simp only [zA])
   have e0 : V 0 = _ := e0
   rw [e0]
   clear e0
   rcases hq with ⟨hq4, hcuq, hseq⟩ | ⟨hq5, -⟩
   ·obtain ⟨g0, g1, g2, f0, f1, f2⟩ := (HRW.out W hseq).box.cells
    refine dstepC_skip (W' := set3 W w.heap.size (.slice D0 N.ends.length d0) (.slice D1 N.ids.length d1) (.slice D2 N.inputs.length d2)) (by unfold set3; go_simp) ⟨.inr ⟨show q + 1 = 5 by have := hq0.out; omega, W, hseq, rfl⟩, trivial⟩
   ·have := hq0.out; omega
  | 16, ho =>
   cases ho
   have e5 : (fun u => ∃ z : Int, u = .int .i64 z ∧ -10 ≤ z ∧ z ≤ 200) (V 5) := hd 5 (by decide +kernel)
   clear hd hi hr
   refine ⟨rfl, ?_⟩
   simp only [putAll, zR20, List.getElem?_toArray, List.getElem?_cons_succ, List.getElem?_cons_zero]
   (try simp only [zA])
   obtain ⟨z, hz, hzb⟩ := e5
   rw [hz]
   clear hz
   refine dstepC_val (u := .int .i64 (z : Int)) (W' := W) (by go_simp) ⟨hq, z, rfl, hzb⟩
  | 17, ho =>
   cases ho
   have e7 : (fun u => ∃ z : Nat, u = .int .i64 (z : Int) ∧ z < 3) (V 7) := hd 7 (by decide +kernel)
   clear hd hi hr
   refine ⟨rfl, ?_⟩
   simp only [putAll, zR20, List.getElem?_toArray, List.getElem?_cons_succ, List.getElem?_cons_zero]
   (try simp only [zA])
   obtain ⟨z, hz, hzb⟩ := e7
   rw [hz]
   clear hz
   refine dstepC_val (u := .int .i64 (z : Int)) (W' := W) (by go_simp) ⟨hq, z, rfl, hzb⟩
  | 18, ho =>
   cases ho
   have e8 : (fun u => u = .int .i64 (x : Int)) (V 8) := hd 8 (by decide +kernel)
   clear hd hi hr
   refine ⟨rfl, ?_⟩
   simp only [putAll, zR20, List.getElem?_toArray, List.getElem?_cons_succ, List.getElem?_cons_zero]
   (try simp only [zA])
   have e8 : V 8 = _ := e8
   rw [e8]
   clear e8
   refine dstepC_val (u := .int .i64 (x : Int)) (W' := W) (by go_simp) ⟨hq, rfl⟩
  | 19, ho =>
   cases ho
   have e14 : (fun u => ∃ z : Int, u = .int .i64 z ∧ -10 ≤ z ∧ z ≤ 200) (V 14) := hd 14 (by decide +kernel)
   clear hd hi hr
   refine ⟨rfl, ?_⟩
   simp only [putAll, zR20, List.getElem?_toArray, List.getElem?_cons_succ, List.getElem?_cons_zero]
   (try simp only [zA])
   obtain ⟨z, hz, hzb⟩ := e14
   rw [hz]
   clear hz
   refine dstepC_val (u := .int .i64 (z : Int)) (W' := W) (by go_simp) ⟨hq, z, rfl, hzb⟩
  | i + 20, ho => omega
 intro V W q hq hql hall hV
 have hq5 : 4 < q := hall 15 4 (by omega) rfl
 have e0 : (fun u => u = .agg #[.slice D0 N.ends.length d0, .slice D1 N.ids.length d1, .slice D2 N.inputs.length d2]) (V 0) := hV 0 (by decide)
 have e1 : (fun u => u = .int .i64 (v : Int)) (V 1) := hV 1 (by decide)
 have e2 : (fun u => u = .pointer (some ⟨cb, 0, none⟩)) (V 2) := hV 2 (by decide)
 have e3 : (fun u => ∃ z : Nat, u = .int .i64 (z : Int) ∧ z < 24) (V 3) := hV 3 (by decide)
 have e4 : (fun u => ∃ z : Nat, u = .int .i64 (z : Int) ∧ z < 2) (V 4) := hV 4 (by decide)
 have e5 : (fun u => ∃ z : Int, u = .int .i64 z ∧ -10 ≤ z ∧ z ≤ 200) (V 5) := hV 5 (by decide)
 have e6 : (fun u => u = .pointer (some ⟨cb, 0, none⟩)) (V 6) := hV 6 (by decide)
 have e7 : (fun u => ∃ z : Nat, u = .int .i64 (z : Int) ∧ z < 3) (V 7) := hV 7 (by decide)
 have e8 : (fun u => u = .int .i64 (x : Int)) (V 8) := hV 8 (by decide)
 have e9 : (fun u => u = .pointer (some ⟨cb, 0, none⟩)) (V 9) := hV 9 (by decide)
 have e10 : (fun u => ∃ z : Nat, u = .int .i64 (z : Int) ∧ z < 3) (V 10) := hV 10 (by decide)
 have e11 : (fun u => u = .pointer (some ⟨cb, 0, none⟩)) (V 11) := hV 11 (by decide)
 have e12 : (fun u => ∃ z : Nat, u = .int .i64 (z : Int) ∧ z < 24) (V 12) := hV 12 (by decide)
 have e13 : (fun u => ∃ z : Nat, u = .int .i64 (z : Int) ∧ z < 2) (V 13) := hV 13 (by decide)
 have e14 : (fun u => ∃ z : Int, u = .int .i64 z ∧ -10 ≤ z ∧ z ≤ 200) (V 14) := hV 14 (by decide)
 have e15 : (fun _ => True) (V 15) := hV 15 (by decide)
 have e16 : (fun u => ∃ z : Int, u = .int .i64 z ∧ -10 ≤ z ∧ z ≤ 200) (V 16) := hV 16 (by decide)
 have e17 : (fun u => ∃ z : Nat, u = .int .i64 (z : Int) ∧ z < 3) (V 17) := hV 17 (by decide)
 have e18 : (fun u => u = .int .i64 (x : Int)) (V 18) := hV 18 (by decide)
 have e19 : (fun u => ∃ z : Int, u = .int .i64 z ∧ -10 ≤ z ∧ z ≤ 200) (V 19) := hV 19 (by decide)
 clear hV hall
 have e0 : V 0 = _ := e0
 have e1 : V 1 = _ := e1
 have e2 : V 2 = _ := e2
 have e6 : V 6 = _ := e6
 have e8 : V 8 = _ := e8
 have e9 : V 9 = _ := e9
 have e11 : V 11 = _ := e11
 have e18 : V 18 = _ := e18
 obtain ⟨z3, e3, b3⟩ := e3
 obtain ⟨z7, e7, b7⟩ := e7
 obtain ⟨z10, e10, b10⟩ := e10
 obtain ⟨z12, e12, b12⟩ := e12
 obtain ⟨z4, e4, b4⟩ := e4
 obtain ⟨z13, e13, b13⟩ := e13
 obtain ⟨z5, e5, b5⟩ := e5
 obtain ⟨z14, e14, b14⟩ := e14
 obtain ⟨z16, e16, b16⟩ := e16
 obtain ⟨z17, e17, b17⟩ := e17
 obtain ⟨z19, e19, b19⟩ := e19
 simp only [putAll, zR20, List.getElem?_toArray, List.getElem?_cons_succ, List.getElem?_cons_zero]
 (try simp only [zA])
 simp only [List.drop_succ_cons, List.drop_zero]
 rw [e0, e1, e2, e3, e4, e5, e6, e7, e8, e9, e10, e11, e12, e13, e14, e16, e17, e18, e19]
 clear e0 e1 e2 e3 e4 e5 e6 e7 e8 e9 e10 e11 e12 e13 e14 e15 e16 e17 e18 e19
 obtain ⟨W0, hse0, hWe⟩ : ∃ W0, Seen cb w5 W0 ∧ W = set3 W0 w.heap.size (.slice D0 N.ends.length d0) (.slice D1 N.ids.length d1) (.slice D2 N.inputs.length d2) := by
  rcases hq with ⟨h7, -⟩ | ⟨-, h7⟩
  ·omega
  ·exact h7
 subst hWe
 have hseW : Seen cb w1 W0 := (Hse4.out.trans Hse5.out).trans hse0
 have HoW := Lib.hid (((Ho4.out.seen Hse5.out (by omega)).seen hse0 (by omega)))
 have HseW := Lib.hid hseW
 have hrc := (((HRW.out W0 hse0).box).set3 (.slice D0 N.ends.length d0) (.slice D1 N.ids.length d1) (.slice D2 N.inputs.length d2)).cells
 obtain ⟨r0, r1, r2, -, -, -⟩ := hrc
 clear hseW hse0
 simp only [wpList]
 go_wp2
 refine bodyPost_ret (v := .tuple #[.agg #[.slice D0 N.ends.length d0, .slice D1 N.ids.length d1, .slice D2 N.inputs.length d2], .int .i64 z16, .int .i64 (z17 : Int), .int .i64 (x : Int), .int .i64 z19]) (by simp [results, Tryz.results17, go_sem, *]) rfl ?_
 have hz := Hz1.out
 have hput : ∀ j, w.heap.size < j → (set3 W0 w.heap.size (.slice D0 N.ends.length d0) (.slice D1 N.ids.length d1) (.slice D2 N.inputs.length d2)).heap[j]? = W0.heap[j]? := fun j hj => set3_blk _ _ _ _ _ (by omega)
 refine ⟨_, _, _, N, S, _, _, _, _, rfl, (HoW.out.stable (fun j hj => hput j (by have := (HoW.out.range j hj).1; omega))).mono (by omega), Hbd.out, ⟨by omega, by omega, by omega, by omega⟩, ?_⟩
 have h1 : Below w.heap.size w W0 := Below.trans Hs1.out.below ((HseW.out.mono (by omega)).below (by have := Hcb.out; have := Hz0.out; omega))
 exact ((h1.setCell (by simp) _).setCell (by simp) _).setCell (by simp) _
end Go.Proofs.YtgmdpppljkmabaaGreat
namespace Go.Proofs.YtgmdpppljkmabaaGreat
open Go Go.RowKit
/-! what FnCrossings needs of the networks -/
theorem crossings_mem {n : Net} {ls : List Int} {x : Q4} (h : x ∈ crossings n ls) : ∃ u i w : Nat, x = ((u : Int), (i : Int), (w : Int), (i : Int)) ∧ u < n.ends.length ∧ w < n.ends.length ∧ i < (n.ends.getD u []).length ∧ i < (n.ends.getD w []).length ∧ hidB n.ends ls ((u : Int), (i : Int)) ((w : Int), (i : Int)) = true := by
 unfold crossings crossTo at h
 obtain ⟨u, hu, h⟩ := List.mem_flatMap.1 h
 unfold cross2 at h
 obtain ⟨i, hi, h⟩ := List.mem_flatMap.1 h
 unfold cross3 at h
 obtain ⟨w, hw, h⟩ := List.mem_map.1 h
 obtain ⟨hw1, hw2⟩ := List.mem_filter.1 hw
 rw [Bool.and_eq_true, decide_eq_true_eq] at hw2
 have hu' := List.mem_range.1 hu
 have hi' := List.mem_range.1 hi
 have hwr := List.mem_range'_1.1 hw1
 unfold lenE at hi' hw2
 exact ⟨u, i, w, h.symm, hu', by omega, hi', hw2.1, hw2.2⟩
theorem cx_row {n : Net} {ls : List Int} {k : Nat} {r : List Int} (h : (fnExactCrossingsOf_d n ls)[k]? = some r) : ∃ u i w : Nat, r = [(u : Int), (i : Int), (w : Int), (i : Int)] ∧ u < 41 ∧ i < 10 ∧ w < 41 ∧ crossOk n ls u i w i = true ∧ hidB n.ends ls ((u : Int), (i : Int)) ((w : Int), (i : Int)) = true ∧ HidX n ls ((u : Int), (i : Int)) ((w : Int), (i : Int)) := by
 unfold fnExactCrossingsOf_d at h
 by_cases hc : crossOkB n ls = true
 ·rw [if_pos hc] at h
  have hm := List.mem_of_getElem? h
  obtain ⟨x, hx, rfl⟩ := List.mem_map.1 hm
  obtain ⟨u, i, w, rfl, hu, hw, hi1, hi2, hh⟩ := crossings_mem hx
  unfold crossOkB at hc
  rw [Bool.and_eq_true] at hc
  have h40 := netOk_len hc.1
  have hok : crossOk n ls u i w i = true := by
   unfold crossOk
   rw [hc.1, hc.2, hasPort_iff.2 ⟨by omega, by omega, by omega, by rw [Int.toNat_natCast]; omega⟩, hasPort_iff.2 ⟨by omega, by omega, by omega, by rw [Int.toNat_natCast]; omega⟩]
   rfl
  have h6 := (netOk_iff.1 hc.1).2.2.2.1 u hu
  exact ⟨u, i, w, rfl, by omega, by omega, by omega, hok, hh, hidX_of (p := ((u : Int), (i : Int))) (q := ((w : Int), (i : Int))) hok hh⟩
 ·rw [if_neg hc] at h
  simp at h
theorem netOk_sz {n : Net} (h : netOk n = true) (hil : n.ids.length ≤ 200) : szNet n ≤ 1048576 := by
 have hi := netOk_iff.1 h
 have hinp : n.inputs.length = n.ends.length := by
  have h3 := hi.2.2.1
  unfold inputsB at h3
  simp only [Bool.and_eq_true, beq_iff_eq] at h3
  omega
 refine (Bd.small ⟨by omega, fun k es he => ?_, by omega, by omega⟩).sz
 have := hi.2.2.2.1 k (lt_of_get he)
 rw [getD_of he] at this
 omega
theorem cross_d {n : Net} {v i x j : Int} (h : crossEOk n v i x j = true) : fnExactCrossEdges_d n v i x j = crossN n (v, i) (x, j) := by
 unfold fnExactCrossEdges_d
 rw [if_pos h]
 rfl
theorem reject_same {n : Net} {ls : List Int} {p q : Int × Int} (h : HidX n ls p q) (s : Int) : fnExactRejectingNodes_r1 (crossN n p q) s ls = fnExactRejectingNodes_r1 n s ls ∧ fnExactRejectingNodes_d (crossN n p q) s ls = fnExactRejectingNodes_d n s ls := by
 unfold fnExactRejectingNodes_r1 fnExactRejectingNodes_d
 rw [h.lab_ok, h.rejects]
 exact ⟨rfl, rfl⟩
theorem deg_same {n : Net} {p q : Int × Int} (h : MayX n p q) : degL (crossN n p q) = degL n := by
 unfold degL crossN
 apply List.ext_getElem?
 intro k
 have hl := h.len
 have hr := h.row k
 show ((crossE n p.1 p.2 q.1 q.2).map _)[k]? = (n.ends.map _)[k]?
 rw [List.getElem?_map, List.getElem?_map]
 rw [List.getD_eq_getElem?_getD, List.getD_eq_getElem?_getD] at hr
 by_cases hk : k < n.ends.length
 ·rw [List.getElem?_eq_getElem (by omega), List.getElem?_eq_getElem hk] at hr ⊢
  simp at hr ⊢
  omega
 ·rw [List.getElem?_eq_none (by omega), List.getElem?_eq_none (by omega)]
end Go.Proofs.YtgmdpppljkmabaaGreat
namespace Go.Proofs.YtgmdpppljkmabaaGreat
open Go.ChangeShapes Go.WideShapes Go.ChangeAt Go.RowKit
set_option maxRecDepth 100000 in
theorem open_bytes {H : Type} {enc : TypeId × Value → H} {W : World} {r : Reach} {b0 : Nat} {v : Value} {d : DataW H} {p : List MemPlace}
  (hv : Value.okWide Tryz.prog W r b0 22 v) (h : DataW.Trod enc Tryz.prog W 0 (fun _ => true) true 22 v d p) : ∃ L, ByS W v L := by
 obtain ⟨a0, len0, cap0, rfl⟩ := okWide_slice Tryz.underlying22 hv
 obtain ⟨fuel, hf⟩ := h
 rcases open_ints Tryz.underlying22 Tryz.underlying5 (by kernel_rfl) hf with ⟨hcs, _⟩ | ⟨x, l, c, zs, hcs, _, hl, hm, hz, _, hcell, hwz⟩
 ·simp [Value.cells] at hcs
  obtain ⟨rfl, rfl, rfl⟩ := hcs
  exact ⟨0, none, 0, rfl, Nat.le_refl _, by unfold maxLen; omega, fun k hk => by omega⟩
 ·simp [Value.cells] at hcs
  obtain ⟨rfl, rfl, rfl⟩ := hcs
  have hz' : zs.length = cap0 := by simpa using hz
  refine ⟨len0, some x, cap0, rfl, hl, hm, fun k hk => ?_⟩
  have hk2 : k < zs.length := by omega
  have hc := hcell k hk2
  have hb := bounds_u8 (hwz (zs.getD k 0) (by rw [List.getD_eq_getElem?_getD, List.getElem?_eq_getElem hk2]; exact List.getElem_mem hk2))
  have h0 := hcell 0 (by omega)
  obtain ⟨bl, off, spot⟩ := x
  cases spot with
  | none =>
   refine ⟨bl, off, zs.getD k 0, rfl, ?_, hb.1, by omega⟩
   by_cases hk0 : k = 0
   ·subst hk0; simpa [Addr.add] using hc
   ·simpa [Addr.add, hk0] using hc
  | some q => simp [World.cell?, Addr.add] at h0; split at h0 <;> simp at h0
end Go.Proofs.YtgmdpppljkmabaaGreat
namespace Go.Proofs.YtgmdpppljkmabaaGreat
open Go Go.RowKit
/-! A region that draws its order, each operation with a relation of its own (DataFlow), and one store among them; the operations of `late` may come behind the store and only compute values. -/
section
variable {P : Program} {ops : Array Oper}
def GI (own : List Nat) (O : Nat → Value → World → Nat → Nat → Prop) (D : Nat → Prop) (V : Nat → Value) (W : World) : Prop :=
 ∃ I : Nat → Nat × Nat, (∀ i ∈ own, D i → O i (V i) W (I i).1 (I i).2 ∧ (I i).2 ≤ W.heap.size) ∧ ∀ i ∈ own, ∀ j ∈ own, i ≠ j → D i → D j → (I i).2 ≤ (I j).1 ∨ (I j).2 ≤ (I i).1
theorem GI.none (own : List Nat) (O : Nat → Value → World → Nat → Nat → Prop) (V : Nat → Value) (W : World) : GI own O (fun _ => False) V W := ⟨fun _ => (0, 0), fun _ _ h => h.elim, fun _ _ _ _ _ h => h.elim⟩
theorem GI.skip {own : List Nat} {O : Nat → Value → World → Nat → Nat → Prop} (hO : ∀ i u W W' lo hi, O i u W lo hi → Since W W' → O i u W' lo hi) {D : Nat → Prop} {V : Nat → Value} {W W' : World} (h : GI own O D V W) (hs : Since W W') {i : Nat} (hi : own.contains i = false) (u : Value) : GI own O (fun j => D j ∨ j = i) (upd V i u) W' := by
 obtain ⟨I, h1, h2⟩ := h
 have hne : ∀ j ∈ own, j ≠ i := fun j hj e => by subst e; simp at hi; exact hi hj
 refine ⟨I, fun j hj hd => ?_, fun j hj j' hj' hn hd hd' => h2 j hj j' hj' hn (hd.elim id fun e => absurd e (hne j hj)) (hd'.elim id fun e => absurd e (hne j' hj'))⟩
 obtain ⟨h3, h4⟩ := h1 j hj (hd.elim id fun e => absurd e (hne j hj))
 rw [upd_ne V u (hne j hj)]
 exact ⟨hO _ _ _ _ _ _ h3 hs, Nat.le_trans h4 hs.below.size⟩
theorem GI.add {own : List Nat} {O : Nat → Value → World → Nat → Nat → Prop} (hO : ∀ i u W W' lo hi, O i u W lo hi → Since W W' → O i u W' lo hi) {D : Nat → Prop} {V : Nat → Value} {W W' : World} (h : GI own O D V W) (hs : Since W W') {i : Nat} (hD : ¬ D i) {u : Value} (ho : O i u W' W.heap.size W'.heap.size) : GI own O (fun j => D j ∨ j = i) (upd V i u) W' := by
 obtain ⟨I, h1, h2⟩ := h
 obtain ⟨I', hI⟩ : ∃ I' : Nat → Nat × Nat, I' = fun j => if j = i then (W.heap.size, W'.heap.size) else I j := ⟨_, rfl⟩
 have hIi : I' i = (W.heap.size, W'.heap.size) := by rw [hI]; exact if_pos rfl
 have hIn : ∀ j, j ≠ i → I' j = I j := fun j e => by rw [hI]; exact if_neg e
 refine ⟨I', fun j hj hd => ?_, fun j hj j' hj' hn hd hd' => ?_⟩
 ·by_cases e : j = i
  ·subst e
   rw [upd_self, hIi]
   exact ⟨ho, Nat.le_refl _⟩
  ·obtain ⟨h3, h4⟩ := h1 j hj (hd.elim id fun e' => absurd e' e)
   rw [upd_ne V u e, hIn j e]
   exact ⟨hO _ _ _ _ _ _ h3 hs, Nat.le_trans h4 hs.below.size⟩
 ·by_cases e : j = i
  ·have e' : j' ≠ i := fun e' => hn (e.trans e'.symm)
   subst e
   rw [hIi, hIn j' e']
   exact .inr (h1 j' hj' (hd'.elim id fun x => absurd x e')).2
  ·by_cases e' : j' = i
   ·subst e'
    rw [hIi, hIn j e]
    exact .inl (h1 j hj (hd.elim id fun x => absurd x e)).2
   ·rw [hIn j e, hIn j' e']
    exact h2 j hj j' hj' hn (hd.elim id fun x => absurd x e) (hd'.elim id fun x => absurd x e')
theorem wp_region_dst {Q : Exit → Act → World → Prop} {rid : Nat} {a : Act} {w w0 : World} (k s : Nat) (late : List Nat) (R : Nat → (Nat → Value) → World → Prop) (G : (Nat → Prop) → (Nat → Value) → World → Prop) (st : (Nat → Value) → World → World) (hR : ∀ j V W W', R j V W → Since W W' → R j V W')
  (hloc : ∀ j V V' W, V j = V' j → (∀ o, ops[j]? = some o → ∀ d ∈ depsOf o, V d = V' d) → R j V W → R j V' W) (hRs : ∀ V W, R s V W) (hm : P.follows .mixedOrders = true) (hf : flowB ops k = true) (hkn : decide (k ≤ ops.size) = true) (hsk : decide (s < k) = true)
  (hanc : ((List.range k).all fun i => decide (i = s) || late.contains i || ((closTbl ops (s + 1)).getD s []).contains i) = true) (hs0 : Since w0 w) (hG0 : ∀ V W, Since w0 W → G (fun _ => False) V W)
  (hstep : ∀ i o, i < k → i ≠ s → ops[i]? = some o → ∀ D V W, Since w0 W → (∀ d ∈ depsOf o, R d V W) → ¬ D i → G D V W → Region.wanted o (yielded ops (putAll ops (List.range k) V a).tmps) = true ∧ DStep P o (putAll ops (List.range k) V a) W (fun u W' => Since W W' ∧ R i (upd V i u) W' ∧ G (fun j => D j ∨ j = i) (upd V i u) W'))
  (hpure : ∀ i o, i < k → i ≠ s → late.contains i = true → ops[i]? = some o → ∀ V W1, Since w0 W1 → (∀ d ∈ depsOf o, R d V W1) → Region.wanted o (yielded ops (putAll ops (List.range k) V a).tmps) = true ∧ ∃ u, (∀ W, (execOp (putAll ops (List.range k) V a).eval o).run P W = .ok (.value u) W) ∧ R i (upd V i u) W1 ∧ (∀ X, st (upd V i u) X = st V X) ∧ ∀ D, ¬ D i → G D V W1 → G (fun j => D j ∨ j = i) (upd V i u) W1)
  (hstore : ∀ o, ops[s]? = some o → o.dst = none ∧ ∀ V W, Since w0 W → (∀ d ∈ depsOf o, R d V W) → Region.wanted o (yielded ops (putAll ops (List.range k) V a).tmps) = true ∧ (execOp (putAll ops (List.range k) V a).eval o).run P W = .ok .skip (st V W))
  (hend : ∀ V W, Since w0 W → (∀ j, j < k → j ≠ s → R j V W) → G (fun j => j < k ∧ j ≠ s) V W → wpList P ops Q (ops.toList.drop k) (putAll ops (List.range k) V a) (st V W)) : (Code.region rid ops true).wp P Q a w := by
 have hok := flow_ok hf
 have hkn := of_decide_eq_true hkn
 have hsk := of_decide_eq_true hsk
 have frame : ∀ V, FrameIs a ops V (fun j => j < k) (putAll ops (List.range k) V a) := fun V => by
  have := frame_putAll (a := a) hok.dsts hkn V (List.range k) (fun _ => False) a (fun _ h => h.elim) (fun j hj => ⟨List.mem_range.1 hj, id⟩) List.nodup_range (FrameIs.start a V)
  exact this.same (fun j => by simp)
 let J : (Nat → Prop) → Act → World → Prop := fun D a' W =>
  (¬ D s ∧ Since w0 W ∧ (∀ j, D j → j < k) ∧ ∃ V, FrameIs a ops V D a' ∧ (∀ j, D j → R j V W) ∧ G D V W) ∨
  (D s ∧ (∀ j, D j → j < k) ∧ ∃ V W1, Since w0 W1 ∧ FrameIs a ops V D a' ∧ (∀ j, D j → j ≠ s → R j V W1) ∧ G (fun j => D j ∧ j ≠ s) V W1 ∧ W = st V W1) ∨
  (∃ m, k ≤ m ∧ m ≤ ops.size ∧ (∀ j, j < ops.size → (D j ↔ j < m)) ∧ wpList P ops Q (ops.toList.drop m) a' W)
 have full : ∀ D a' W, J D a' W → (∀ j, j < k → D j) → ∃ m, k ≤ m ∧ m ≤ ops.size ∧ (∀ j, j < ops.size → (D j ↔ j < m)) ∧ wpList P ops Q (ops.toList.drop m) a' W := by
  intro D a' W hJ hD
  rcases hJ with ⟨hn, -⟩ | ⟨-, hDk, V, W1, hW1, hfr, hV, hGG, rfl⟩ | hJ
  ·exact absurd (hD s hsk) hn
  ·have e : a' = putAll ops (List.range k) V a := hfr.ext (frame V) (fun j _ => ⟨hDk j, hD j⟩)
   subst e
   exact ⟨k, Nat.le_refl _, hkn, fun j _ => ⟨hDk j, hD j⟩, hend V W1 hW1 (fun j hj hjs => hV j (hD j hj) hjs) (by
    have e9 : (fun j => D j ∧ j ≠ s) = (fun j => j < k ∧ j ≠ s) := funext fun j => propext ⟨fun h => ⟨hDk j h.1, h.2⟩, fun h => ⟨hD j h.1, h.2⟩⟩
    rwa [e9] at hGG)⟩
  ·exact hJ
 refine wp_region_inv2 hm hok.back J (.inl ⟨id, since_drew hs0, fun j hj => hj.elim, fun _ => undef, FrameIs.start a _, fun j hj => hj.elim, hG0 _ _ (since_drew hs0)⟩) ?_ ?_
 ·intro D a' W i o hJ ho hDi hdep hcl
  have hin : i < ops.size := (Array.getElem?_eq_some_iff.1 ho).1
  by_cases hik : i < k
  ·have agree : ∀ V, (∀ j, D j → j < k) → FrameIs a ops V D a' → (execOp a'.eval o = execOp (putAll ops (List.range k) V a).eval o) ∧ Region.wanted o (yielded ops a'.tmps) = Region.wanted o (yielded ops (putAll ops (List.range k) V a).tmps) := fun V hDk hfr =>
    agree_exec (ops := ops) (a' := a') (A := putAll ops (List.range k) V a) (fun t ht => hfr.agree (frame V) t (fun j oj hj hoj hd => by
     have hjk : j < k := hj.elim (fun h => hDk j h) id
     exact ⟨hdep j (hok.looks i o hik ho t ht j oj hjk hoj hd), hjk⟩)) (fun cs b => hok.nosel i o cs b ho)
   have dist : (∀ j, D j → j < k) → ∀ j oj d, D j → ops[j]? = some oj → o.dst = some d → oj.dst ≠ some d := fun hDk j oj d hj hoj hd hd2 => by
    have := hok.dsts i o hik ho j oj (hDk j hj) hoj d hd hd2
    subst this
    exact hDi hj
   have frput : ∀ V u, (∀ j, D j → j < k) → FrameIs a ops V D a' → FrameIs a ops (upd V i u) (fun j => D j ∨ j = i) (a'.put o.dst u) := fun V u hDk hfr => by
    have := (hfr.vals2 (v' := upd V i u) (fun j _ hj => (upd_ne V u (fun e => by subst e; exact hDi hj)).symm)).put (i := i) ho (dist hDk)
    rwa [upd_self] at this
   have keepR : ∀ V u X Y j, (∀ j, D j → j < k) → D j → R j V X → Since X Y → R j (upd V i u) Y := fun V u X Y j hDk hj hr hS => by
    have hji : j ≠ i := fun e => by subst e; exact hDi hj
    exact hloc j V _ Y (upd_ne V u hji).symm (fun oj hoj d hd => (upd_ne V u (fun e => by subst e; exact hDi (hcl j oj hj hoj d hd))).symm) (hR j V X Y hr hS)
   rcases hJ with ⟨hns, hW, hDk, V, hfr, hV, hGG⟩ | ⟨hDs, hDk, V, W1, hW1, hfr, hV, hGG, rfl⟩ | ⟨m, h1, h2, h3, _⟩
   ·obtain ⟨he, hw'⟩ := agree V hDk hfr
    by_cases his : i = s
    ·subst his
     obtain ⟨hdn, hst⟩ := hstore o ho
     obtain ⟨hw, hrun⟩ := hst V W hW (fun d hd => hV d (hdep d hd))
     rw [if_pos (hw'.trans hw)]
     refine .inl ?_
     unfold Oper.wp
     rw [he, hrun]
     refine .inr (.inl ⟨.inr rfl, fun j hj => hj.elim (hDk j) (fun e => by omega), V, W, hW, ?_, fun j hj hne => hj.elim (hV j) (fun e => absurd e hne), ?_, rfl⟩)
     ·have := hfr.put (i := i) ho (dist hDk)
      rw [hdn] at this ⊢
      exact this
     ·have e9 : (fun j => (D j ∨ j = i) ∧ j ≠ i) = D := funext fun j => propext ⟨fun h => h.1.elim id (fun e => absurd e h.2), fun h => ⟨.inl h, fun e => by subst e; exact hDi h⟩⟩
      rw [e9]
      exact hGG
    ·obtain ⟨hw, hst⟩ := hstep i o hik his ho D V W hW (fun d hd => hV d (hdep d hd)) hDi hGG
     have next : ∀ u W', Since W W' → R i (upd V i u) W' → G (fun j => D j ∨ j = i) (upd V i u) W' → J (fun j => D j ∨ j = i) (a'.put o.dst u) W' := by
      intro u W' hS hRi hGi
      refine .inl ⟨fun h => h.elim hns (fun e => his e.symm), hW.after hS, fun j hj => hj.elim (hDk j) (fun e => by omega), upd V i u, frput V u hDk hfr, fun j hj => ?_, hGi⟩
      rcases hj with hj | rfl
      ·exact keepR V u W W' j hDk hj (hV j hj) hS
      ·exact hRi
     rw [if_pos (hw'.trans hw)]
     refine .inl ?_
     unfold Oper.wp
     rw [he]
     unfold DStep at hst
     generalize (execOp (putAll ops (List.range k) V a).eval o).run P W = r at hst ⊢
     cases r with
     | ok nx W' =>
      cases nx with
      | value u => exact next u W' hst.1 hst.2.1 hst.2.2
      | enter f args =>
       simp only [Oper.upon]
       exact Calls.mono hst fun e W'' ⟨u, he', h3, h4, h5⟩ => by subst he'; exact next u W'' h3 h4 h5
      | _ => exact hst.elim
     | halt x W' => exact hst.elim
   ·obtain ⟨he, hw'⟩ := agree V hDk hfr
    have his : i ≠ s := fun e => by subst e; exact hDi hDs
    have hlate : late.contains i = true := by
     have h9 := List.all_eq_true.1 hanc i (List.mem_range.2 hik)
     simp only [Bool.or_eq_true, decide_eq_true_eq] at h9
     rcases h9 with (h9 | h9) | h9
     ·exact absurd h9 his
     ·exact h9
     ·exact absurd (anc_closed hcl (closTbl_sound _ s i (List.contains_iff_mem.1 h9)) hDs) hDi
    obtain ⟨hw, u, hrun, hRi, hstu, hGi⟩ := hpure i o hik his hlate ho V W1 hW1 (fun d hd => by
     by_cases hds : d = s
     ·subst hds; exact hRs V W1
     ·exact hV d (hdep d hd) hds)
    rw [if_pos (hw'.trans hw)]
    refine .inl ?_
    unfold Oper.wp
    rw [he, hrun]
    refine .inr (.inl ⟨.inl hDs, fun j hj => hj.elim (hDk j) (fun e => by omega), upd V i u, W1, hW1, frput V u hDk hfr, fun j hj hne => ?_, ?_, (hstu W1).symm⟩)
    ·rcases hj with hj | rfl
     ·exact keepR V u W1 W1 j hDk hj (hV j hj hne) (since_refl _)
     ·exact hRi
    ·have e9 : (fun j => (D j ∨ j = i) ∧ j ≠ s) = (fun j => (D j ∧ j ≠ s) ∨ j = i) := funext fun j => propext ⟨fun h => h.1.elim (fun h' => .inl ⟨h', h.2⟩) .inr, fun h => h.elim (fun h' => ⟨.inl h'.1, h'.2⟩) (fun e => ⟨.inr e, fun e2 => his (e.symm.trans e2)⟩)⟩
     rw [e9]
     exact hGi _ (fun h => hDi h.1) hGG
   ·exact absurd ((h3 i hin).2 (by omega)) hDi
  ·have hall : ∀ j, j < i → D j := fun j hj => anc_ready hcl ho hdep (hok.tail i (by omega) hin j hj)
   obtain ⟨m, h1, h2, h3, h4⟩ := full D a' W hJ (fun j hj => hall j (by omega))
   have hmi : m = i := by
    by_cases e1 : i < m
    ·exact absurd ((h3 i hin).2 e1) hDi
    ·by_cases e2 : m < i
     ·have := (h3 m (by omega)).1 (hall m e2); omega
     ·omega
   subst hmi
   have hdr : ops.toList.drop m = o :: ops.toList.drop (m + 1) := by
    have : m < ops.toList.length := by simpa using hin
    rw [List.drop_eq_getElem_cons this]
    congr 1
    have := (Array.getElem?_eq_some_iff.1 ho).2
    simpa using this
   rw [hdr] at h4
   unfold wpList at h4
   have next : ∀ a W, wpList P ops Q (ops.toList.drop (m + 1)) a W → J (fun j => D j ∨ j = m) a W := fun a W h => .inr (.inr ⟨m + 1, by omega, by omega, fun j hj => by
    constructor
    ·rintro (h | rfl)
     ·have := (h3 j hj).1 h; omega
     ·omega
    ·intro h
     by_cases e : j = m
     ·exact .inr e
     ·exact .inl ((h3 j hj).2 (by omega)), h⟩)
   split
   ·rename_i hw
    rw [if_pos hw] at h4
    exact h4.imp (Oper.wp_mono next) id
   ·rename_i hw
    rw [if_neg hw] at h4
    exact next _ _ h4
 ·intro D a' W hJ hall
  obtain ⟨m, h1, h2, h3, h4⟩ := full D a' W hJ (fun j hj => hall j (by omega))
  have hmn : m = ops.size := by
   by_cases e : m < ops.size
   ·have := (h3 m e).1 (hall m e); omega
   ·omega
  subst hmn
  rw [List.drop_eq_nil_of_le (by simp)] at h4
  exact h4
theorem wp_region_dstl {Q : Exit → Act → World → Prop} {rid : Nat} {a : Act} {w w0 : World} (L : List ((Nat → Value) → World → Prop)) (G : (Nat → Prop) → (Nat → Value) → World → Prop) (k s : Nat) (late : List Nat) (st : (Nat → Value) → World → World) (hR : ∀ r ∈ L, ∀ V W W', r V W → Since W W' → r V W')
  (hloc : ∀ (j : Nat) r, L[j]? = some r → ∀ V V' W, V j = V' j → (∀ o, ops[j]? = some o → ∀ d ∈ depsOf o, V d = V' d) → r V W → r V' W) (hRs : ∀ V W, RL L s V W) (hm : P.follows .mixedOrders = true) (hf : flowB ops k = true) (hkn : decide (k ≤ ops.size) = true) (hsk : decide (s < k) = true)
  (hanc : ((List.range k).all fun i => decide (i = s) || late.contains i || ((closTbl ops (s + 1)).getD s []).contains i) = true) (hs0 : Since w0 w) (hG0 : ∀ V W, Since w0 W → G (fun _ => False) V W)
  (hstep : ∀ i o, i < k → i ≠ s → ops[i]? = some o → ∀ D V W, Since w0 W → (∀ d ∈ depsOf o, RL L d V W) → ¬ D i → G D V W → Region.wanted o (yielded ops (putAll ops (List.range k) V a).tmps) = true ∧ DStep P o (putAll ops (List.range k) V a) W (fun u W' => Since W W' ∧ RL L i (upd V i u) W' ∧ G (fun j => D j ∨ j = i) (upd V i u) W'))
  (hpure : ∀ i o, i < k → i ≠ s → late.contains i = true → ops[i]? = some o → ∀ V W1, Since w0 W1 → (∀ d ∈ depsOf o, RL L d V W1) → Region.wanted o (yielded ops (putAll ops (List.range k) V a).tmps) = true ∧ ∃ u, (∀ W, (execOp (putAll ops (List.range k) V a).eval o).run P W = .ok (.value u) W) ∧ RL L i (upd V i u) W1 ∧ (∀ X, st (upd V i u) X = st V X) ∧ ∀ D, ¬ D i → G D V W1 → G (fun j => D j ∨ j = i) (upd V i u) W1)
  (hstore : ∀ o, ops[s]? = some o → o.dst = none ∧ ∀ V W, Since w0 W → (∀ d ∈ depsOf o, RL L d V W) → Region.wanted o (yielded ops (putAll ops (List.range k) V a).tmps) = true ∧ (execOp (putAll ops (List.range k) V a).eval o).run P W = .ok .skip (st V W))
  (hend : ∀ V W, Since w0 W → (∀ j, j < k → j ≠ s → RL L j V W) → G (fun j => j < k ∧ j ≠ s) V W → wpList P ops Q (ops.toList.drop k) (putAll ops (List.range k) V a) (st V W)) : (Code.region rid ops true).wp P Q a w := by
 refine wp_region_dst k s late (RL L) G st (fun j V W W' h hs => ?_) (fun j V V' W h1 h2 h => ?_) hRs hm hf hkn hsk hanc hs0 hG0 hstep hpure hstore hend
 ·unfold RL at h ⊢
  cases hj : L[j]? with
  | none => trivial
  | some r => rw [hj] at h; exact hR r (List.mem_of_getElem? hj) V W W' h hs
 ·unfold RL at h ⊢
  cases hj : L[j]? with
  | none => trivial
  | some r => rw [hj] at h; exact hloc j r hj V V' W h1 h2 h
end
end Go.Proofs.YtgmdpppljkmabaaGreat
