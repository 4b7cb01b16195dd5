/- Parts of the proof: walks of functions and plain laws. -/
import Derived.Test.YtomnaabadohecaaP6
import Derived.Test.YtomnaabadohecaaP8
import Derived.Test.YtomnaabadohecaaP4
import Derived.Test.YtomnaabadohecaaP9
import Derived.Test.YtomnaabadohecaaP5
import Derived.Test.YtomnaabadohecaaP0
import Derived.LoopN
import Derived.RangeFuncNested
import Derived.RangeFuncBound
import Derived.RangeFuncCalls
import Derived.RangeFuncLeaves
import Derived.RangeFuncBox
import Derived.Shelf.Abstract
import Derived.Shelf.RegionOpen
import Derived.OwnWalkIn
import Derived.TacticsInMore
import Derived.LoopNIn
import Derived.LoopIn
import Derived.Test.YtomnaabadohecaaP1
import Derived.Test.YtomnaabadohecaaP7
namespace Go.Proofs.Ytomnaabadohecaa
open Go.RowKit
def ballTo (n : Net) (v : Nat) (r : Int) (k : Nat) : List Int := ((List.range k).filter fun w => inB 0 r ((distB n v).getD w 0)).map Int.ofNat
theorem ballTo_snoc {n : Net} {v : Nat} {r : Int} {k : Nat} {d : Int} (h : (distB n v)[k]? = some d) : ballTo n v r (k + 1) = if inB 0 r d then ballTo n v r k ++ [(k : Int)] else ballTo n v r k := by
  unfold ballTo
  rw [List.range_succ, List.filter_append, List.map_append]
  have e : (distB n v).getD k 0 = d := getD_of h
  cases hb : inB 0 r d <;> simp only [List.filter_cons, List.filter_nil, e, hb] <;> simp
theorem ballTo_len (n : Net) (v : Nat) (r : Int) (k : Nat) : (ballTo n v r k).length ≤ k := by
  unfold ballTo
  rw [List.length_map]
  exact Nat.le_trans (List.length_filter_le _ _) (by simp)
theorem dist_bd {n : Net} (hn : netOk n = true) {v w : Nat} (hv : v < n.ends.length) (hw : w < n.ends.length) : -1 ≤ (distB n v).getD w 0 ∧ (distB n v).getD w 0 < n.ends.length := by
  have hl : (distB n v).length = n.ends.length := bfs_len hn _ _ _ (BI.start hv)
  refine bfs_in hn (n.ends.length + 1) _ 0 (BI.start hv) _ ?_
  show (distB n v).getD w 0 ∈ distB n v
  rw [List.getD_eq_getElem?_getD, List.getElem?_eq_getElem (by omega)]
  exact List.getElem_mem _
theorem ball_least {n : Net} (hn : netOk n = true) {v : Nat} (hv : v < n.ends.length) : (ballTo n v 40 n.ends.length)[0]? = some (leastB n v : Int) := by
  have e : ((List.range n.ends.length).filter fun w => inB 0 40 ((distB n v).getD w 0)) = (List.range n.ends.length).filter fun w => decide (0 ≤ (distB n v).getD w 0) := by
    apply List.filter_congr
    intro w hw
    have := dist_bd hn hv (List.mem_range.1 hw)
    have := (netOk_len hn).2
    rw [Bool.eq_iff_iff, inB_iff, decide_eq_true_eq]
    omega
  have hs := least_spec hn hv
  unfold ballTo
  rw [e, List.getElem?_map]
  have : ((List.range n.ends.length).filter fun w => decide (0 ≤ (distB n v).getD w 0))[0]? = some (leastB n v) := by
    rw [← List.head?_eq_getElem?, List.head?_filter]
    unfold leastB
    cases h : (List.range n.ends.length).find? fun w => decide (0 ≤ (distB n v).getD w 0) with
    | none =>
      have := List.find?_eq_none.1 h v (List.mem_range.2 hv)
      exact absurd (decide_eq_true ((dist_iff hn hv hv).2 Rch.refl)) this
    | some u => rfl
  rw [this]
  rfl
set_option maxRecDepth 100000 in
set_option maxHeartbeats 8000000 in
theorem meBall_any (ve vi vn : Value) (n : Net) (v : Nat) (r : Int) (w : World) (h : NetIn w ve vi vn n) (hn : netOk n = true) (hv : v < n.ends.length) :
    Calls Try.prog 55 #[.agg #[ve, vi, vn], .int .i64 v, .int .i64 r] w fun e w' => ∃ u, e = .returned u ∧ Own w' w.heap.size u (ballTo n v r n.ends.length) ∧ Below w.heap.size w w' := by
  have hnl := netOk_len hn
  have hnl1 := hnl.1
  have hnl2 := hnl.2
  have Hn := Lib.hid hn
  obtain ⟨w0, hw0⟩ : ∃ w0, w0 = (w).alloc (.cells #[ve, vi, vn] 31) := ⟨_, rfl⟩
  have hb0 : Below w.heap.size w w0 := by rw [hw0]; exact ((Below.refl _ _).alloc (by simp) _)
  have H := Lib.hid (h.keep hb0)
  obtain ⟨h1, h2, h3⟩ := h.keep hb0
  obtain ⟨A, c, rfl, hlc, hm, hA⟩ := h1
  obtain ⟨A2, c2, rfl, _, hm2, _⟩ := h2
  obtain ⟨A3, c3, rfl, _, hm3, _⟩ := h3
  unfold maxLen at hm hm2 hm3
  have p00 : ∀ W, Since w0 W → W.cell? ⟨w.heap.size, 0, none⟩ = some (.slice A n.ends.length c) := have_cell (by rw [hw0]; simp)
  have p01 : ∀ W, Since w0 W → W.cell? ⟨w.heap.size, 1, none⟩ = some (.slice A2 n.ids.length c2) := have_cell (by rw [hw0]; simp)
  have p02 : ∀ W, Since w0 W → W.cell? ⟨w.heap.size, 2, none⟩ = some (.slice A3 n.inputs.length c3) := have_cell (by rw [hw0]; simp)
  have Hb0 := Lib.hid hb0
  have Hw0 := Lib.hid hw0
  have HA := Lib.hid hA
  clear hA h
  clear hb0 hw0
  have hs0 : Since w0 w0 := since_refl _
  clear hn hnl
  go_enter Try.func55, Try.ntmps55
  go_upto_region 1 with (fail)
  rw [← Hw0.out]
  go_wp2_with fail
  refine (meFrom_any _ _ _ n v w0 H.out Hn.out hv).mono ?_
  obtain ⟨ds, hds⟩ : ∃ ds, ds = distB n v := ⟨_, rfl⟩
  rw [← hds]
  rintro e w2 ⟨u2, rfl, ho2, hb2⟩
  have hdl : ds.length = n.ends.length := by rw [hds]; exact bfs_len Hn.out _ _ _ (BI.start hv)
  obtain ⟨gd, cd, rfl⟩ : ∃ gd cd, u2 = .slice (some ⟨gd, 0, none⟩) n.ends.length cd := by
    rcases ho2.cases with ⟨-, e1⟩ | ⟨gd, cd, rfl, hg1, hg2⟩
    · have := congrArg List.length e1; rw [List.length_nil] at this; omega
    · exact ⟨gd, cd, by rw [hdl]⟩
  have Ho2 := Lib.hid ho2
  have Hs2 := Lib.hid (hs0.trans hb2)
  have Hds := Lib.hid hds
  have Hdl := Lib.hid hdl
  clear ho2 hb2 hds hdl hs0
  go_wp2
  go_loopw [7, 14] (fun u i wr => ∃ k : Nat, k ≤ n.ends.length ∧ i = .int .i64 k ∧ Own wr w2.heap.size u (ballTo n v r k) ∧ Since w2 wr) (fun _ i _ => n.ends.length - (intOf i).toNat)
  case atStart => exact ⟨0, Nat.zero_le _, rfl, by simpa [ballTo] using own_nil _ w2.heap.size, since_refl _⟩
  case round =>
    obtain ⟨k, hk, rfl, ho, hsr⟩ := hrel
    have Ho := Lib.hid ho
    have Hs := Lib.hid hsr
    clear ho hsr
    by_cases hlt : k < n.ends.length
    · have m3 : IntKind.i64.wrap ((k : Int) + 1) = (k : Int) + 1 := wr64 _ (by omega) (by omega)
      obtain ⟨d, hd⟩ := getx ds k (by rw [Hdl.out]; exact hlt)
      have cd1 := (Ho2.out.since Hs.out).cell hd
      have Hn1 := Lib.hid (ballTo_snoc (r := r) (show (distB n v)[k]? = some d by rw [← Hds.out]; exact hd))
      have Hlen : Hid ((ballTo n v r k).length + 1 ≤ 17592186044416) := by show _ ≤ _; have := ballTo_len n v r k; omega
      clear hd
      go_upto_region 5 with (fail)
      go_wp2_with fail
      refine (l1In_b _ _ _ _).mono ?_
      rintro e w' ⟨rfl, rfl⟩
      cases hb : inB 0 r d
      · rw [hb] at Hn1
        clear cd1
        go_wp2
        go_roundw
        case rel => exact ⟨k + 1, by omega, by first | rfl | go_num, by rw [Hn1.out]; exact Ho.out, Hs.out⟩
        case measure => simp [intOf]; omega
      · rw [hb] at Hn1
        clear cd1
        go_wp2_with (at_builtin; refine app_int_s rfl _ _ rfl rfl (Ho.out.since (since_alloc _ (since_refl _))) wr.heap.size k rfl (by simp [go_sem]) Hlen.out (since_alloc _ Hs.out) ?_; intro g cc w3 ho3 hs3)
        have Ho3 := Lib.hid ho3
        have Hs3 := Lib.hid hs3
        clear ho3 hs3
        go_wp2
        go_roundw
        case rel => exact ⟨k + 1, by omega, by first | rfl | go_num, by rw [Hn1.out, if_pos trivial]; exact Ho3.out, Hs3.out⟩
        case measure => simp [intOf]; omega
    · obtain rfl : k = n.ends.length := by omega
      clear hk hlt
      go_wp2
      go_ret
      exact ⟨_, rfl, Ho.out.mono (Nat.le_trans Hb0.out.size Hs2.out.below.size), Since.after Hb0.out (Hs2.out.after Hs.out)⟩
end Go.Proofs.Ytomnaabadohecaa
namespace Go.Proofs.Ytomnaabadohecaa
open Go.RowKit
/-! two colours, plain law -/
def twoAt (n : Net) (v : Nat) : Int := (distB n (leastB n v)).getD v 0 % 2
def twoB (n : Net) : List Int := (List.range n.ends.length).map (twoAt n)
theorem twoB_len (n : Net) : (twoB n).length = n.ends.length := by simp [twoB]
theorem twoB_get {n : Net} {v : Nat} (hv : v < n.ends.length) : (twoB n)[v]? = some (twoAt n v) := by
  unfold twoB
  rw [List.getElem?_map, List.getElem?_range hv]
  rfl
theorem twoB_snoc (n : Net) (k : Nat) : (List.range (k + 1)).map (twoAt n) = (List.range k).map (twoAt n) ++ [twoAt n k] := by rw [List.range_succ, List.map_append]; rfl
theorem least_lt {n : Net} (hn : netOk n = true) {v : Nat} (hv : v < n.ends.length) : leastB n v < n.ends.length := (least_spec hn hv).2.1
theorem dist_own {n : Net} (hn : netOk n = true) {v : Nat} (hv : v < n.ends.length) : 0 ≤ (distB n (leastB n v)).getD v 0 ∧ (distB n (leastB n v)).getD v 0 < n.ends.length :=
  ⟨(dist_iff hn (least_lt hn hv) hv).2 ((least_rch hn (least_lt hn hv) hv (least_root hn hv)).2 rfl), (dist_bd hn (least_lt hn hv) hv).2⟩
theorem two_mod {n : Net} (hn : netOk n = true) {v : Nat} (hv : v < n.ends.length) {d : Int} (hd : (distB n (leastB n v))[v]? = some d) : Int.tmod d 2 = twoAt n v := by
  have h := dist_own hn hv
  unfold twoAt
  rw [getD_of hd] at h ⊢
  exact Int.tmod_eq_emod_of_nonneg h.1
def clashE (n : Net) : Ed → Bool := fun e => (twoB n).getD e.1.toNat 0 == (twoB n).getD e.2.2.1.toNat 0
def clashV (n : Net) (v : Nat) : Int → Bool := fun w => twoAt n v == (twoB n).getD w.toNat 0
def bipB (n : Net) : Bool := !(edgesB n).any (clashE n)
theorem two_getD {n : Net} {v : Nat} (hv : v < n.ends.length) : (twoB n).getD v 0 = twoAt n v := getD_of (twoB_get hv)
/-- both loops see the same -/
theorem bip_ports {n : Net} (hn : netOk n = true) : bipB n = (List.range n.ends.length).all fun v => !(bsee n (v : Int)).any (clashV n v) := by
  unfold bipB
  rw [Bool.eq_iff_iff]
  simp only [Bool.not_eq_true', List.any_eq_false, List.all_eq_true, List.mem_range]
  constructor
  · intro h v hv x hx hc
    rw [show x = ((x.toNat : Nat) : Int) by have := see_in hn (cur := (v : Int)) (by omega) x hx; omega] at hx
    obtain ⟨i, f, hp, hf⟩ := see_port.1 hx
    obtain ⟨p1, p2, p3, p4, p5⟩ := port_in hn hp
    have hxf : x.toNat = f.1.toNat := by omega
    unfold clashV at hc
    rw [hxf, two_getD (by omega)] at hc
    by_cases hk : keepE v i f = true
    · refine h _ (mem_edges_port.2 ⟨v, i, f, hv, hp, hk, rfl⟩) ?_
      unfold clashE
      simp only [Int.toNat_natCast]
      rw [two_getD hv, two_getD (by omega)]
      exact hc
    · have hk2 := (keep_or p2 p4 (by simpa using hk)).1
      refine h _ (mem_edges_port.2 ⟨f.1.toNat, f.2.toNat, ((v : Int), (i : Int)), by omega, p5, hk2, rfl⟩) ?_
      unfold clashE
      simp only [Int.toNat_natCast]
      rw [two_getD hv, two_getD (by omega)]
      simp only [beq_iff_eq] at hc ⊢
      exact hc.symm
  · intro h e he hc
    obtain ⟨v, i, f, hv, hp, _, rfl⟩ := mem_edges_port.1 he
    obtain ⟨p1, p2, p3, p4, p5⟩ := port_in hn hp
    refine h v hv f.1 ?_ ?_
    · rw [show f.1 = ((f.1.toNat : Nat) : Int) by omega]
      exact see_port.2 ⟨i, f, hp, by omega⟩
    · unfold clashV
      unfold clashE at hc
      simp only [Int.toNat_natCast] at hc
      rw [two_getD hv] at hc
      exact hc
end Go.Proofs.Ytomnaabadohecaa
namespace Go.Proofs.Ytomnaabadohecaa
open Go.RowKit
/-! the search for a colouring with three colours, as a plain function -/
def tcGood (n : Net) (l : List Int) (v : Nat) : Bool := !((nearB l (n.ends.getD v [])).contains (l.getD v 0))
def tcRun (n : Net) : Nat → List Int → Int → Nat → Option (Option (List Int))
  | 0, _, _, _ => none
  | f + 1, l, v, s =>
    if (l.length : Int) ≤ v then some (some l)
    else if v < 0 then some none
    else if l.getD v.toNat 0 = 2 then tcRun n f (l.set v.toNat (-1)) (v - 1) s
    else if s = 200000 then none
    else tcRun n f (l.set v.toNat (l.getD v.toNat 0 + 1)) (if tcGood n (l.set v.toNat (l.getD v.toNat 0 + 1)) v.toNat then v + 1 else v) (s + 1)
def tcMu (v : Int) (s : Nat) : Nat := (200000 - s) * 2 + (v + 1).toNat
structure TcSt (n : Net) (l : List Int) (v : Int) (s : Nat) (f : Nat) : Prop where
  len : l.length = n.ends.length
  rng : ∀ x ∈ l, -1 ≤ x ∧ x ≤ 2
  lo : -1 ≤ v
  hi : v ≤ (n.ends.length : Int)
  st : s ≤ 200000
  fu : tcMu v s < f
theorem set_rng {l : List Int} {k : Nat} {y : Int} (h : ∀ x ∈ l, -1 ≤ x ∧ x ≤ 2) (hy : -1 ≤ y ∧ y ≤ 2) : ∀ x ∈ l.set k y, -1 ≤ x ∧ x ≤ 2 := fun x hx => by
  rcases List.mem_or_eq_of_mem_set hx with hx | rfl
  · exact h x hx
  · exact hy
theorem tc_done {n : Net} {l : List Int} {v : Int} {s f : Nat} (h : TcSt n l v s f) (hv : (n.ends.length : Int) ≤ v) : tcRun n f l v s = some (some l) := by
  obtain ⟨g, rfl⟩ : ∃ g, f = g + 1 := ⟨f - 1, by have := h.fu; omega⟩
  unfold tcRun
  rw [if_pos (by rw [h.len]; exact hv)]
theorem tc_none {n : Net} {l : List Int} {v : Int} {s f : Nat} (h : TcSt n l v s f) (hl : v < (n.ends.length : Int)) (hv : v < 0) : tcRun n f l v s = some none := by
  obtain ⟨g, rfl⟩ : ∃ g, f = g + 1 := ⟨f - 1, by have := h.fu; omega⟩
  unfold tcRun
  rw [if_neg (by rw [h.len]; omega), if_pos hv]
theorem tc_back {n : Net} {l : List Int} {k s f : Nat} (h : TcSt n l (k : Int) s (f + 1)) (hl : k < n.ends.length) (hx : l[k]? = some 2) : tcRun n (f + 1) l (k : Int) s = tcRun n f (l.set k (-1)) ((k : Int) - 1) s ∧ TcSt n (l.set k (-1)) ((k : Int) - 1) s f := by
  constructor
  · conv => lhs; unfold tcRun
    rw [if_neg (by rw [h.len]; omega), if_neg (by omega), Int.toNat_natCast, getD_of hx, if_pos rfl]
  · have h1 := h.fu
    unfold tcMu at h1
    exact ⟨by rw [List.length_set]; exact h.len, set_rng h.rng (by omega), by omega, by omega, h.st, by unfold tcMu; omega⟩
theorem tc_stop {n : Net} {l : List Int} {k f : Nat} {x : Int} (h : TcSt n l (k : Int) 200000 (f + 1)) (hl : k < n.ends.length) (hx : l[k]? = some x) (h2 : x ≠ 2) : tcRun n (f + 1) l (k : Int) 200000 = none := by
  unfold tcRun
  rw [if_neg (by rw [h.len]; omega), if_neg (by omega), Int.toNat_natCast, getD_of hx, if_neg h2, if_pos rfl]
theorem tc_go {n : Net} {l : List Int} {k s f : Nat} {x : Int} (h : TcSt n l (k : Int) s (f + 1)) (hl : k < n.ends.length) (hx : l[k]? = some x) (h2 : x ≠ 2) (hs : s ≠ 200000) :
    tcRun n (f + 1) l (k : Int) s = tcRun n f (l.set k (x + 1)) (if tcGood n (l.set k (x + 1)) k then (k : Int) + 1 else (k : Int)) (s + 1) ∧ TcSt n (l.set k (x + 1)) (if tcGood n (l.set k (x + 1)) k then (k : Int) + 1 else (k : Int)) (s + 1) f := by
  have hr := h.rng x (List.mem_of_getElem? hx)
  constructor
  · conv => lhs; unfold tcRun
    rw [if_neg (by rw [h.len]; omega), if_neg (by omega), Int.toNat_natCast, getD_of hx, if_neg h2, if_neg hs]
  · have h1 := h.fu
    have h3 := h.st
    unfold tcMu at h1
    refine ⟨by rw [List.length_set]; exact h.len, set_rng h.rng (by omega), ?_, ?_, by omega, ?_⟩
    · split <;> omega
    · split <;> omega
    · unfold tcMu; split <;> omega
theorem tc_start {n : Net} : TcSt n (List.replicate n.ends.length (-1)) 0 0 400002 := ⟨by simp, fun x hx => by have := (List.mem_replicate.1 hx).2; omega, by omega, by omega, by omega, by unfold tcMu; omega⟩
theorem tc_fuel {n : Net} {l : List Int} {v : Int} {s f : Nat} (h : TcSt n l v s f) : ∃ g, f = g + 1 := ⟨f - 1, by have := h.fu; omega⟩
end Go.Proofs.Ytomnaabadohecaa
namespace Go.Proofs.Ytomnaabadohecaa
open Go.RowKit
/-! the search for labels as a machine: the labels, the place, the steps made -/
def srch (good : List Int → Nat → Bool) (most lim : Int) : Nat → List Int → Nat → Int → List Int × Int × Int
  | 0, _, _, made => ([], 0, made)
  | f + 1, ls, v, made =>
    if v < ls.length then
      if ls.getD v 0 = most then (if v = 0 then ([], 2, made) else srch good most lim f (ls.set v (-1)) (v - 1) made)
      else if made = lim then ([], 3, made)
      else srch good most lim f (ls.set v (ls.getD v 0 + 1)) (if good (ls.set v (ls.getD v 0 + 1)) v then v + 1 else v) (made + 1)
    else (ls, 1, made)
theorem srch_end {good : List Int → Nat → Bool} {most lim made : Int} {f v : Nat} {ls : List Int} (h : ¬ v < ls.length) : srch good most lim (f + 1) ls v made = (ls, 1, made) := by simp only [srch, if_neg h]
theorem srch_none {good : List Int → Nat → Bool} {most lim made : Int} {f : Nat} {ls : List Int} (h : 0 < ls.length) (hm : ls.getD 0 0 = most) : srch good most lim (f + 1) ls 0 made = ([], 2, made) := by simp only [srch, if_pos h, if_pos hm, if_pos]
theorem srch_back {good : List Int → Nat → Bool} {most lim made : Int} {f v : Nat} {ls : List Int} (h : v < ls.length) (hm : ls.getD v 0 = most) (h0 : ¬ v = 0) : srch good most lim (f + 1) ls v made = srch good most lim f (ls.set v (-1)) (v - 1) made := by simp only [srch, if_pos h, if_pos hm, if_neg h0]
theorem srch_stop {good : List Int → Nat → Bool} {most lim : Int} {f v : Nat} {ls : List Int} (h : v < ls.length) (hm : ¬ ls.getD v 0 = most) : srch good most lim (f + 1) ls v lim = ([], 3, lim) := by simp only [srch, if_pos h, if_neg hm, if_pos]
theorem srch_inc {good : List Int → Nat → Bool} {most lim made : Int} {f v : Nat} {ls : List Int} (h : v < ls.length) (hm : ¬ ls.getD v 0 = most) (hl : ¬ made = lim) : srch good most lim (f + 1) ls v made = srch good most lim f (ls.set v (ls.getD v 0 + 1)) (if good (ls.set v (ls.getD v 0 + 1)) v then v + 1 else v) (made + 1) := by simp only [srch, if_pos h, if_neg hm, if_neg hl]
theorem getD_set (ls : List Int) (v j : Nat) (x : Int) (hj : j < ls.length) : (ls.set v x).getD j 0 = if v = j then x else ls.getD j 0 := by
  simp only [List.getD_eq_getElem?_getD, List.getElem?_set]
  split
  · rename_i e; subst e; simp [hj]
  · rfl
/-- what is so ahead of a round -/
structure St (N : Nat) (most : Int) (ls : List Int) (v : Nat) : Prop where
  len : ls.length = N
  lo : ∀ j, j < v → j < N → 0 ≤ ls.getD j 0 ∧ ls.getD j 0 ≤ most
  at_ : v < N → -1 ≤ ls.getD v 0 ∧ ls.getD v 0 ≤ most
  hi : ∀ j, v < j → j < N → ls.getD j 0 = -1
/-- what is so when a label has been raised -/
structure Up (N : Nat) (most : Int) (ls : List Int) (v : Nat) : Prop where
  len : ls.length = N
  lo : ∀ j, j ≤ v → j < N → 0 ≤ ls.getD j 0 ∧ ls.getD j 0 ≤ most
  hi : ∀ j, v < j → j < N → ls.getD j 0 = -1
theorem St.start (N : Nat) (most : Int) (hm : 0 ≤ most) : St N most (List.replicate N (-1)) 0 where
  len := by simp
  lo := fun j hj => by omega
  at_ := fun h => by simp [List.getD_eq_getElem?_getD, List.getElem?_replicate, h]; omega
  hi := fun j _ h => by simp [List.getD_eq_getElem?_getD, List.getElem?_replicate, h]
theorem St.back {N : Nat} {most : Int} {ls : List Int} {v : Nat} (h : St N most ls v) (h0 : ¬ v = 0) : St N most (ls.set v (-1)) (v - 1) where
  len := by simp [h.len]
  lo := fun j hj hn => by rw [getD_set _ _ _ _ (by rw [h.len]; exact hn), if_neg (by omega)]; exact h.lo j (by omega) hn
  at_ := fun hn => by rw [getD_set _ _ _ _ (by rw [h.len]; exact hn), if_neg (by omega)]; have := h.lo (v - 1) (by omega) hn; omega
  hi := fun j hj hn => by
    rw [getD_set _ _ _ _ (by rw [h.len]; exact hn)]
    split
    · rfl
    · exact h.hi j (by omega) hn
theorem St.up {N : Nat} {most : Int} {ls : List Int} {v : Nat} (h : St N most ls v) (hv : v < N) (hm : ¬ ls.getD v 0 = most) : Up N most (ls.set v (ls.getD v 0 + 1)) v where
  len := by simp [h.len]
  lo := fun j hj hn => by
    rw [getD_set _ _ _ _ (by rw [h.len]; exact hn)]
    have := h.at_ hv
    split
    · omega
    · exact h.lo j (by omega) hn
  hi := fun j hj hn => by rw [getD_set _ _ _ _ (by rw [h.len]; exact hn), if_neg (by omega)]; exact h.hi j hj hn
theorem Up.stay {N : Nat} {most : Int} {ls : List Int} {v : Nat} (h : Up N most ls v) : St N most ls v where
  len := h.len
  lo := fun j hj hn => h.lo j (by omega) hn
  at_ := fun hn => by have := h.lo v (Nat.le_refl _) hn; omega
  hi := h.hi
theorem Up.on {N : Nat} {most : Int} {ls : List Int} {v : Nat} (h : Up N most ls v) (hm : 0 ≤ most) : St N most ls (v + 1) where
  len := h.len
  lo := fun j hj hn => h.lo j (by omega) hn
  at_ := fun hn => by have := h.hi (v + 1) (by omega) hn; omega
  hi := fun j hj hn => h.hi j (by omega) hn
/-- how many rounds are left at most -/
def leftM (lim made : Int) (N v : Nat) : Nat := (lim - made).toNat * (N + 2) + v + 1
theorem left_back {lim made : Int} {N v : Nat} (h0 : ¬ v = 0) : leftM lim made N (v - 1) + 1 ≤ leftM lim made N v := by unfold leftM; omega
theorem left_inc {lim made : Int} {N v v' : Nat} (h : made ≤ lim) (hl : ¬ made = lim) (hv : v' ≤ v + 1) : leftM lim (made + 1) N v' + 1 ≤ leftM lim made N v := by
  unfold leftM
  have e : (lim - made).toNat = (lim - (made + 1)).toNat + 1 := by omega
  rw [e, Nat.add_mul, Nat.one_mul]
  omega
/-- node w and all its neighbours are not behind v -/
def knownB (n : Net) (w : Int) (v : Nat) : Bool := decide (w ≤ v) && ((n.ends.getD w.toNat []).map fun e => e.1).all (inB 0 v)
/-- node w and all its neighbours have labels -/
def fullB (n : Net) (ls : List Int) (w : Int) : Bool := decide (0 ≤ ls.getD w.toNat 0) && !(nearB ls (n.ends.getD w.toNat [])).contains (-1)
def viewG (n : Net) (v : Nat) : List Int := ((n.ends.getD v []).map fun e => e.1) ++ [(v : Int)]
def goodG (n : Net) (acc : List Int → Nat → Bool) (ls : List Int) (v : Nat) : Bool := (viewG n v).all fun w => !knownB n w v || acc ls w.toNat
theorem full_known {n : Net} {most : Int} {ls : List Int} {v : Nat} {w : Int} (hn : netOk n = true) (h : Up n.ends.length most ls v) (h0 : 0 ≤ w) (h1 : w < n.ends.length) : fullB n ls w = knownB n w v := by
  obtain ⟨k, rfl⟩ := Int.eq_ofNat_of_zero_le h0
  have hk : k < n.ends.length := by omega
  obtain ⟨es, hes⟩ := getx n.ends k hk
  obtain ⟨-, hin⟩ := netOk_row hn hes
  have own : ∀ j : Nat, j < n.ends.length → (0 ≤ ls.getD j 0 ↔ j ≤ v) := fun j hj => by
    constructor
    · intro hp
      by_cases hjv : j ≤ v
      · exact hjv
      · have := h.hi j (by omega) hj; omega
    · intro hjv; exact (h.lo j hjv hj).1
  have hg : n.ends.getD k [] = es := by simp [List.getD_eq_getElem?_getD, hes]
  unfold fullB knownB
  simp only [Int.toNat_natCast, hg]
  rw [Bool.eq_iff_iff]
  simp only [Bool.and_eq_true, decide_eq_true_eq, Bool.not_eq_true', List.all_eq_true, List.mem_map, forall_exists_index, and_imp, forall_apply_eq_imp_iff₂]
  rw [own k hk]
  constructor
  · rintro ⟨a, b⟩
    refine ⟨by omega, fun e he => inB_iff.2 ?_⟩
    obtain ⟨i1, i2⟩ := hin e he
    refine ⟨i1, ?_⟩
    have hj : e.1.toNat < n.ends.length := by omega
    by_cases hv : e.1.toNat ≤ v
    · omega
    · have hm := h.hi e.1.toNat (by omega) hj
      have : (nearB ls es).contains (-1) = true := by rw [List.contains_iff_mem]; exact List.mem_map.2 ⟨e, he, hm⟩
      rw [this] at b; cases b
  · rintro ⟨a, b⟩
    refine ⟨by omega, ?_⟩
    rw [Bool.eq_false_iff]
    intro hc
    rw [List.contains_iff_mem] at hc
    obtain ⟨e, he, hm⟩ := List.mem_map.1 hc
    obtain ⟨i1, i2⟩ := hin e he
    have := inB_iff.1 (b e he)
    have := (own e.1.toNat (by omega)).2 (by omega)
    omega
theorem known_seen {n : Net} {most : Int} {ls : List Int} {v : Nat} {w : Int} (hn : netOk n = true) (h : Up n.ends.length most ls v) (h0 : 0 ≤ w) (h1 : w < n.ends.length) (hk : knownB n w v = true) : ∀ x ∈ ls.getD w.toNat 0 :: nearB ls (n.ends.getD w.toNat []), 0 ≤ x ∧ x ≤ most := by
  obtain ⟨k, rfl⟩ := Int.eq_ofNat_of_zero_le h0
  have hk' : k < n.ends.length := by omega
  obtain ⟨es, hes⟩ := getx n.ends k hk'
  obtain ⟨-, hin⟩ := netOk_row hn hes
  have hg : n.ends.getD k [] = es := by simp [List.getD_eq_getElem?_getD, hes]
  unfold knownB at hk
  simp only [Int.toNat_natCast, hg] at hk ⊢
  simp only [Bool.and_eq_true, decide_eq_true_eq, List.all_eq_true, List.mem_map, forall_exists_index, and_imp, forall_apply_eq_imp_iff₂] at hk
  intro x hx
  rcases List.mem_cons.1 hx with rfl | hx
  · exact h.lo k (by omega) hk'
  · obtain ⟨e, he, rfl⟩ := List.mem_map.1 hx
    obtain ⟨i1, i2⟩ := hin e he
    have := inB_iff.1 (hk.2 e he)
    exact h.lo e.1.toNat (by omega) (by omega)
theorem view_in {n : Net} {v : Nat} (hn : netOk n = true) (hv : v < n.ends.length) : ∀ w ∈ viewG n v, 0 ≤ w ∧ w < n.ends.length := by
  intro w hw
  obtain ⟨es, hes⟩ := getx n.ends v hv
  obtain ⟨-, hin⟩ := netOk_row hn hes
  have hg : n.ends.getD v [] = es := by simp [List.getD_eq_getElem?_getD, hes]
  unfold viewG at hw
  rw [hg] at hw
  rcases List.mem_append.1 hw with hw | hw
  · obtain ⟨e, he, rfl⟩ := List.mem_map.1 hw; exact hin e he
  · simp at hw; subst hw; omega
end Go.Proofs.Ytomnaabadohecaa
namespace Go.Proofs.Ytomnaabadohecaa
open Go.RowKit
/-- the ranges of a scheme -/
def rangesL (s : Int) : List Int := if s = 4 then [100] else if s = 5 then [100, 10, 2] else []
end Go.Proofs.Ytomnaabadohecaa
namespace Go.Proofs.Ytomnaabadohecaa
open Go.RowKit
theorem Own.lit {w : World} {base : Nat} {v : Value} {x : Int} {xs : List Int} (h : Own w base v (x :: xs)) : ∃ g c, v = .slice (some ⟨g, 0, none⟩) (xs.length + 1) c ∧ base ≤ g ∧ g < w.heap.size ∧ xs.length + 1 ≤ c ∧ ∀ k y, (x :: xs)[k]? = some y → w.cell? ⟨g, k, none⟩ = some (.int .i64 y) := by
  rcases h.2 with ⟨rfl, h0⟩ | ⟨g, cap, cur, rfl, hb, hg, hnc, hm, hcs, htake⟩
  · simp at h0
  · exact ⟨g, cap, rfl, hb, (Array.getElem?_eq_some_iff.1 hg).1, hnc, fun k y hy => Own.cell h hy⟩
theorem Own.lit0 {w : World} {base : Nat} {v : Value} (h : Own w base v []) : ∃ A c, v = .slice A 0 c := by
  rcases h.2 with ⟨rfl, h0⟩ | ⟨g, cap, cur, rfl, _⟩
  · exact ⟨_, _, rfl⟩
  · exact ⟨_, _, rfl⟩
theorem IntS.lit {w : World} {v : Value} {x : Int} {xs : List Int} (h : IntS w v (x :: xs)) : ∃ b off c, v = .slice (some ⟨b, off, none⟩) (xs.length + 1) c ∧ b < w.heap.size ∧ ∀ k y, (x :: xs)[k]? = some y → w.cell? ⟨b, off + k, none⟩ = some (.int .i64 y) := by
  obtain ⟨A, c, rfl, hlc, hm, hA⟩ := h
  obtain ⟨b, off, rfl, h0⟩ := hA 0 x rfl
  refine ⟨b, off, c, rfl, World.block_lt_of_cell? w _ h0, fun k y hy => ?_⟩
  obtain ⟨b', off', he, hc⟩ := hA k y hy
  injection he with he
  injection he with h1 h2
  subst h1 h2
  exact hc
end Go.Proofs.Ytomnaabadohecaa
namespace Go.Proofs.Ytomnaabadohecaa
open Go.RowKit Go.Shelf
attribute [local go_sem] Oper.semAt_some
def uptoL {α : Type} (f : Nat → α) (k : Nat) : List α := (List.range k).map f
theorem uptoL_succ {α : Type} (f : Nat → α) (k : Nat) : uptoL f (k + 1) = uptoL f k ++ [f k] := by simp [uptoL, List.range_succ]
theorem uptoL_length {α : Type} (f : Nat → α) (k : Nat) : (uptoL f k).length = k := by simp [uptoL]
/-- what a round keeps: the blocks from lo to hi -/
def KeepMid (lo hi : Nat) (W W' : World) : Prop := W.heap.size ≤ W'.heap.size ∧ ∀ k, lo ≤ k → k < hi → W'.heap[k]? = W.heap[k]?
theorem KeepMid.t {lo hi : Nat} {A B C : World} (h : KeepMid lo hi A B) (k : KeepMid lo hi B C) : KeepMid lo hi A C := ⟨Nat.le_trans h.1 k.1, fun i h1 h2 => (k.2 i h1 h2).trans (h.2 i h1 h2)⟩
theorem KeepMid.refl (lo hi : Nat) (W : World) : KeepMid lo hi W W := ⟨Nat.le_refl _, fun _ _ _ => rfl⟩
theorem KeepMid.b {lo hi : Nat} {w : World} (hh : hi ≤ w.heap.size) (W : World) (l : Nat) (o o' : Obj) (hl : w.heap.size ≤ l) (_ : W.heap[l]? = some o) (_ : o.isCells = false) (_ : o.isWalk = false) : KeepMid lo hi W (W.putObj l o') :=
  ⟨(grownBy_putObj' W l o').size, fun k _ hk => by
    rcases Nat.lt_or_ge k W.heap.size with h | h
    · exact (grownBy_putObj' W l o').block k h (fun e => by cases e; omega)
    · exact World.putObj_heap_other (fun e => by omega)⟩
theorem KeepMid.cell {lo hi : Nat} {W W' : World} (h : KeepMid lo hi W W') {a : Addr} {u : Value} (h1 : lo ≤ a.block) (h2 : a.block < hi) (hc : W.cell? a = some u) : W'.cell? a = some u :=
  (World.cell?_of_block (h.2 a.block h1 h2)).trans hc
/-- a range and where it stands -/
abbrev Rng := { x : Nat × Int // 1 ≤ x.2 ∧ x.2 ≤ 100 }
def encR (x : Rng) : Array Value := #[.int .i64 (x.1.1 : Int), .int .i64 x.1.2]
end Go.Proofs.Ytomnaabadohecaa
namespace Go.Proofs.Ytomnaabadohecaa
open Go.RowKit Go.Shelf
attribute [local go_sem] Oper.semAt_some
/-- what is left of a label, and the parts that were split off -/
def pDiv (l : Int) (rs : List Int) : Int := rs.foldl (fun l r => l / r) l
def pRem (l : Int) : List Int → List Int
  | [] => []
  | r :: rs => (l % r) :: pRem (l / r) rs
theorem pDiv_snoc (l : Int) (rs : List Int) (r : Int) : pDiv l (rs ++ [r]) = pDiv l rs / r := by simp [pDiv]
theorem pRem_snoc (l : Int) (rs : List Int) (r : Int) : pRem l (rs ++ [r]) = pRem l rs ++ [pDiv l rs % r] := by
  induction rs generalizing l with
  | nil => simp [pRem, pDiv]
  | cons x rs ih => simp [pRem, ih, pDiv]
theorem pRem_len (l : Int) (rs : List Int) : (pRem l rs).length = rs.length := by
  induction rs generalizing l with
  | nil => rfl
  | cons x rs ih => simp [pRem, ih]
theorem pDiv_bd (l : Int) (rs : List Int) (h0 : 0 ≤ l) (hr : ∀ r ∈ rs, 1 ≤ r) : 0 ≤ pDiv l rs ∧ pDiv l rs ≤ l := by
  induction rs generalizing l with
  | nil => simp [pDiv, h0]
  | cons x rs ih =>
    have hx := hr x (by simp)
    have h1 : 0 ≤ l / x := Int.ediv_nonneg h0 (by omega)
    have h2 : l / x ≤ l := Int.ediv_le_self _ h0
    have := ih (l / x) h1 (fun r hr' => hr r (by simp [hr']))
    exact ⟨this.1, Int.le_trans this.2 h2⟩
def vals (pre : List Rng) : List Int := pre.map fun x => x.1.2
theorem vals_snoc (pre : List Rng) (x : Rng) : vals (pre ++ [x]) = vals pre ++ [x.1.2] := by simp [vals]
theorem vals_pos (pre : List Rng) : ∀ r ∈ vals pre, 1 ≤ r := by
  intro r hr
  obtain ⟨x, _, rfl⟩ := List.mem_map.1 hr
  exact x.2.1
theorem vals_len (pre : List Rng) : (vals pre).length = pre.length := by simp [vals]
/-- between two rounds -/
def PInv (l : Int) (b0 N1 : Nat) (w : World) (pre : List Rng) (W : World) : Prop :=
  Boxed W b0 3 (.int .i64 (pDiv l (vals pre))) ∧ (∃ v, Boxed W (b0 + 1) 23 v ∧ Own W N1 v (pRem l (vals pre))) ∧ Below b0 w W ∧ N1 ≤ W.heap.size
theorem pinv_own (l : Int) (b0 N1 : Nat) (w : World) (hb : b0 ≤ w.heap.size) (B : Nat) (hB : b0 ≤ B) : OwnFrom B (PInv l b0 N1 w) := by
  refine OwnFrom.and (_root_.Go.Own.from (boxed_own b0 3 (fun pre : List Rng => .int .i64 (pDiv l (vals pre)))) _) (OwnFrom.and ?_ (OwnFrom.and (ownFrom_below hb hB) (fun _ _ _ _ hs hg _ => Nat.le_trans hs hg.size)))
  have := _root_.Go.Own.from (holdsRow_own (β := List Rng) N1 (b0 + 1) 23 3 1 (fun pre => (pRem l (vals pre)).length) (fun pre => (pRem l (vals pre)).map (Value.int .i64)) (fun _ _ => True)) B
  intro s W W' row hs hg hr
  obtain ⟨v, h1, h2⟩ := hs
  obtain ⟨v', h1', h2', _⟩ := this s W W' row ⟨v, h1, h2, trivial⟩ hg hr
  exact ⟨v', h1', h2'⟩
theorem own_putObj {W : World} {base : Nat} {v : Value} {xs : List Int} (h : Own W base v xs) {D : Nat} {o : Obj} (o' : Obj) (hD : W.heap[D]? = some o) (ho : o.isCells = false) : Own (W.putObj D o') base v xs := ownsRow_putObj h o' hD ho
/-- append(v, x), x in the new block a -/
theorem app1 {w : World} {base : Nat} {v : Value} {xs : List Int} (h : Own w base v xs) (x : Int) (ty : TypeId) (b : Nat) (hc : w.cell? ⟨b, 0, none⟩ = some (.int .i64 x)) (hl : xs.length + 1 ≤ 17592186044416) (hb : base ≤ w.heap.size) :
    ∃ g c w', (Builtin.append_ #[23, 23] ty #[v, .slice (some ⟨b, 0, none⟩) 1 1]).run Try.prog w = .ok (.slice (some ⟨g, 0, none⟩) (xs.length + 1) c) w' ∧ Own w' base (.slice (some ⟨g, 0, none⟩) (xs.length + 1) c) (xs ++ [x]) ∧ w.grownBy w' v.ownBlock ∧ (some g = v.ownBlock ∨ g = w.heap.size) := by
  obtain ⟨i0, hi, hz0, hz1, hz2⟩ := info_parts int_info
  obtain ⟨v', w', hrun, h2, h3, _, h5⟩ := run_append_own_at (P := Try.prog) w base 23 ty 3 i0 (.int .i64 0) 1 8 Try.underlying23 hi hz0 hz1 hz2 rfl (by decide) v xs.length (xs.map (Value.int .i64)) h ⟨b, 0, none⟩ 1 1 [.int .i64 x] rfl
    (by intro j u hj; match j, hj with | 0, hj => (simp at hj; subst hj; simpa [Addr.add] using hc) | j + 1, hj => simp at hj) (by simp [Value.oneCell']) (by unfold maxLen; omega) (by omega) hb
  obtain ⟨g, c, rfl⟩ := ownsRow_succ h2
  refine ⟨g, c, w', hrun, ?_, h3, ?_⟩
  · unfold Own
    simpa using h2
  · rcases h5 with h5 | h5
    · exact .inl (by simpa [Value.ownBlock] using h5)
    · exact .inr (by simpa [Value.ownBlock] using h5)
/-- what append answers, veiled -/
def AppRes (P : Program) (ty : TypeId) (v s : Value) (w : World) : Result Next := ((Builtin.append_ #[23, 23] ty #[v, s]).run P w).andThen fun v' w' => .ok (.value v') w'
theorem veil_app (ro : Option Nat) (ρ : Operand → Value) (dst : Option Tmp) (s x : Operand) (ty : TypeId) (pos : String) (after : Array Edge) (guard : Option (Nat × Bool)) (w : World) :
    Sem.run Try.prog (Oper.semAt ro ρ { dst := dst, op := Op.call { callee := .builtin .append, args := #[s, x], argTypes := #[23, 23] }, type := ty, pos := pos, after := after, guard := guard }) w = AppRes Try.prog ty (ρ s) (ρ x) w := by
  rw [Oper.semAt_eq _ _ _ (by intro c hc; cases hc)]
  simp [execOp, resolve, invoke, builtin, AppRes]
theorem stepIn_res {F : Fence} {nF : Nat} {Y : Nat → Option Bool} {o : Oper} {a : Act} {w : World} {K : Act → World → Prop} {Q : Exit → Act → World → Prop} {E : Prop} (s x : Operand)
    (hgd : o.guard = none) (ho : o.op = .call { callee := .builtin .append, args := #[s, x], argTypes := #[23, 23] }) (v' : Value) (w' : World)
    (hr : AppRes Try.prog o.type (a.eval s) (a.eval x) w = .ok (.value v') w') (h : K (a.put o.dst v') w') :
    if Region.wanted o Y = true then Oper.wpIn F nF Try.prog o a w K Q else E := by
  rw [if_pos (by simp [Region.wanted, hgd])]
  unfold Oper.wpIn
  refine ⟨by simp [Oper.about, ho, resolve, Target.leads, Sem.run_pure], ?_⟩
  rw [Oper.semAt_plain F _ _ (by rw [ho]; intro c hc'; cases hc')]
  unfold AppRes at hr
  simp only [execOp, ho, resolve, invoke, builtin, Sem.run_bind, Sem.run_pure, Result.andThen_ok, List.map_toArray, List.map_cons, List.map_nil]
  generalize (Builtin.append_ #[23, 23] o.type #[a.eval s, a.eval x]).run Try.prog w = R at hr ⊢
  cases R with
  | ok v1 w1 => simp [Result.andThen] at hr; obtain ⟨rfl, rfl⟩ := hr; exact h
  | halt h1 w1 => simp [Result.andThen] at hr
theorem wpListIn_res {F : Fence} {nF : Nat} {ops : Array Oper} {rest : List Oper} {o : Oper} {a : Act} {w : World} {Q : Exit → Act → World → Prop} (s x : Operand)
    (hgd : o.guard = none) (ho : o.op = .call { callee := .builtin .append, args := #[s, x], argTypes := #[23, 23] }) (v' : Value) (w' : World)
    (hr : AppRes Try.prog o.type (a.eval s) (a.eval x) w = .ok (.value v') w') (h : wpListIn F nF Try.prog ops Q rest (a.put o.dst v') w') : wpListIn F nF Try.prog ops Q (o :: rest) a w := by
  refine wpListIn_plain hgd fun K hK => ?_
  have := stepIn_res (F := F) (nF := nF) (Y := fun _ => none) (o := o) (a := a) (w := w) (K := K) (Q := Q) (E := False) s x hgd ho v' w' hr (hK _ _ h)
  rwa [if_pos (by simp [Region.wanted, hgd])] at this
theorem ranges_pos (s : Int) : ∀ r ∈ rangesL s, 1 ≤ r ∧ r ≤ 100 := by
  intro r hr
  unfold rangesL at hr
  split at hr
  · simp at hr; omega
  · split at hr
    · simp at hr; omega
    · simp at hr
/-- the j-th range -/
def rngAt (s : Int) (j : Nat) : Rng := ⟨(j, if h : j < (rangesL s).length then (rangesL s)[j] else 1), by
  by_cases h : j < (rangesL s).length
  · simp only [h, dif_pos]; exact ranges_pos s _ (List.getElem_mem h)
  · simp [h]⟩
theorem rngAt_spec (s : Int) (j : Nat) (h : j < (rangesL s).length) : (rngAt s j).1.1 = j ∧ (rangesL s)[j]? = some (rngAt s j).1.2 := by
  refine ⟨rfl, ?_⟩
  simp [rngAt, h]
theorem vals_upto (s : Int) : vals (uptoL (fun j => rngAt s ((rangesL s).length - 1 - j)) (rangesL s).length) = (rangesL s).reverse := by
  apply List.ext_getElem
  · simp [vals, uptoL]
  · intro i h1 h2
    have hi : i < (rangesL s).length := by simpa using h2
    simp [vals, uptoL, rngAt, show (rangesL s).length - 1 - i < (rangesL s).length by omega]
theorem len_ranges (s : Int) : (rangesL s).length ≤ 3 := by unfold rangesL; (split; · decide); split <;> decide
theorem pinv_step {l q r : Int} {b0 N1 g' c' : Nat} {w W w2 : World} {pre : List Rng} {x : Rng} {v : Value} {o : Obj} (hr : x.1.2 = r) (hq : pDiv l (vals pre) = q) (hN : b0 + 2 ≤ N1)
    (hb1 : Boxed W b0 3 (.int .i64 q)) (hb2 : Boxed W (b0 + 1) 23 v) (hown : Own W N1 v (pRem l (vals pre))) (hB : Below b0 w W) (hsz : N1 ≤ W.heap.size)
    (hown2 : Own w2 N1 (.slice (some ⟨g', 0, none⟩) ((pRem l (vals pre)).length + 1) c') (pRem l (vals pre) ++ [q % r])) (hgr : (W.alloc o).drew.grownBy w2 v.ownBlock) :
    (Boxed w2 b0 3 (.int .i64 q) ∧ Boxed w2 (b0 + 1) 23 v) ∧ KeepsFrom N1 W ((w2.setCell ⟨b0 + 1, 0, none⟩ (.slice (some ⟨g', 0, none⟩) ((pRem l (vals pre)).length + 1) c')).setCell ⟨b0, 0, none⟩ (.int .i64 (q / r))) ∧
      KeepMid (b0 + 2) N1 W ((w2.setCell ⟨b0 + 1, 0, none⟩ (.slice (some ⟨g', 0, none⟩) ((pRem l (vals pre)).length + 1) c')).setCell ⟨b0, 0, none⟩ (.int .i64 (q / r))) ∧
      PInv l b0 N1 w (pre ++ [x]) ((w2.setCell ⟨b0 + 1, 0, none⟩ (.slice (some ⟨g', 0, none⟩) ((pRem l (vals pre)).length + 1) c')).setCell ⟨b0, 0, none⟩ (.int .i64 (q / r))) := by
  have hlt : ∀ k, v.ownBlock = some k → N1 ≤ k := fun k hk => (World.ownsRow.lt hown k hk).1
  have hne0 : some b0 ≠ v.ownBlock := fun e => by have := hlt b0 e.symm; omega
  have hne1 : some (b0 + 1) ≠ v.ownBlock := fun e => by have := hlt (b0 + 1) e.symm; omega
  have k1 : Boxed w2 b0 3 (.int .i64 q) := (show Boxed (W.alloc o).drew b0 _ _ from hb1.alloc o).kept hgr hne0
  have k2 : Boxed w2 (b0 + 1) 23 v := (show Boxed (W.alloc o).drew (b0 + 1) _ _ from hb2.alloc o).kept hgr hne1
  have hg := hown2.blk
  have k3 := (k2.set (.slice (some ⟨g', 0, none⟩) ((pRem l (vals pre)).length + 1) c'))
  have k4 := (k1.other (show b0 ≠ b0 + 1 by omega) (.slice (some ⟨g', 0, none⟩) ((pRem l (vals pre)).length + 1) c')).set (.int .i64 (q / r))
  have k5 := k3.other (show b0 + 1 ≠ b0 by omega) (.int .i64 (q / r))
  have o3 : Own (w2.setCell ⟨b0 + 1, 0, none⟩ (.slice (some ⟨g', 0, none⟩) ((pRem l (vals pre)).length + 1) c')) N1 (.slice (some ⟨g', 0, none⟩) ((pRem l (vals pre)).length + 1) c') (pRem l (vals pre) ++ [q % r]) :=
    World.ownsRow.kept hown2 (grownBy_setCell' w2 (b0 + 1) _) (.inr (by simp [Value.ownBlock]; omega))
  have o4 : Own ((w2.setCell ⟨b0 + 1, 0, none⟩ (.slice (some ⟨g', 0, none⟩) ((pRem l (vals pre)).length + 1) c')).setCell ⟨b0, 0, none⟩ (.int .i64 (q / r))) N1 (.slice (some ⟨g', 0, none⟩) ((pRem l (vals pre)).length + 1) c') (pRem l (vals pre) ++ [q % r]) :=
    World.ownsRow.kept o3 (grownBy_setCell' _ b0 _) (.inr (by simp [Value.ownBlock]; omega))
  have hblk : ∀ k, k < W.heap.size → k ≠ b0 → k ≠ b0 + 1 → v.ownBlock ≠ some k → ((w2.setCell ⟨b0 + 1, 0, none⟩ (.slice (some ⟨g', 0, none⟩) ((pRem l (vals pre)).length + 1) c')).setCell ⟨b0, 0, none⟩ (.int .i64 (q / r))).heap[k]? = W.heap[k]? := by
    intro k hk h1 h2 h3
    rw [Below.heap_setCell _ _ _ k h1, Below.heap_setCell _ _ _ k h2, hgr.block k (by show k < (W.alloc o).heap.size; simp; omega) (fun e => h3 e.symm)]
    exact Below.heap_alloc W o k hk
  have hsz2 : W.heap.size ≤ ((w2.setCell ⟨b0 + 1, 0, none⟩ (.slice (some ⟨g', 0, none⟩) ((pRem l (vals pre)).length + 1) c')).setCell ⟨b0, 0, none⟩ (.int .i64 (q / r))).heap.size := by
    have := hgr.size
    simp [World.setCell] at *
    omega
  refine ⟨⟨k1, k2⟩, ⟨hsz2, ?_⟩, ⟨hsz2, fun k h1 h2 => hblk k (by omega) (by omega) (by omega) (fun e => by have := hlt k e; omega)⟩, ?_, ⟨_, k5, ?_⟩, ?_, by omega⟩
  · intro k o' hk hko hc
    refine (hblk k (Array.getElem?_eq_some_iff.1 hko).1 (by omega) (by omega) (fun e => ?_)).trans hko
    rcases World.ownsRow.lt hown k e with ⟨_, _⟩
    rcases hown.2 with ⟨rfl, _⟩ | ⟨gg, cap, cur, rfl, _, hgg, _⟩
    · simp [Value.ownBlock] at e
    · simp only [Value.ownBlock, Option.some.injEq] at e
      subst e
      rw [hgg] at hko
      cases hko
      simp [Obj.isCells] at hc
  · rw [vals_snoc, pDiv_snoc, hq, hr]; exact k4
  · rw [vals_snoc, pRem_snoc, hq, hr]; exact o4
  · refine hB.trans ⟨?_, ?_, ?_, hsz2, fun k hk => hblk k (by have := hB.size; omega) (by omega) (by omega) (fun e => by have := hlt k e; omega)⟩
    · exact hgr.os
    · exact hgr.tape
    · exact hgr.output
end Go.Proofs.Ytomnaabadohecaa
namespace Go.Proofs.Ytomnaabadohecaa
open Go.RowKit
/-- the parts of a label -/
def partsL (s l : Int) : List Int := pDiv l (rangesL s).reverse :: (pRem l (rangesL s).reverse).reverse
end Go.Proofs.Ytomnaabadohecaa
namespace Go.Proofs.Ytomnaabadohecaa
open Go.RowKit
/-- the reference's test of distances -/
def forS (own : Int) (xs : List Int) : Bool := (xs.all fun x => x == own - 1 || x == own + 1) && ((own == 0 && (xs.countP (fun x => x == own - 1) == 0)) || (decide (0 < own) && (xs.countP (fun x => x == own - 1) == 1)))
/-- the program's test of distances -/
def forI (own : Int) (xs : List Int) : Bool := if own = 0 then xs.countP (fun x => x == own + 1) == xs.length else (xs.countP (fun x => x == own - 1) == 1) && (((xs.countP (fun x => x == own + 1) : Nat) : Int) == (xs.length : Int) - 1)
theorem for_eq {own : Int} {xs : List Int} (h0 : 0 ≤ own) : forI own xs = forS own xs := by
  have hs := count_sum (p := fun x => x == own - 1) (q := fun x => x == own + 1) (xs := xs) (fun x _ hp => by
    simp only [beq_iff_eq] at hp
    simp; omega)
  unfold forI forS
  generalize xs.countP (fun x => x == own - 1) = a at *
  generalize xs.countP (fun x => x == own + 1) = b at *
  rw [Bool.eq_iff_iff]
  by_cases h : own = 0
  · rw [if_pos h]
    simp only [Bool.and_eq_true, decide_eq_true_eq, beq_iff_eq, Bool.or_eq_true, List.all_eq_true] at *
    rw [← hs.2]
    omega
  · rw [if_neg h]
    simp only [Bool.and_eq_true, decide_eq_true_eq, beq_iff_eq, Bool.or_eq_true, List.all_eq_true] at *
    rw [← hs.2]
    omega
end Go.Proofs.Ytomnaabadohecaa
namespace Go.Proofs.Ytomnaabadohecaa
open Go.RowKit
theorem partsL4 (l : Int) : partsL 4 l = [l / 100, l % 100] := by simp [partsL, rangesL, pDiv, pRem]
theorem partsL5 (l : Int) : partsL 5 l = [l / 2 / 10 / 100, l / 2 / 10 % 100, l / 2 % 10, l % 2] := by simp [partsL, rangesL, pDiv, pRem]
theorem ints2 {w : World} {v : Value} {a b : Int} (h : IntS w v [a, b]) : ∃ g off c, v = .slice (some ⟨g, off, none⟩) 2 c ∧ (∀ W, Since w W → W.cell? ⟨g, off, none⟩ = some (.int .i64 a)) ∧ (∀ W, Since w W → W.cell? ⟨g, off + 1, none⟩ = some (.int .i64 b)) := by
  obtain ⟨A, c, rfl, _, _, hA⟩ := h
  obtain ⟨g, off, rfl, h0⟩ := hA 0 a rfl
  obtain ⟨g', off', e, h1⟩ := hA 1 b rfl
  cases e
  exact ⟨g, off, c, rfl, have_cell (by simpa using h0), have_cell h1⟩
theorem ints4 {w : World} {v : Value} {a b d e : Int} (h : IntS w v [a, b, d, e]) : ∃ g off c, v = .slice (some ⟨g, off, none⟩) 4 c ∧ (∀ W, Since w W → W.cell? ⟨g, off, none⟩ = some (.int .i64 a)) ∧ (∀ W, Since w W → W.cell? ⟨g, off + 1, none⟩ = some (.int .i64 b)) ∧ (∀ W, Since w W → W.cell? ⟨g, off + 2, none⟩ = some (.int .i64 d)) ∧ (∀ W, Since w W → W.cell? ⟨g, off + 3, none⟩ = some (.int .i64 e)) := by
  obtain ⟨A, c, rfl, _, _, hA⟩ := h
  obtain ⟨g, off, rfl, h0⟩ := hA 0 a rfl
  obtain ⟨g', off', e1, h1⟩ := hA 1 b rfl
  cases e1
  obtain ⟨g', off', e1, h2⟩ := hA 2 d rfl
  cases e1
  obtain ⟨g', off', e1, h3⟩ := hA 3 e rfl
  cases e1
  exact ⟨g, off, c, rfl, have_cell (by simpa using h0), have_cell h1, have_cell h2, have_cell h3⟩
theorem range_any_succ {k : Nat} {p : Nat → Bool} : (List.range (k + 1)).any p = ((List.range k).any p || p k) := by rw [List.range_succ, List.any_append]; simp
def lab (ls : List Int) (e : Int × Int) : Int := ls.getD e.1.toNat 0
/-- a node accepts a proof of a leader -/
def leadB (idk ink : Int) (ls : List Int) (l : Int) (es : List (Int × Int)) : Bool :=
  ((List.range es.length).all fun i => lab ls (es.getD i (0, 0)) / 100 == l / 100) && ((l % 100 == 0 && idk == l / 100 && ink == 1) || (decide (0 < l % 100) && ink != 1 && (List.range es.length).any fun i => lab ls (es.getD i (0, 0)) % 100 == l % 100 - 1))
end Go.Proofs.Ytomnaabadohecaa
namespace Go.Proofs.Ytomnaabadohecaa
open Go.RowKit
end Go.Proofs.Ytomnaabadohecaa
namespace Go.Proofs.Ytomnaabadohecaa
open Go.RowKit
def ev0 (x : Int) : Int := x / 2 / 10 / 100
def ev1 (x : Int) : Int := x / 2 / 10 % 100
def ev2 (x : Int) : Int := x / 2 % 10
def ev3 (x : Int) : Int := x % 2
theorem partsE (l : Int) : partsL 5 l = [ev0 l, ev1 l, ev2 l, ev3 l] := partsL5 l
theorem ev1_bd (x : Int) : 0 ≤ ev1 x ∧ ev1 x < 100 := by unfold ev1; omega
theorem ev3_bd (x : Int) : 0 ≤ ev3 x ∧ ev3 x ≤ 1 := by unfold ev3; omega
def evHit (l : Int) (e : Int × Int) (y : Int) : Bool := e.2 == ev2 y && ev1 y == ev1 l + 1
def evSum (ls : List Int) (l : Int) (es : List (Int × Int)) : Nat → Int
  | 0 => 1
  | j + 1 => evSum ls l es j + if evHit l (es.getD j (0, 0)) (lab ls (es.getD j (0, 0))) then ev3 (lab ls (es.getD j (0, 0))) else 0
theorem evSum_bd (ls : List Int) (l : Int) (es : List (Int × Int)) (j : Nat) : 1 ≤ evSum ls l es j ∧ evSum ls l es j ≤ 1 + j := by
  induction j with
  | zero => simp [evSum]
  | succ j ih =>
    have := ev3_bd (lab ls (es.getD j (0, 0)))
    unfold evSum
    split <;> omega
def evAny (ls : List Int) (l : Int) (es : List (Int × Int)) (j : Nat) : Bool := (List.range j).any fun i => ((i : Int) == ev2 l) && (ev1 (lab ls (es.getD i (0, 0))) == ev1 l - 1)
def evAll (ls : List Int) (l : Int) (es : List (Int × Int)) (j : Nat) : Bool := (List.range j).all fun i => ev0 (lab ls (es.getD i (0, 0))) == ev0 l
/-- a node accepts a proof of an even number -/
def evenB (idk : Int) (ls : List Int) (l : Int) (es : List (Int × Int)) : Bool :=
  evAll ls l es es.length && (ev3 l == evSum ls l es es.length % 2) && ((ev1 l == 0 && ev2 l == 9 && idk == ev0 l && ev3 l == 0) || (decide (0 < ev1 l) && evAny ls l es es.length))
theorem labEnd {ls : List Int} {es : List (Int × Int)} {j : Nat} {x : Int × Int} {y : Int} (hx : es[j]? = some x) (hy : ls.getD x.1.toNat 0 = y) : lab ls (es.getD j (0, 0)) = y ∧ (es.getD j (0, 0)).2 = x.2 := by rw [getD_of hx]; exact ⟨hy, rfl⟩
theorem hitEq {ls : List Int} {es : List (Int × Int)} {j : Nat} {l x y : Int} {b : Bool} (h : lab ls (es.getD j (0, 0)) = y ∧ (es.getD j (0, 0)).2 = x) (f : (x == ev2 y && ev1 y == ev1 l + 1) = b) : evHit l (es.getD j (0, 0)) (lab ls (es.getD j (0, 0))) = b := by
  unfold evHit; rw [h.1, h.2]; exact f
end Go.Proofs.Ytomnaabadohecaa
namespace Go.Proofs.Ytomnaabadohecaa
open Go.RowKit
end Go.Proofs.Ytomnaabadohecaa
namespace Go.Proofs.Ytomnaabadohecaa
open Go.RowKit
set_option maxHeartbeats 2000000 in
theorem indexI_any (v : Value) (xs : List Int) (x : Int) (w : World) (h : IntS w v xs) :
    Calls Try.prog 63 #[v, .int .i64 x] w fun e w' => ∃ i : Int, e = .returned (.int .i64 i) ∧ decide (0 ≤ i) = hasB xs x ∧ w = w' := by
  obtain ⟨A, c, rfl, hlc, hm, hA⟩ := h
  unfold maxLen at hm
  have HA := Lib.hid hA
  clear hA
  go_enter Try.func63, Try.ntmps63
  go_wp2
  go_loop [8] (fun i => ∃ k : Nat, k ≤ xs.length ∧ i = .int .i64 k ∧ x ∉ xs.take k) (fun i => xs.length - (intOf i).toNat)
  case atStart => exact ⟨0, Nat.zero_le _, rfl, by simp⟩
  case round =>
    obtain ⟨k, hk, rfl, hno⟩ := hrel
    have Hno := Lib.hid hno
    clear hno
    by_cases hlt : k < xs.length
    · obtain ⟨y, hy⟩ := getx xs k hlt
      obtain ⟨b, off, rfl, hcell⟩ := HA.out k y hy
      have Hy := Lib.hid hy
      clear hy
      cases hxy : (x == y)
      · have Hxy := Lib.hid hxy
        go_wp2
        go_round
        case rel =>
          refine ⟨k + 1, by omega, by go_num, ?_⟩
          rw [take_snoc Hy.out]
          simp only [List.mem_append, List.mem_singleton, not_or]
          exact ⟨Hno.out, by simpa using Hxy.out⟩
        case measure => simp [intOf]; omega
      · have Hxy := Lib.hid hxy
        go_wp2
        go_ret
        refine ⟨_, rfl, ?_, rfl⟩
        have e : x = y := by simpa using Hxy.out
        rw [e]
        unfold hasB
        simp [List.mem_of_getElem? Hy.out]
    · go_wp2
      go_ret
      refine ⟨_, rfl, ?_, rfl⟩
      have := Hno.out
      rw [take_all xs hlt] at this
      unfold hasB
      simpa using this
theorem containsI_any (v : Value) (xs : List Int) (x : Int) (w : World) (h : IntS w v xs) :
    Calls Try.prog 44 #[v, .int .i64 x] w fun e w' => e = .returned (.bool (hasB xs x)) ∧ w = w' := by
  have H := Lib.hid h
  obtain ⟨A, c, rfl, hlc, hm, hA⟩ := h
  clear hA
  go_enter Try.func44, Try.ntmps44
  go_wp2_with fail
  refine (indexI_any _ xs x _ H.out).mono ?_
  rintro e w1 ⟨i, rfl, hi, rfl⟩
  have Hi := Lib.hid hi
  clear hi
  go_wp2
  go_ret
  exact ⟨ret_bool Hi.out, rfl⟩
/-- a node accepts -/
def accB (n : Net) (s : Int) (ls : List Int) (l idk ink : Int) (es : List (Int × Int)) : Bool :=
  if s = 1 then decide (l ≤ 1) && !((nearB ls es).any fun x => x != 1 - l)
  else if s = 2 then decide (l ≤ 2) && !hasB (nearB ls es) l
  else if s = 3 then forI l (nearB ls es)
  else if s = 4 then decide (n.ids.length ≠ 0) && leadB idk ink ls l es
  else decide (n.ids.length ≠ 0) && evenB idk ls l es
end Go.Proofs.Ytomnaabadohecaa
namespace Go.Proofs.Ytomnaabadohecaa
open Go.RowKit
theorem all_near (l : Int) (xs : List Int) : xs.all (inB (1 - l) (1 - l)) = !(xs.any fun x => x != 1 - l) := by
  rw [List.not_any_eq_all_not]
  congr 1
  funext x
  rw [Bool.eq_iff_iff, inB_iff]
  simp
  omega
theorem near_map (ls : List Int) (es : List (Int × Int)) : ((es.map (·.1)).map fun x => ls.getD x.toNat 0) = nearB ls es := by simp [nearB]
def allB' (ls : List Int) (lo hi : Int) : Bool := ls.all (inB lo hi)
theorem l1All_b' (v : Value) (xs : List Int) (lo hi : Int) (w : World) (h : IntS w v xs) :
    Calls Try.prog 28 #[v, .int .i64 lo, .int .i64 hi] w fun e w' => e = .returned (.bool (allB' xs lo hi)) ∧ w = w' := l1All_any v xs lo hi w h
theorem allWithin_b' (v : Value) (xs : List Int) (lo hi : Int) (w : World) (h : IntS w v xs) :
    Calls Try.prog 60 #[v, .int .i64 lo, .int .i64 hi] w fun e w' => e = .returned (.bool (allB' xs lo hi)) ∧ Below w.heap.size w w' := allWithin_any v xs lo hi w h
/-- a network, a scheme, labels -/
def labOk (n : Net) (s : Int) (ls : List Int) : Bool := netOk n && inB 1 5 s && ((ls.length : Int) == (n.ends.length : Int)) && allB' ls 0 999999999999
end Go.Proofs.Ytomnaabadohecaa
namespace Go.Proofs.Ytomnaabadohecaa
open Go.RowKit
def accAt (n : Net) (s : Int) (ls : List Int) (k : Nat) : Bool := accB n s ls (ls.getD k 0) (n.ids.getD k 0) (n.inputs.getD k 0) (n.ends.getD k [])
/-- what a node of good labels has -/
theorem acc_at {n : Net} {s : Int} {ls : List Int} (h : labOk n s ls = true) {k : Nat} (hk : k < n.ends.length) :
    ∃ es l idk ink, 1 ≤ s ∧ s ≤ 5 ∧ n.ends[k]? = some es ∧ es.length ≤ 6 ∧ (∀ e ∈ es, 0 ≤ e.1 ∧ e.1 < ls.length) ∧ (∀ x ∈ l :: nearB ls es, 0 ≤ x ∧ x ≤ 999999999999) ∧ ls[k]? = some l ∧ (n.ids.length ≠ 0 → n.ids[k]? = some idk) ∧ n.inputs[k]? = some ink ∧ accAt n s ls k = accB n s ls l idk ink es := by
  unfold labOk at h
  simp only [Bool.and_eq_true, beq_iff_eq] at h
  obtain ⟨⟨⟨h1, h2⟩, h3⟩, h4⟩ := h
  have hs := inB_iff.1 h2
  have hl : ls.length = n.ends.length := by omega
  obtain ⟨es, hes⟩ := getx n.ends k hk
  obtain ⟨l, hl'⟩ := getx ls k (by omega)
  obtain ⟨r1, r2⟩ := netOk_row h1 hes
  unfold allB' at h4
  rw [List.all_eq_true] at h4
  have ha : ∀ x ∈ ls, 0 ≤ x ∧ x ≤ 999999999999 := fun x hx => inB_iff.1 (h4 x hx)
  unfold netOk at h1
  simp only [Bool.and_eq_true] at h1
  obtain ⟨⟨⟨-, i1⟩, i2⟩, -⟩ := h1
  unfold inputsB at i2
  simp only [Bool.and_eq_true, beq_iff_eq] at i2
  obtain ⟨ink, hink⟩ := getx n.inputs k (by omega)
  have hids : n.ids.length ≠ 0 → n.ids[k]? = some (n.ids.getD k 0) := fun h0 => by
    unfold idsB at i1
    simp only [Bool.or_eq_true, Bool.and_eq_true, beq_iff_eq] at i1
    have : n.ids.length = n.ends.length := by
      rcases i1 with e | ⟨e, -⟩
      · exact absurd (by simpa using e) h0
      · omega
    have hk' : k < n.ids.length := by omega
    rw [List.getD_eq_getElem?_getD, List.getElem?_eq_getElem hk']; rfl
  exact ⟨es, l, _, ink, hs.1, hs.2, hes, r1, fun e he => by rw [hl]; exact r2 e he, fun x hx => ha x (seen_in hl' (fun e he => by rw [hl]; exact r2 e he) hx), hl', hids, hink, by simp [accAt, hes, hl', hink]⟩
theorem labOk_net {n : Net} {s : Int} {ls : List Int} (h : labOk n s ls = true) : netOk n = true ∧ ls.length = n.ends.length ∧ n.ends.length ≤ 40 := by
  unfold labOk at h
  simp only [Bool.and_eq_true, beq_iff_eq] at h
  exact ⟨h.1.1.1, by have := h.1.2; omega, (netOk_len h.1.1.1).2⟩
def fnExactVerifyAt_r1 (n : Net) (s : Int) (ls : List Int) (v : Int) : Bool := labOk n s ls && inB 0 ((n.ends.length : Int) - 1) v
def fnExactVerifyAt_r0 (n : Net) (s : Int) (ls : List Int) (v : Int) : Bool := fnExactVerifyAt_r1 n s ls v && accAt n s ls v.toNat
def nodeB (ess : List (List (Int × Int))) (v : Int) : Bool := inB 0 ((ess.length : Int) - 1) v
theorem hasNode_b (ve vi vn : Value) (ess : List (List (Int × Int))) (v : Int) (w : World) (h : EndSS w ve ess) :
    Calls Try.prog 61 #[.agg #[ve, vi, vn], .int .i64 v] w fun e w' => e = .returned (.bool (nodeB ess v)) ∧ Below w.heap.size w w' := hasNode_any ve vi vn ess v w h
theorem tup2 {a b c d : Bool} (h1 : a = b) (h2 : c = d) : Ending.returned (.tuple #[.bool a, .bool c]) = .returned (.tuple #[.bool b, .bool d]) := by rw [h1, h2]
end Go.Proofs.Ytomnaabadohecaa
namespace Go.Proofs.Ytomnaabadohecaa
open Go.RowKit
/-! the reference's search -/
/-- what a node of a good network has -/
theorem node_at {n : Net} (h : netOk n = true) {k : Nat} (hk : k < n.ends.length) :
    n.ends[k]? = some (n.ends.getD k []) ∧ (n.ends.getD k []).length ≤ 6 ∧ (∀ e ∈ n.ends.getD k [], 0 ≤ e.1 ∧ e.1 < n.ends.length) ∧ (n.ids.length ≠ 0 → n.ids[k]? = some (n.ids.getD k 0)) ∧ n.inputs[k]? = some (n.inputs.getD k 0) := by
  obtain ⟨es, hes⟩ := getx n.ends k hk
  have e : n.ends.getD k [] = es := by simp [List.getD_eq_getElem?_getD, hes]
  obtain ⟨r1, r2⟩ := netOk_row h hes
  unfold netOk at h
  simp only [Bool.and_eq_true] at h
  obtain ⟨⟨⟨-, i1⟩, i2⟩, -⟩ := h
  unfold inputsB at i2
  simp only [Bool.and_eq_true, beq_iff_eq] at i2
  obtain ⟨ink, hink⟩ := getx n.inputs k (by omega)
  have hids : n.ids.length ≠ 0 → n.ids[k]? = some (n.ids.getD k 0) := fun h0 => by
    unfold idsB at i1
    simp only [Bool.or_eq_true, Bool.and_eq_true, beq_iff_eq] at i1
    have : n.ids.length = n.ends.length := by
      rcases i1 with e | ⟨e, -⟩
      · exact absurd (by simpa using e) h0
      · omega
    have hk' : k < n.ids.length := by omega
    rw [List.getD_eq_getElem?_getD, List.getElem?_eq_getElem hk']; rfl
  rw [e]
  exact ⟨hes, r1, r2, hids, by rw [hink]; simp [hink]⟩
/-- the kinds of searches -/
def KindOk (s m most : Int) : Prop := (s = 0 ∧ 3 ≤ m ∧ m ≤ 40 ∧ most = m - 1) ∨ (1 ≤ s ∧ s ≤ 5 ∧ 0 ≤ most ∧ most ≤ 999999999999)
theorem KindOk.most {s m most : Int} (h : KindOk s m most) : 0 ≤ most ∧ most ≤ 999999999999 := by unfold KindOk at h; omega
def accG (n : Net) (s m : Int) (ls : List Int) (k : Nat) : Bool := if s = 0 then modS m (ls.getD k 0) (nearB ls (n.ends.getD k [])) else accAt n s ls k
section
variable {W W' : World} {B : Nat} {ve vi vn vl : Value} {s m most lim st : Int}
end
end Go.Proofs.Ytomnaabadohecaa
namespace Go.Proofs.Ytomnaabadohecaa
open Go.RowKit
theorem all_take_snoc {p : Int → Bool} {xs : List Int} {j : Nat} {x : Int} (hx : xs[j]? = some x) (h : (xs.take j).all p = true) (hp : p x = true) : (xs.take (j + 1)).all p = true := by
  rw [take_snoc hx, List.all_append, h]
  simp [hp]
theorem viewG_len (n : Net) (v : Nat) : (viewG n v).length = ((n.ends.getD v []).map fun e => e.1).length + 1 := by simp [viewG]
end Go.Proofs.Ytomnaabadohecaa
namespace Go.Proofs.Ytomnaabadohecaa
open Go.RowKit
/-- the search of the reference, as a whole -/
def srchR (n : Net) (s m most lim : Int) : List Int × Int × Int := srch (goodG n (accG n s m)) most lim (leftM lim 0 n.ends.length 0) (List.replicate n.ends.length (-1)) 0 0
theorem own_other {W : World} {base b k : Nat} {u : Value} {xs : List Int} (h : Own W base u xs) (hd : u.ownBlock ≠ some b) (v : Value) : Own (W.setCell ⟨b, k, none⟩ v) base u xs :=
  ownsRow_stable h fun j hj => Below.heap_setCell W _ v j (fun e => hd (by simp at hj; rw [hj, e]))
theorem getD_some {ls : List Int} {v : Nat} (h : v < ls.length) : ls[v]? = some (ls.getD v 0) := by rw [List.getD_eq_getElem?_getD, List.getElem?_eq_getElem h]; rfl
end Go.Proofs.Ytomnaabadohecaa
