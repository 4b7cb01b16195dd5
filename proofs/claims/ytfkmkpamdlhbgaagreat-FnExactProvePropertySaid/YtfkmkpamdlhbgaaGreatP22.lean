/- Parts of the proof: walks of functions and plain laws. -/
import Derived.Test.YtfkmkpamdlhbgaaGreatP21
namespace Go.Proofs.YtfkmkpamdlhbgaaGreat
open Go.RowKit
/-! symMerge: two rows of two elements or more -/
theorem sym_w {a m b mid n N : Nat} (hmid : mid = (a + b) / 2) (hn : n = mid + m) (hbN : b ≤ N) (hl : N ≤ 1000000) (ham : a < m) (hmb : m < b) :
    IntKind.i64.wrap ((a : Int) + (b : Int)) = ((a + b : Nat) : Int) ∧ IntKind.u64.wrap ((a + b : Nat) : Int) = ((a + b : Nat) : Int) ∧ wrap64 (((a + b : Nat) : Int) / 2) = (mid : Int) ∧ IntKind.i64.wrap ((mid : Int) + (m : Int)) = (n : Int) ∧ IntKind.i64.wrap ((n : Int) - 1) = ((n - 1 : Nat) : Int) ∧ 0 < n ∧ n ≤ 2000000 := by
  refine ⟨?_, u64_val _ (by omega), ?_, ?_, ?_, by omega, by omega⟩
  · rw [wr64 _ (by omega) (by omega)]; omega
  · rw [hmid]; exact mid_val (a + b) (by omega)
  · rw [wr64 _ (by omega) (by omega)]; omega
  · rw [wr64 _ (by omega) (by omega)]; omega
theorem sym_w2 {s r : Nat} (h1 : s ≤ 1000000) (h2 : r ≤ 1000000) : IntKind.i64.wrap ((s : Int) + (r : Int)) = ((s + r : Nat) : Int) ∧ IntKind.u64.wrap ((s + r : Nat) : Int) = ((s + r : Nat) : Int) ∧ wrap64 (((s + r : Nat) : Int) / 2) = (((s + r) / 2 : Nat) : Int) := by
  refine ⟨?_, u64_val _ (by omega), mid_val (s + r) (by omega)⟩
  rw [wr64 _ (by omega) (by omega)]; omega
theorem sub_w {p q : Nat} (h : q ≤ p) (h2 : p ≤ 2000000) : IntKind.i64.wrap ((p : Int) - (q : Int)) = ((p - q : Nat) : Int) := by rw [wr64 _ (by omega) (by omega)]; omega
theorem add1_w {p : Nat} (h2 : p ≤ 2000000) : IntKind.i64.wrap ((p : Int) + 1) = ((p + 1 : Nat) : Int) := by rw [wr64 _ (by omega) (by omega)]; omega
theorem sym_ex (a m b mid n : Nat) : ∃ s0 r0, (mid < m ∧ s0 = n - b ∧ r0 = mid) ∨ (m ≤ mid ∧ s0 = a ∧ r0 = m) := by
  rcases Nat.lt_or_ge mid m with h | h
  · exact ⟨_, _, .inl ⟨h, rfl, rfl⟩⟩
  · exact ⟨_, _, .inr ⟨h, rfl, rfl⟩⟩
/-- what the walk of the middle needs to know of the indices -/
structure SymI (A U V B xs : List Int) (a m b mid n s0 r0 N : Nat) : Prop where
  bd : SymB a m b mid n s0 r0
  hul : U.length = m - a
  hvl : V.length = b - m
  hal : A.length = a
  hxs : xs = A ++ (U ++ (V ++ B))
  hlen : xs.length = N
  hbn : b ≤ N
  hbig : N ≤ 1000000
theorem SymI.get {A U V B xs : List Int} {a m b mid n s0 r0 N : Nat} (h : SymI A U V B xs a m b mid n s0 r0 N) {c : Nat} (h1 : s0 ≤ c) (h2 : c < r0) :
    xs.getD c 0 = U.getD (c - a) 0 ∧ xs.getD (n - 1 - c) 0 = V.getD (n - 1 - c - m) 0 ∧ c - a < U.length ∧ n - 1 - c - m < V.length ∧ c < N ∧ n - 1 - c < N ∧ c ≤ n - 1 ∧ c < r0 ∧ c + 1 ≤ 1000000 := by
  obtain ⟨hb, h3, h4, h5, h6, h7, h8, h9⟩ := h
  obtain ⟨e1, e2, e3, e4, e5⟩ := hb.at_ h1 h2
  have hk1 : c = A.length + (c - a) := by omega
  have hk2 : n - 1 - c = A.length + U.length + (n - 1 - c - m) := by omega
  refine ⟨?_, ?_, by omega, by omega, by omega, by omega, by omega, h2, by omega⟩
  · rw [h6]
    exact (congrArg (fun k => List.getD _ k 0) hk1).trans (get_u (by omega))
  · rw [h6]
    exact (congrArg (fun k => List.getD _ k 0) hk2).trans (get_v (by omega))
/-- one round of the search -/
structure SymR (U V xs : List Int) (a m n pn i j N s c q c1 : Nat) : Prop where
  lo : i ≤ c
  hi : c < j
  up : i ≤ c1
  up2 : c1 ≤ j
  w1 : IntKind.i64.wrap ((i : Int) + (j : Int)) = (s : Int)
  w2 : IntKind.u64.wrap (s : Int) = (s : Int)
  w3 : wrap64 ((s : Int) / 2) = (c : Int)
  w4 : IntKind.i64.wrap ((pn : Int) - (c : Int)) = (q : Int)
  w5 : IntKind.i64.wrap ((c : Int) + 1) = (c1 : Int)
  g1 : xs.getD c 0 = U.getD (c - a) 0
  g2 : xs.getD q 0 = V.getD (q - m) 0
  u : c - a < U.length
  v : q - m < V.length
  cn : c < N
  qn : q < N
  k1 : c1 - 1 - a = c - a
  k2 : n - c1 - m = q - m
  k3 : n - 1 - c - m = q - m
  mu1 : j - c1 < j - i
  mu2 : c - i < j - i
theorem SymI.round {A U V B xs : List Int} {a m b mid n s0 r0 N pn i j : Nat} (h : SymI A U V B xs a m b mid n s0 r0 N) (hpn : pn = n - 1) (hi : s0 ≤ i) (hlt : i < j) (hj : j ≤ r0) : ∃ s c q c1, SymR U V xs a m n pn i j N s c q c1 := by
  obtain ⟨c, hc⟩ : ∃ z, z = (i + j) / 2 := ⟨_, rfl⟩
  have hhi : i ≤ c ∧ c < j := by rw [hc]; exact mid_bd hlt
  obtain ⟨g1, g2, g3, g4, g5, g6, g7, g8, g9⟩ := h.get (c := c) (Nat.le_trans hi hhi.1) (Nat.lt_of_lt_of_le hhi.2 hj)
  have hn2 : n ≤ 2000000 := by
    have h1 := h.bd.hn
    have h2 := h.bd.rng.2.2.2.2
    have h3 := h.hbn
    have h4 := h.hbig
    have h5 := h.bd.hmb
    omega
  have hr1 : r0 ≤ 1000000 := by
    have h2 := h.bd.rng.2.2.1
    have h3 := h.hbn
    have h4 := h.hbig
    have h5 := h.bd.hmb
    omega
  have a1 : i ≤ c + 1 ∧ c + 1 ≤ j ∧ i ≤ 1000000 ∧ j ≤ 1000000 ∧ n - 1 ≤ 2000000 ∧ c ≤ 2000000 := by omega
  have a2 : c + 1 - 1 - a = c - a ∧ n - (c + 1) - m = n - 1 - c - m ∧ j - (c + 1) < j - i ∧ c - i < j - i := by omega
  have e := sym_w2 (s := i) (r := j) a1.2.2.1 a1.2.2.2.1
  rw [← hc] at e
  subst hpn
  exact ⟨i + j, c, n - 1 - c, c + 1, hhi.1, hhi.2, a1.1, a1.2.1, e.1, e.2.1, e.2.2, sub_w g7 a1.2.2.2.2.1, add1_w a1.2.2.2.2.2, g1, g2, g3, g4, g5, g6, a2.1, a2.2.1, rfl, a2.2.2.1, a2.2.2.2⟩
theorem SymI.sel {A U V B xs : List Int} {a m b mid n s0 r0 N : Nat} (h : SymI A U V B xs a m b mid n s0 r0 N) : (mid < m ∧ IntKind.i64.wrap ((n : Int) - (b : Int)) = (s0 : Int) ∧ r0 = mid) ∨ (¬ mid < m ∧ s0 = a ∧ r0 = m) := by
  obtain ⟨⟨h1, h2, h3, h4, h5⟩, -, -, -, -, -, h8, h9⟩ := h
  have h7 : n ≤ 2000000 := by omega
  rcases h5 with ⟨q1, q2, q3⟩ | ⟨q1, q2, q3⟩
  · have h6 : b ≤ n := by omega
    exact .inl ⟨q1, by rw [q2]; exact sub_w h6 h7, q3⟩
  · exact .inr ⟨Nat.not_lt.2 q1, q2, q3⟩
/-- the parts at the end of the search -/
structure SymF (A U V B xs : List Int) (a m b mid n s e N : Nat) (U1 U2 V1 V2 : List Int) : Prop where
  w : IntKind.i64.wrap ((n : Int) - (s : Int)) = (e : Int)
  l1 : a + U1.length = s
  l2 : s + U2.length = m
  l3 : m + V1.length = e
  l4 : e + V2.length = b
  l5 : s + V1.length = mid
  l6 : mid + U2.length = e
  xs : xs = A ++ (U1 ++ (U2 ++ (V1 ++ (V2 ++ B))))
  u : U = U1 ++ U2
  v : V = V1 ++ V2
theorem SymI.fin {A U V B xs : List Int} {a m b mid n s0 r0 N s : Nat} {K : Int → Int} (h : SymI A U V B xs a m b mid n s0 r0 N) (h1 : s0 ≤ s) (h2 : s ≤ r0) (hU : Srt K U) (hV : Srt K V)
    (hI : s = s0 ∨ K (U.getD (s - 1 - a) 0) ≤ K (V.getD (n - s - m) 0)) (hJ : s = r0 ∨ K (V.getD (n - 1 - s - m) 0) < K (U.getD (s - a) 0)) :
    ∃ e U1 U2 V1 V2, SymF A U V B xs a m b mid n s e N U1 U2 V1 V2 ∧ Par K U1 U2 V1 V2 ∧ Srt K U1 ∧ Srt K U2 ∧ Srt K V1 ∧ Srt K V2 := by
  have hp := sym_par h.bd hU hV h.hul h.hvl h1 h2 hI hJ
  have he := h.bd.end_ h1 h2
  have hr := h.bd.rng
  have hul := h.hul
  have hvl := h.hvl
  have hn2 : n ≤ 2000000 := by
    have h1 := h.bd.hn
    have h3 := h.hbn
    have h4 := h.hbig
    have h5 := h.bd.hmb
    omega
  have hx := h.hxs
  refine ⟨n - s, U.take (s - a), U.drop (s - a), V.take (n - s - m), V.drop (n - s - m), ⟨sub_w he.2.2.2.2.1 hn2, ?_, ?_, ?_, ?_, ?_, ?_, ?_, ?_, ?_⟩, hp, hU.sublist (List.take_sublist _ _), hU.sublist (List.drop_sublist _ _), hV.sublist (List.take_sublist _ _), hV.sublist (List.drop_sublist _ _)⟩
  · rw [List.length_take]; omega
  · rw [List.length_drop]; omega
  · rw [List.length_take]; omega
  · rw [List.length_drop]; omega
  · rw [List.length_take]; omega
  · rw [List.length_drop]; omega
  · rw [hx]
    have q1 := List.take_append_drop (s - a) U
    have q2 := List.take_append_drop (n - s - m) V
    conv => lhs; rw [← q1, ← q2]
    simp only [List.append_assoc]
  · exact (List.take_append_drop _ _).symm
  · exact (List.take_append_drop _ _).symm
theorem two_and {p q : Prop} [Decidable p] [Decidable q] : (p ∧ q) ∨ (p ∧ ¬ q) ∨ ¬ p := by
  by_cases hp : p
  · by_cases hq : q
    · exact .inl ⟨hp, hq⟩
    · exact .inr (.inl ⟨hp, hq⟩)
  · exact .inr (.inr hp)
set_option maxRecDepth 100000 in
set_option maxHeartbeats 1600000 in
theorem symMerge_gen (w0 : World) (base g c N F : Nat) (fid : FuncId) (caps : Array Value) (K : Int → Int) (D : Int → Prop) (hc : CmpOn w0 g fid caps K D) (hl : N ≤ 1000000)
    (ih : ∀ (A U V B xs : List Int) (a m b : Nat) (w : World), xs = A ++ (U ++ (V ++ B)) → Sd w0 w base g c xs → xs.length = N → A.length = a → a + U.length = m → m + V.length = b → 0 < U.length → 0 < V.length → Srt K U → Srt K V → (∀ x ∈ U ++ V, D x) → U.length + V.length ≤ F →
      Calls Tryz.prog 178 #[.slice (some ⟨g, 0, none⟩) N c, .int .i64 a, .int .i64 m, .int .i64 b, .func (.func fid) #[] caps] w fun e w' => e = .returned (.tuple #[]) ∧ ∃ W, Sd w0 w' base g c (A ++ (W ++ B)) ∧ W.Perm (U ++ V) ∧ Srt K W)
    (A U V B xs : List Int) (a m b : Nat) (w : World) (hx : xs = A ++ (U ++ (V ++ B))) (hs : Sd w0 w base g c xs) (hN : xs.length = N) (ha : A.length = a) (hm : a + U.length = m) (hb : m + V.length = b) (hU : 2 ≤ U.length) (hV : 2 ≤ V.length) (sU : Srt K U) (sV : Srt K V) (hD : ∀ x ∈ U ++ V, D x) (hF : U.length + V.length ≤ F + 1) :
    Calls Tryz.prog 178 #[.slice (some ⟨g, 0, none⟩) N c, .int .i64 a, .int .i64 m, .int .i64 b, .func (.func fid) #[] caps] w fun e w' => e = .returned (.tuple #[]) ∧ ∃ W, Sd w0 w' base g c (A ++ (W ++ B)) ∧ W.Perm (U ++ V) ∧ Srt K W := by
  have eg := hc.enter
  have Hih := Lib.hid ih
  have Hc := Lib.hid hc
  have Hs := Lib.hid hs
  have HsU := Lib.hid sU
  have HsV := Lib.hid sV
  have HD := Lib.hid hD
  have hbN : b ≤ N := by rw [← hN, hx]; simp only [List.length_append]; omega
  obtain ⟨mid, hmid⟩ : ∃ z, z = (a + b) / 2 := ⟨_, rfl⟩
  obtain ⟨n, hn⟩ : ∃ z, z = mid + m := ⟨_, rfl⟩
  obtain ⟨s0, r0, hsr⟩ := sym_ex a m b mid n
  have hI : SymI A U V B xs a m b mid n s0 r0 N := ⟨⟨hmid, hn, by omega, by omega, hsr⟩, by omega, by omega, ha, hx, hN, hbN, hl⟩
  have HF := Lib.hid hF
  have ham : a < m := by omega
  have hmb : m < b := by omega
  have m1 : IntKind.i64.wrap ((m : Int) - (a : Int)) = ((m - a : Nat) : Int) := sub_w (by omega) (by omega)
  have m2 : IntKind.i64.wrap ((b : Int) - (m : Int)) = ((b - m : Nat) : Int) := sub_w (by omega) (by omega)
  obtain ⟨ul, hul⟩ : ∃ z, z = m - a := ⟨_, rfl⟩
  obtain ⟨vl, hvl⟩ : ∃ z, z = b - m := ⟨_, rfl⟩
  rw [← hul] at m1
  rw [← hvl] at m2
  have t0b : ((ul : Int) == 1) = false := beq_eq_false_iff_ne.2 (by omega)
  have t1b : ((vl : Int) == 1) = false := beq_eq_false_iff_ne.2 (by omega)
  obtain ⟨d1, d3, d2, d4, d5, hn0, hn2⟩ := sym_w hmid hn hbN hl ham hmb
  obtain ⟨ab, hab⟩ : ∃ z, z = a + b := ⟨_, rfl⟩
  obtain ⟨pn, hpn⟩ : ∃ z, z = n - 1 := ⟨_, rfl⟩
  rw [← hab] at d1 d2 d3
  rw [← hpn] at d5
  have HI := Lib.hid hI
  have Hpn := Lib.hid hpn
  have hrng := hI.bd.rng
  have Hrng := Lib.hid hrng
  have hsel := hI.sel
  clear hs sU sV hD hsr hI hF hul hvl hab hpn hmid hn hrng ih hc hx hN ha hm hb hU hV
  go_enter Tryz.func178, Tryz.ntmps178
  go_upto_if 140 with (fail)
  go_cut [20, 21] from 141 to 146 (fun t20 t21 wx => t20 = .int .i64 s0 ∧ t21 = .int .i64 r0 ∧ wx = w)
  case first =>
    rcases hsel with ⟨q1, q2, rfl⟩ | ⟨q1, rfl, rfl⟩
    · have e0 : ((r0 : Int) < (m : Int)) = True := by simp; omega
      go_wp2
      go_meet
      case rel => exact ⟨rfl, by first | rfl | rw [d2], rfl⟩
    · have e0 : ((mid : Int) < (r0 : Int)) = False := by simp; omega
      go_wp2
      go_meet
      case rel => exact ⟨rfl, rfl, rfl⟩
  case rest =>
    obtain ⟨rfl, rfl, rfl⟩ := hcut
    clear hsel
    go_upto_region 33 with (fail)
    rw [d2]
    go_loopw [20, 21] (fun ti tj wr => ∃ (i j : Nat), ti = .int .i64 i ∧ tj = .int .i64 j ∧ s0 ≤ i ∧ i ≤ j ∧ j ≤ r0 ∧ (i = s0 ∨ K (U.getD (i - 1 - a) 0) ≤ K (V.getD (n - i - m) 0)) ∧ (j = r0 ∨ K (V.getD (n - 1 - j - m) 0) < K (U.getD (j - a) 0)) ∧ Sd w0 wr base g c xs) (fun ti tj _ => (intOf tj).toNat - (intOf ti).toNat)
    case atStart => exact ⟨s0, r0, rfl, rfl, Nat.le_refl _, Hrng.out.2.1, Nat.le_refl _, .inl rfl, .inl rfl, Hs.out⟩
    case round =>
      obtain ⟨i, j, rfl, rfl, hi, hij, hj, hI, hJ, hs⟩ := hrel
      have HI2 := Lib.hid hI
      have HJ := Lib.hid hJ
      have Hs2 := Lib.hid hs
      clear hI hJ hs
      by_cases hlt : i < j
      · obtain ⟨s, h, q, h1', hR⟩ := HI.out.round Hpn.out hi hlt hj
        have HR := Lib.hid hR
        obtain ⟨-, -, -, -, e1, e3, e2, e4, e5, g1, g2, g3, g4, g5, g6, -, -, -, -, -⟩ := hR
        have c1 := Hs2.out.keepCell (k := h) (by rw [HI.out.hlen]; exact g5)
        have c2 := Hs2.out.keepCell (k := q) (by rw [HI.out.hlen]; exact g6)
        rw [g1] at c1
        rw [g2] at c2
        obtain ⟨y, hy⟩ : ∃ z, z = U.getD (h - a) 0 := ⟨_, rfl⟩
        obtain ⟨x, hx⟩ : ∃ z, z = V.getD (q - m) 0 := ⟨_, rfl⟩
        have hyU : y ∈ U := by rw [hy]; exact getD_mem0 g3
        have hxV : x ∈ V := by rw [hx]; exact getD_mem0 g4
        rw [← hy] at c1
        rw [← hx] at c2
        have Hy := Lib.hid hy
        have Hx := Lib.hid hx
        have Hd := Lib.hid (And.intro (HD.out y (by simp [hyU])) (HD.out x (by simp [hxV])))
        clear hy hx hyU hxV g1 g2 g3 g4
        go_upto_region 35 with (fail)
        obtain ⟨wo, rfl⟩ : ∃ z, z = wr := ⟨_, rfl⟩
        refine wp_region_chain (w0 := wo) 12 [false, false, false, false, false, false, false, false, false, false, false, true] (by kernel_rfl) (by kernel_rfl) (since_refl _) ?_
        simp only [selF, selT, List.take_succ_cons, List.take_zero, List.drop_succ_cons, List.drop_zero]
        refine pflow_val (v := ?_) rfl ?_ ?_; rotate_left; (intro W hW; go_simp; with_reducible rfl)
        simp only [Act.put, List.setIfInBounds_toArray, List.set_cons_succ, List.set_cons_zero]
        refine pflow_val (v := ?_) rfl ?_ ?_; rotate_left; (intro W hW; go_simp; with_reducible rfl)
        simp only [Act.put, List.setIfInBounds_toArray, List.set_cons_succ, List.set_cons_zero]
        refine pflow_val (v := ?_) rfl ?_ ?_; rotate_left; (intro W hW; go_simp; with_reducible rfl)
        simp only [Act.put, List.setIfInBounds_toArray, List.set_cons_succ, List.set_cons_zero]
        refine pflow_val (v := ?_) rfl ?_ ?_; rotate_left; (intro W hW; go_simp; with_reducible rfl)
        simp only [Act.put, List.setIfInBounds_toArray, List.set_cons_succ, List.set_cons_zero]
        refine pflow_val (v := ?_) rfl ?_ ?_; rotate_left; (intro W hW; go_simp; with_reducible rfl)
        simp only [Act.put, List.setIfInBounds_toArray, List.set_cons_succ, List.set_cons_zero]
        refine pflow_val (v := ?_) rfl ?_ ?_; rotate_left; (intro W hW; go_simp; with_reducible rfl)
        simp only [Act.put, List.setIfInBounds_toArray, List.set_cons_succ, List.set_cons_zero]
        refine pflow_val (v := ?_) rfl ?_ ?_; rotate_left; (intro W hW; have k1 := c2 W hW; go_simp; with_reducible rfl)
        simp only [Act.put, List.setIfInBounds_toArray, List.set_cons_succ, List.set_cons_zero]
        refine pflow_val (v := ?_) rfl ?_ ?_; rotate_left; (intro W hW; go_simp; with_reducible rfl)
        simp only [Act.put, List.setIfInBounds_toArray, List.set_cons_succ, List.set_cons_zero]
        refine pflow_val (v := ?_) rfl ?_ ?_; rotate_left; (intro W hW; go_simp; with_reducible rfl)
        simp only [Act.put, List.setIfInBounds_toArray, List.set_cons_succ, List.set_cons_zero]
        refine pflow_val (v := ?_) rfl ?_ ?_; rotate_left; (intro W hW; go_simp; with_reducible rfl)
        simp only [Act.put, List.setIfInBounds_toArray, List.set_cons_succ, List.set_cons_zero]
        refine pflow_val (v := ?_) rfl ?_ ?_; rotate_left; (intro W hW; have k2 := c1 W hW; go_simp; with_reducible rfl)
        simp only [Act.put, List.setIfInBounds_toArray, List.set_cons_succ, List.set_cons_zero]
        intro W hW
        refine Or.inl ⟨rfl, ?_⟩
        go_simp
        (with_reducible refine (Hc.out.call x y Hd.out.2 Hd.out.1 W (Hs2.out.since hW).only).mono ?_)
        rintro e W' ⟨z, rfl, hz, hb⟩
        refine ⟨_, rfl, hW.after hb, ?_⟩
        replace hW := hW.after hb
        (try simp only [Act.put, List.setIfInBounds_toArray, List.set_cons_succ, List.set_cons_zero])
        simp only [TFlow]
        have Hs3 := Lib.hid (Hs2.out.since hW)
        clear hW hb c1 c2
        by_cases hlt2 : K x < K y
        · have hz2 : (z < 0) = True := by simp [hz.2 hlt2]
          have Hz := Lib.hid hz
          clear hz
          go_wp2
          go_roundw
          case rel => exact ⟨i, h, by first | rfl | go_num, by first | rfl | go_num, hi, HR.out.lo, Nat.le_trans (Nat.le_of_lt HR.out.hi) hj, HI2.out, .inr (by rw [← Hy.out, HR.out.k3, ← Hx.out]; exact hlt2), Hs3.out⟩
          case measure => exact HR.out.mu2
        · have hz2 : (z < 0) = False := eq_false (fun h9 => hlt2 (hz.1 h9))
          have Hz := Lib.hid hz
          clear hz
          go_wp2
          go_roundw
          case rel => exact ⟨h1', j, by first | rfl | go_num, by first | rfl | go_num, Nat.le_trans hi HR.out.up, HR.out.up2, hj, .inr (by rw [HR.out.k1, HR.out.k2, ← Hy.out, ← Hx.out]; exact Int.not_lt.1 hlt2), HJ.out, Hs3.out⟩
          case measure => exact HR.out.mu1
      · obtain rfl : i = j := Nat.le_antisymm hij (Nat.not_lt.1 hlt)
        obtain ⟨e, U1, U2, V1, V2, hF, hP, su1, su2, sv1, sv2⟩ := HI.out.fin hi hj HsU.out HsV.out HI2.out HJ.out
        have e6 := hF.w
        have HFF := Lib.hid hF
        have HP := Lib.hid hP
        have Hsu1 := Lib.hid su1
        have Hsu2 := Lib.hid su2
        have Hsv1 := Lib.hid sv1
        have Hsv2 := Lib.hid sv2
        clear hF hP su1 su2 sv1 sv2
        obtain ⟨wo, rfl⟩ : ∃ z, z = wr := ⟨_, rfl⟩
        go_upto_region 39 with (fail)
        obtain ⟨r1, hr1⟩ : ∃ z : Bool, z = (decide (i < m) && decide (m < e)) := ⟨_, rfl⟩
        have Hr1 := Lib.hid hr1
        clear hr1
        go_cut [185] from 178 to 185 (fun t wx => t = .bool r1 ∧ wx = wo)
        case first =>
          rcases two_and (p := i < m) (q := m < e) with ⟨b1, b2⟩ | ⟨b1, b2⟩ | b1
          · have e9 : r1 = true := by rw [Hr1.out]; simp [b1, b2]
            go_wp2
            go_meet
            case rel => exact ⟨by rw [e9], rfl⟩
          · have e9 : r1 = false := by rw [Hr1.out]; simp [b2]
            go_wp2
            go_meet
            case rel => exact ⟨by rw [e9], rfl⟩
          · have e9 : r1 = false := by rw [Hr1.out]; simp [b1]
            go_wp2
            go_meet
            case rel => exact ⟨by rw [e9], rfl⟩
        case rest =>
          obtain ⟨hc1, hc2⟩ := hcut
          subst hc1
          have hc3 := hc2.symm
          clear hc2
          subst hc3
          cases r1
          · have hr1 := Hr1.out
            have hy : Sd w0 wo base g c (A ++ (U1 ++ (V1 ++ (U2 ++ (V2 ++ B))))) := by
              have q0 := HFF.out
              have q1 : U2 = [] ∨ V1 = [] := by
                rcases two_and (p := i < m) (q := m < e) with ⟨b1, b2⟩ | ⟨b1, b2⟩ | b1
                · simp [b1, b2] at hr1
                · right; exact List.eq_nil_of_length_eq_zero (by have := q0.l3; omega)
                · left; exact List.eq_nil_of_length_eq_zero (by have := q0.l2; omega)
              have h9 := Hs2.out
              rw [q0.xs] at h9
              rcases q1 with q1 | q1
              · rw [q1] at h9 ⊢; simpa using h9
              · rw [q1] at h9 ⊢; simpa using h9
            have Hy := Lib.hid hy
            clear hy hr1
            obtain ⟨w2, rfl⟩ : ∃ z, z = wo := ⟨_, rfl⟩
            go_upto_region 41 with (fail)
            obtain ⟨r2, hr2⟩ : ∃ z : Bool, z = (decide (a < i) && decide (i < mid)) := ⟨_, rfl⟩
            have Hr2 := Lib.hid hr2
            clear hr2
            go_cut [199] from 192 to 199 (fun t wx => t = .bool r2 ∧ wx = w2)
            case first =>
              rcases two_and (p := a < i) (q := i < mid) with ⟨b1, b2⟩ | ⟨b1, b2⟩ | b1
              · have e9 : r2 = true := by rw [Hr2.out]; simp [b1, b2]
                go_wp2
                go_meet
                case rel => exact ⟨by rw [e9], rfl⟩
              · have e9 : r2 = false := by rw [Hr2.out]; simp [b2]
                go_wp2
                go_meet
                case rel => exact ⟨by rw [e9], rfl⟩
              · have e9 : r2 = false := by rw [Hr2.out]; simp [b1]
                go_wp2
                go_meet
                case rel => exact ⟨by rw [e9], rfl⟩
            case rest =>
              obtain ⟨hc1, hc2⟩ := hcut
              subst hc1
              have hc3 := hc2.symm
              clear hc2
              subst hc3
              cases r2
              · have hr2 := Hr2.out
                obtain ⟨W1, hz, hp1, hst1⟩ : ∃ W1, Sd w0 w2 base g c (A ++ (W1 ++ (U2 ++ (V2 ++ B)))) ∧ W1.Perm (U1 ++ V1) ∧ Srt K W1 := by
                  have q0 := HFF.out
                  have q1 : U1 = [] ∨ V1 = [] := by
                    rcases two_and (p := a < i) (q := i < mid) with ⟨b1, b2⟩ | ⟨b1, b2⟩ | b1
                    · simp [b1, b2] at hr2
                    · right; exact List.eq_nil_of_length_eq_zero (by have := q0.l5; omega)
                    · left; exact List.eq_nil_of_length_eq_zero (by have := q0.l1; omega)
                  refine ⟨U1 ++ V1, by have h9 := Hy.out; rw [List.append_assoc]; exact h9, List.Perm.refl _, ?_⟩
                  rcases q1 with q1 | q1
                  · rw [q1]; simpa using Hsv1.out
                  · rw [q1]; simpa using Hsu1.out
                have Hz := Lib.hid hz
                clear hz hr2 Hy
                obtain ⟨w3, rfl⟩ : ∃ z, z = w2 := ⟨_, rfl⟩
                go_upto_region 43 with (fail)
                obtain ⟨r3, hr3⟩ : ∃ z : Bool, z = (decide (mid < e) && decide (e < b)) := ⟨_, rfl⟩
                have Hr3 := Lib.hid hr3
                clear hr3
                go_cut [213] from 206 to 213 (fun t wx => t = .bool r3 ∧ wx = w3)
                case first =>
                  rcases two_and (p := mid < e) (q := e < b) with ⟨b1, b2⟩ | ⟨b1, b2⟩ | b1
                  · have e9 : r3 = true := by rw [Hr3.out]; simp [b1, b2]
                    go_wp2
                    go_meet
                    case rel => exact ⟨by rw [e9], rfl⟩
                  · have e9 : r3 = false := by rw [Hr3.out]; simp [b2]
                    go_wp2
                    go_meet
                    case rel => exact ⟨by rw [e9], rfl⟩
                  · have e9 : r3 = false := by rw [Hr3.out]; simp [b1]
                    go_wp2
                    go_meet
                    case rel => exact ⟨by rw [e9], rfl⟩
                case rest =>
                  obtain ⟨hc1, hc2⟩ := hcut
                  subst hc1
                  have hc3 := hc2.symm
                  clear hc2
                  subst hc3
                  cases r3
                  · have hr3 := Hr3.out
                    obtain ⟨W2, hW2, hp2, hst2⟩ : ∃ W2, Sd w0 w3 base g c (A ++ (W1 ++ (W2 ++ B))) ∧ W2.Perm (U2 ++ V2) ∧ Srt K W2 := by
                      have q0 := HFF.out
                      have q1 : U2 = [] ∨ V2 = [] := by
                        rcases two_and (p := mid < e) (q := e < b) with ⟨b1, b2⟩ | ⟨b1, b2⟩ | b1
                        · simp [b1, b2] at hr3
                        · right; exact List.eq_nil_of_length_eq_zero (by have := q0.l4; omega)
                        · left; exact List.eq_nil_of_length_eq_zero (by have := q0.l6; omega)
                      refine ⟨U2 ++ V2, by have h9 := Hz.out; rw [List.append_assoc]; exact h9, List.Perm.refl _, ?_⟩
                      rcases q1 with q1 | q1
                      · rw [q1]; simpa using Hsv2.out
                      · rw [q1]; simpa using Hsu2.out
                    have Hw2 := Lib.hid hW2
                    obtain ⟨pj1, pj2⟩ := par_join HP.out hp1 hp2 hst1 hst2
                    have Hpj := Lib.hid (And.intro pj1 pj2)
                    clear hW2 hp2 hst2 pj1 pj2 hr3
                    go_wp2
                    go_end0
                    refine ⟨rfl, W1 ++ W2, by have h9 := Hw2.out; rw [List.append_assoc]; exact h9, ?_, Hpj.out.1⟩
                    rw [HFF.out.u, HFF.out.v]; exact Hpj.out.2
                  · have hr3 := Hr3.out
                    have q2 : mid < e ∧ e < b := by
                      rcases two_and (p := mid < e) (q := e < b) with b1 | ⟨b1, b2⟩ | b1
                      · exact b1
                      · simp [b2] at hr3
                      · simp [b1] at hr3
                    clear hr3
                    have hW1l : W1.length = U1.length + V1.length := by rw [hp1.length_eq, List.length_append]
                    have HW1l := Lib.hid hW1l
                    clear hW1l
                    have Hq2 := Lib.hid q2
                    clear q2
                    go_wp2_with fail
                    refine (Hih.out (A ++ W1) U2 V2 B (A ++ (W1 ++ (U2 ++ (V2 ++ B)))) mid e b w3 (by rw [List.append_assoc]) Hz.out ?_ ?_ ?_ ?_ ?_ ?_ Hsu2.out Hsv2.out ?_ ?_).mono ?_
                    · have h8 := HI.out.hlen
                      have h9 := HW1l.out
                      rw [HFF.out.xs] at h8
                      simp only [List.length_append] at h8 ⊢
                      omega
                    · have h9 := HW1l.out
                      have h8 := HFF.out.l1
                      have h7 := HFF.out.l5
                      have h6 := HI.out.hal
                      rw [List.length_append]; omega
                    · exact HFF.out.l6
                    · exact HFF.out.l4
                    · have := HFF.out.l6; have := Hq2.out; omega
                    · have := HFF.out.l4; have := Hq2.out; omega
                    · intro x hx
                      refine HD.out x ?_
                      rw [HFF.out.u, HFF.out.v]
                      rcases List.mem_append.1 hx with h9 | h9 <;> simp [h9]
                    · have h1 := HF.out; have h2 := HFF.out; rw [h2.u, h2.v, List.length_append, List.length_append] at h1; have h3 := h2.l1; have h4 := h2.l5; have h5 := Hrng.out; omega
                    · rintro e4 w4 ⟨rfl, W2, hW2, hp2, hst2⟩
                      have Hw2 := Lib.hid hW2
                      obtain ⟨pj1, pj2⟩ := par_join HP.out hp1 hp2 hst1 hst2
                      have Hpj := Lib.hid (And.intro pj1 pj2)
                      clear hW2 hp2 hst2 pj1 pj2
                      go_wp2
                      go_end0
                      refine ⟨rfl, W1 ++ W2, by have h9 := Hw2.out; rw [List.append_assoc] at h9 ⊢; exact h9, ?_, Hpj.out.1⟩
                      rw [HFF.out.u, HFF.out.v]; exact Hpj.out.2
              · have hr2 := Hr2.out
                have q2 : a < i ∧ i < mid := by
                  rcases two_and (p := a < i) (q := i < mid) with b1 | ⟨b1, b2⟩ | b1
                  · exact b1
                  · simp [b2] at hr2
                  · simp [b1] at hr2
                have Hq2 := Lib.hid q2
                clear hr2 q2
                go_wp2_with fail
                refine (Hih.out A U1 V1 (U2 ++ (V2 ++ B)) (A ++ (U1 ++ (V1 ++ (U2 ++ (V2 ++ B))))) a i mid w2 rfl Hy.out ?_ HI.out.hal HFF.out.l1 HFF.out.l5 ?_ ?_ Hsu1.out Hsv1.out ?_ ?_).mono ?_
                · have h8 := HI.out.hlen
                  rw [HFF.out.xs] at h8
                  simp only [List.length_append] at h8 ⊢
                  omega
                · have := HFF.out.l1; have := Hq2.out; omega
                · have := HFF.out.l5; have := Hq2.out; omega
                · intro x hx
                  refine HD.out x ?_
                  rw [HFF.out.u, HFF.out.v]
                  rcases List.mem_append.1 hx with h9 | h9 <;> simp [h9]
                · have h1 := HF.out; have h2 := HFF.out; rw [h2.u, h2.v, List.length_append, List.length_append] at h1; have h3 := h2.l4; have h4 := h2.l6; have h5 := Hrng.out; omega
                · rintro e3 w3 ⟨rfl, W1, hz, hp1, hst1⟩
                  have Hz := Lib.hid hz
                  clear hz Hy
                  go_upto_region 43 with (fail)
                  obtain ⟨r3, hr3⟩ : ∃ z : Bool, z = (decide (mid < e) && decide (e < b)) := ⟨_, rfl⟩
                  have Hr3 := Lib.hid hr3
                  clear hr3
                  go_cut [213] from 206 to 213 (fun t wx => t = .bool r3 ∧ wx = w3)
                  case first =>
                    rcases two_and (p := mid < e) (q := e < b) with ⟨b1, b2⟩ | ⟨b1, b2⟩ | b1
                    · have e9 : r3 = true := by rw [Hr3.out]; simp [b1, b2]
                      go_wp2
                      go_meet
                      case rel => exact ⟨by rw [e9], rfl⟩
                    · have e9 : r3 = false := by rw [Hr3.out]; simp [b2]
                      go_wp2
                      go_meet
                      case rel => exact ⟨by rw [e9], rfl⟩
                    · have e9 : r3 = false := by rw [Hr3.out]; simp [b1]
                      go_wp2
                      go_meet
                      case rel => exact ⟨by rw [e9], rfl⟩
                  case rest =>
                    obtain ⟨hc1, hc2⟩ := hcut
                    subst hc1
                    have hc3 := hc2.symm
                    clear hc2
                    subst hc3
                    cases r3
                    · have hr3 := Hr3.out
                      obtain ⟨W2, hW2, hp2, hst2⟩ : ∃ W2, Sd w0 w3 base g c (A ++ (W1 ++ (W2 ++ B))) ∧ W2.Perm (U2 ++ V2) ∧ Srt K W2 := by
                        have q0 := HFF.out
                        have q1 : U2 = [] ∨ V2 = [] := by
                          rcases two_and (p := mid < e) (q := e < b) with ⟨b1, b2⟩ | ⟨b1, b2⟩ | b1
                          · simp [b1, b2] at hr3
                          · right; exact List.eq_nil_of_length_eq_zero (by have := q0.l4; omega)
                          · left; exact List.eq_nil_of_length_eq_zero (by have := q0.l6; omega)
                        refine ⟨U2 ++ V2, by have h9 := Hz.out; rw [List.append_assoc]; exact h9, List.Perm.refl _, ?_⟩
                        rcases q1 with q1 | q1
                        · rw [q1]; simpa using Hsv2.out
                        · rw [q1]; simpa using Hsu2.out
                      have Hw2 := Lib.hid hW2
                      obtain ⟨pj1, pj2⟩ := par_join HP.out hp1 hp2 hst1 hst2
                      have Hpj := Lib.hid (And.intro pj1 pj2)
                      clear hW2 hp2 hst2 pj1 pj2 hr3
                      go_wp2
                      go_end0
                      refine ⟨rfl, W1 ++ W2, by have h9 := Hw2.out; rw [List.append_assoc]; exact h9, ?_, Hpj.out.1⟩
                      rw [HFF.out.u, HFF.out.v]; exact Hpj.out.2
                    · have hr3 := Hr3.out
                      have q2 : mid < e ∧ e < b := by
                        rcases two_and (p := mid < e) (q := e < b) with b1 | ⟨b1, b2⟩ | b1
                        · exact b1
                        · simp [b2] at hr3
                        · simp [b1] at hr3
                      clear hr3
                      have hW1l : W1.length = U1.length + V1.length := by rw [hp1.length_eq, List.length_append]
                      have HW1l := Lib.hid hW1l
                      clear hW1l
                      have Hq2 := Lib.hid q2
                      clear q2
                      go_wp2_with fail
                      refine (Hih.out (A ++ W1) U2 V2 B (A ++ (W1 ++ (U2 ++ (V2 ++ B)))) mid e b w3 (by rw [List.append_assoc]) Hz.out ?_ ?_ ?_ ?_ ?_ ?_ Hsu2.out Hsv2.out ?_ ?_).mono ?_
                      · have h8 := HI.out.hlen
                        have h9 := HW1l.out
                        rw [HFF.out.xs] at h8
                        simp only [List.length_append] at h8 ⊢
                        omega
                      · have h9 := HW1l.out
                        have h8 := HFF.out.l1
                        have h7 := HFF.out.l5
                        have h6 := HI.out.hal
                        rw [List.length_append]; omega
                      · exact HFF.out.l6
                      · exact HFF.out.l4
                      · have := HFF.out.l6; have := Hq2.out; omega
                      · have := HFF.out.l4; have := Hq2.out; omega
                      · intro x hx
                        refine HD.out x ?_
                        rw [HFF.out.u, HFF.out.v]
                        rcases List.mem_append.1 hx with h9 | h9 <;> simp [h9]
                      · have h1 := HF.out; have h2 := HFF.out; rw [h2.u, h2.v, List.length_append, List.length_append] at h1; have h3 := h2.l1; have h4 := h2.l5; have h5 := Hrng.out; omega
                      · rintro e4 w4 ⟨rfl, W2, hW2, hp2, hst2⟩
                        have Hw2 := Lib.hid hW2
                        obtain ⟨pj1, pj2⟩ := par_join HP.out hp1 hp2 hst1 hst2
                        have Hpj := Lib.hid (And.intro pj1 pj2)
                        clear hW2 hp2 hst2 pj1 pj2
                        go_wp2
                        go_end0
                        refine ⟨rfl, W1 ++ W2, by have h9 := Hw2.out; rw [List.append_assoc] at h9 ⊢; exact h9, ?_, Hpj.out.1⟩
                        rw [HFF.out.u, HFF.out.v]; exact Hpj.out.2
          · have hr1 := Hr1.out
            have q2 : i < m ∧ m < e := by
              rcases two_and (p := i < m) (q := m < e) with b1 | ⟨b1, b2⟩ | b1
              · exact b1
              · simp [b2] at hr1
              · simp [b1] at hr1
            have Hq1 := Lib.hid q2
            clear hr1 q2
            go_wp2_with fail
            refine (rotate_any w0 wo base g c N i m e (A ++ U1) U2 V1 (V2 ++ B) xs _ (by rw [HFF.out.xs, List.append_assoc]) Hs2.out HI.out.hlen (by have := HI.out.hal; have := HFF.out.l1; rw [List.length_append]; omega) HFF.out.l2 HFF.out.l3 (by have := HFF.out.l2; have := Hq1.out; omega) (by have := HFF.out.l3; have := Hq1.out; omega) hl).mono ?_
            rintro e2 w2 ⟨rfl, hy⟩
            have Hy : Hid (Sd w0 w2 base g c (A ++ (U1 ++ (V1 ++ (U2 ++ (V2 ++ B)))))) := by show Sd _ _ _ _ _ _; rw [List.append_assoc] at hy; exact hy
            clear hy
            go_upto_region 41 with (fail)
            obtain ⟨r2, hr2⟩ : ∃ z : Bool, z = (decide (a < i) && decide (i < mid)) := ⟨_, rfl⟩
            have Hr2 := Lib.hid hr2
            clear hr2
            go_cut [199] from 192 to 199 (fun t wx => t = .bool r2 ∧ wx = w2)
            case first =>
              rcases two_and (p := a < i) (q := i < mid) with ⟨b1, b2⟩ | ⟨b1, b2⟩ | b1
              · have e9 : r2 = true := by rw [Hr2.out]; simp [b1, b2]
                go_wp2
                go_meet
                case rel => exact ⟨by rw [e9], rfl⟩
              · have e9 : r2 = false := by rw [Hr2.out]; simp [b2]
                go_wp2
                go_meet
                case rel => exact ⟨by rw [e9], rfl⟩
              · have e9 : r2 = false := by rw [Hr2.out]; simp [b1]
                go_wp2
                go_meet
                case rel => exact ⟨by rw [e9], rfl⟩
            case rest =>
              obtain ⟨hc1, hc2⟩ := hcut
              subst hc1
              have hc3 := hc2.symm
              clear hc2
              subst hc3
              cases r2
              · have hr2 := Hr2.out
                obtain ⟨W1, hz, hp1, hst1⟩ : ∃ W1, Sd w0 w2 base g c (A ++ (W1 ++ (U2 ++ (V2 ++ B)))) ∧ W1.Perm (U1 ++ V1) ∧ Srt K W1 := by
                  have q0 := HFF.out
                  have q1 : U1 = [] ∨ V1 = [] := by
                    rcases two_and (p := a < i) (q := i < mid) with ⟨b1, b2⟩ | ⟨b1, b2⟩ | b1
                    · simp [b1, b2] at hr2
                    · right; exact List.eq_nil_of_length_eq_zero (by have := q0.l5; omega)
                    · left; exact List.eq_nil_of_length_eq_zero (by have := q0.l1; omega)
                  refine ⟨U1 ++ V1, by have h9 := Hy.out; rw [List.append_assoc]; exact h9, List.Perm.refl _, ?_⟩
                  rcases q1 with q1 | q1
                  · rw [q1]; simpa using Hsv1.out
                  · rw [q1]; simpa using Hsu1.out
                have Hz := Lib.hid hz
                clear hz hr2 Hy
                obtain ⟨w3, rfl⟩ : ∃ z, z = w2 := ⟨_, rfl⟩
                go_upto_region 43 with (fail)
                obtain ⟨r3, hr3⟩ : ∃ z : Bool, z = (decide (mid < e) && decide (e < b)) := ⟨_, rfl⟩
                have Hr3 := Lib.hid hr3
                clear hr3
                go_cut [213] from 206 to 213 (fun t wx => t = .bool r3 ∧ wx = w3)
                case first =>
                  rcases two_and (p := mid < e) (q := e < b) with ⟨b1, b2⟩ | ⟨b1, b2⟩ | b1
                  · have e9 : r3 = true := by rw [Hr3.out]; simp [b1, b2]
                    go_wp2
                    go_meet
                    case rel => exact ⟨by rw [e9], rfl⟩
                  · have e9 : r3 = false := by rw [Hr3.out]; simp [b2]
                    go_wp2
                    go_meet
                    case rel => exact ⟨by rw [e9], rfl⟩
                  · have e9 : r3 = false := by rw [Hr3.out]; simp [b1]
                    go_wp2
                    go_meet
                    case rel => exact ⟨by rw [e9], rfl⟩
                case rest =>
                  obtain ⟨hc1, hc2⟩ := hcut
                  subst hc1
                  have hc3 := hc2.symm
                  clear hc2
                  subst hc3
                  cases r3
                  · have hr3 := Hr3.out
                    obtain ⟨W2, hW2, hp2, hst2⟩ : ∃ W2, Sd w0 w3 base g c (A ++ (W1 ++ (W2 ++ B))) ∧ W2.Perm (U2 ++ V2) ∧ Srt K W2 := by
                      have q0 := HFF.out
                      have q1 : U2 = [] ∨ V2 = [] := by
                        rcases two_and (p := mid < e) (q := e < b) with ⟨b1, b2⟩ | ⟨b1, b2⟩ | b1
                        · simp [b1, b2] at hr3
                        · right; exact List.eq_nil_of_length_eq_zero (by have := q0.l4; omega)
                        · left; exact List.eq_nil_of_length_eq_zero (by have := q0.l6; omega)
                      refine ⟨U2 ++ V2, by have h9 := Hz.out; rw [List.append_assoc]; exact h9, List.Perm.refl _, ?_⟩
                      rcases q1 with q1 | q1
                      · rw [q1]; simpa using Hsv2.out
                      · rw [q1]; simpa using Hsu2.out
                    have Hw2 := Lib.hid hW2
                    obtain ⟨pj1, pj2⟩ := par_join HP.out hp1 hp2 hst1 hst2
                    have Hpj := Lib.hid (And.intro pj1 pj2)
                    clear hW2 hp2 hst2 pj1 pj2 hr3
                    go_wp2
                    go_end0
                    refine ⟨rfl, W1 ++ W2, by have h9 := Hw2.out; rw [List.append_assoc]; exact h9, ?_, Hpj.out.1⟩
                    rw [HFF.out.u, HFF.out.v]; exact Hpj.out.2
                  · have hr3 := Hr3.out
                    have q2 : mid < e ∧ e < b := by
                      rcases two_and (p := mid < e) (q := e < b) with b1 | ⟨b1, b2⟩ | b1
                      · exact b1
                      · simp [b2] at hr3
                      · simp [b1] at hr3
                    clear hr3
                    have hW1l : W1.length = U1.length + V1.length := by rw [hp1.length_eq, List.length_append]
                    have HW1l := Lib.hid hW1l
                    clear hW1l
                    have Hq2 := Lib.hid q2
                    clear q2
                    go_wp2_with fail
                    refine (Hih.out (A ++ W1) U2 V2 B (A ++ (W1 ++ (U2 ++ (V2 ++ B)))) mid e b w3 (by rw [List.append_assoc]) Hz.out ?_ ?_ ?_ ?_ ?_ ?_ Hsu2.out Hsv2.out ?_ ?_).mono ?_
                    · have h8 := HI.out.hlen
                      have h9 := HW1l.out
                      rw [HFF.out.xs] at h8
                      simp only [List.length_append] at h8 ⊢
                      omega
                    · have h9 := HW1l.out
                      have h8 := HFF.out.l1
                      have h7 := HFF.out.l5
                      have h6 := HI.out.hal
                      rw [List.length_append]; omega
                    · exact HFF.out.l6
                    · exact HFF.out.l4
                    · have := HFF.out.l6; have := Hq2.out; omega
                    · have := HFF.out.l4; have := Hq2.out; omega
                    · intro x hx
                      refine HD.out x ?_
                      rw [HFF.out.u, HFF.out.v]
                      rcases List.mem_append.1 hx with h9 | h9 <;> simp [h9]
                    · have h1 := HF.out; have h2 := HFF.out; rw [h2.u, h2.v, List.length_append, List.length_append] at h1; have h3 := h2.l1; have h4 := h2.l5; have h5 := Hrng.out; omega
                    · rintro e4 w4 ⟨rfl, W2, hW2, hp2, hst2⟩
                      have Hw2 := Lib.hid hW2
                      obtain ⟨pj1, pj2⟩ := par_join HP.out hp1 hp2 hst1 hst2
                      have Hpj := Lib.hid (And.intro pj1 pj2)
                      clear hW2 hp2 hst2 pj1 pj2
                      go_wp2
                      go_end0
                      refine ⟨rfl, W1 ++ W2, by have h9 := Hw2.out; rw [List.append_assoc] at h9 ⊢; exact h9, ?_, Hpj.out.1⟩
                      rw [HFF.out.u, HFF.out.v]; exact Hpj.out.2
              · have hr2 := Hr2.out
                have q2 : a < i ∧ i < mid := by
                  rcases two_and (p := a < i) (q := i < mid) with b1 | ⟨b1, b2⟩ | b1
                  · exact b1
                  · simp [b2] at hr2
                  · simp [b1] at hr2
                have Hq2 := Lib.hid q2
                clear hr2 q2
                go_wp2_with fail
                refine (Hih.out A U1 V1 (U2 ++ (V2 ++ B)) (A ++ (U1 ++ (V1 ++ (U2 ++ (V2 ++ B))))) a i mid w2 rfl Hy.out ?_ HI.out.hal HFF.out.l1 HFF.out.l5 ?_ ?_ Hsu1.out Hsv1.out ?_ ?_).mono ?_
                · have h8 := HI.out.hlen
                  rw [HFF.out.xs] at h8
                  simp only [List.length_append] at h8 ⊢
                  omega
                · have := HFF.out.l1; have := Hq2.out; omega
                · have := HFF.out.l5; have := Hq2.out; omega
                · intro x hx
                  refine HD.out x ?_
                  rw [HFF.out.u, HFF.out.v]
                  rcases List.mem_append.1 hx with h9 | h9 <;> simp [h9]
                · have h1 := HF.out; have h2 := HFF.out; rw [h2.u, h2.v, List.length_append, List.length_append] at h1; have h3 := h2.l4; have h4 := h2.l6; have h5 := Hrng.out; omega
                · rintro e3 w3 ⟨rfl, W1, hz, hp1, hst1⟩
                  have Hz := Lib.hid hz
                  clear hz Hy
                  go_upto_region 43 with (fail)
                  obtain ⟨r3, hr3⟩ : ∃ z : Bool, z = (decide (mid < e) && decide (e < b)) := ⟨_, rfl⟩
                  have Hr3 := Lib.hid hr3
                  clear hr3
                  go_cut [213] from 206 to 213 (fun t wx => t = .bool r3 ∧ wx = w3)
                  case first =>
                    rcases two_and (p := mid < e) (q := e < b) with ⟨b1, b2⟩ | ⟨b1, b2⟩ | b1
                    · have e9 : r3 = true := by rw [Hr3.out]; simp [b1, b2]
                      go_wp2
                      go_meet
                      case rel => exact ⟨by rw [e9], rfl⟩
                    · have e9 : r3 = false := by rw [Hr3.out]; simp [b2]
                      go_wp2
                      go_meet
                      case rel => exact ⟨by rw [e9], rfl⟩
                    · have e9 : r3 = false := by rw [Hr3.out]; simp [b1]
                      go_wp2
                      go_meet
                      case rel => exact ⟨by rw [e9], rfl⟩
                  case rest =>
                    obtain ⟨hc1, hc2⟩ := hcut
                    subst hc1
                    have hc3 := hc2.symm
                    clear hc2
                    subst hc3
                    cases r3
                    · have hr3 := Hr3.out
                      obtain ⟨W2, hW2, hp2, hst2⟩ : ∃ W2, Sd w0 w3 base g c (A ++ (W1 ++ (W2 ++ B))) ∧ W2.Perm (U2 ++ V2) ∧ Srt K W2 := by
                        have q0 := HFF.out
                        have q1 : U2 = [] ∨ V2 = [] := by
                          rcases two_and (p := mid < e) (q := e < b) with ⟨b1, b2⟩ | ⟨b1, b2⟩ | b1
                          · simp [b1, b2] at hr3
                          · right; exact List.eq_nil_of_length_eq_zero (by have := q0.l4; omega)
                          · left; exact List.eq_nil_of_length_eq_zero (by have := q0.l6; omega)
                        refine ⟨U2 ++ V2, by have h9 := Hz.out; rw [List.append_assoc]; exact h9, List.Perm.refl _, ?_⟩
                        rcases q1 with q1 | q1
                        · rw [q1]; simpa using Hsv2.out
                        · rw [q1]; simpa using Hsu2.out
                      have Hw2 := Lib.hid hW2
                      obtain ⟨pj1, pj2⟩ := par_join HP.out hp1 hp2 hst1 hst2
                      have Hpj := Lib.hid (And.intro pj1 pj2)
                      clear hW2 hp2 hst2 pj1 pj2 hr3
                      go_wp2
                      go_end0
                      refine ⟨rfl, W1 ++ W2, by have h9 := Hw2.out; rw [List.append_assoc]; exact h9, ?_, Hpj.out.1⟩
                      rw [HFF.out.u, HFF.out.v]; exact Hpj.out.2
                    · have hr3 := Hr3.out
                      have q2 : mid < e ∧ e < b := by
                        rcases two_and (p := mid < e) (q := e < b) with b1 | ⟨b1, b2⟩ | b1
                        · exact b1
                        · simp [b2] at hr3
                        · simp [b1] at hr3
                      clear hr3
                      have hW1l : W1.length = U1.length + V1.length := by rw [hp1.length_eq, List.length_append]
                      have HW1l := Lib.hid hW1l
                      clear hW1l
                      have Hq2 := Lib.hid q2
                      clear q2
                      go_wp2_with fail
                      refine (Hih.out (A ++ W1) U2 V2 B (A ++ (W1 ++ (U2 ++ (V2 ++ B)))) mid e b w3 (by rw [List.append_assoc]) Hz.out ?_ ?_ ?_ ?_ ?_ ?_ Hsu2.out Hsv2.out ?_ ?_).mono ?_
                      · have h8 := HI.out.hlen
                        have h9 := HW1l.out
                        rw [HFF.out.xs] at h8
                        simp only [List.length_append] at h8 ⊢
                        omega
                      · have h9 := HW1l.out
                        have h8 := HFF.out.l1
                        have h7 := HFF.out.l5
                        have h6 := HI.out.hal
                        rw [List.length_append]; omega
                      · exact HFF.out.l6
                      · exact HFF.out.l4
                      · have := HFF.out.l6; have := Hq2.out; omega
                      · have := HFF.out.l4; have := Hq2.out; omega
                      · intro x hx
                        refine HD.out x ?_
                        rw [HFF.out.u, HFF.out.v]
                        rcases List.mem_append.1 hx with h9 | h9 <;> simp [h9]
                      · have h1 := HF.out; have h2 := HFF.out; rw [h2.u, h2.v, List.length_append, List.length_append] at h1; have h3 := h2.l1; have h4 := h2.l5; have h5 := Hrng.out; omega
                      · rintro e4 w4 ⟨rfl, W2, hW2, hp2, hst2⟩
                        have Hw2 := Lib.hid hW2
                        obtain ⟨pj1, pj2⟩ := par_join HP.out hp1 hp2 hst1 hst2
                        have Hpj := Lib.hid (And.intro pj1 pj2)
                        clear hW2 hp2 hst2 pj1 pj2
                        go_wp2
                        go_end0
                        refine ⟨rfl, W1 ++ W2, by have h9 := Hw2.out; rw [List.append_assoc] at h9 ⊢; exact h9, ?_, Hpj.out.1⟩
                        rw [HFF.out.u, HFF.out.v]; exact Hpj.out.2
end Go.Proofs.YtfkmkpamdlhbgaaGreat
