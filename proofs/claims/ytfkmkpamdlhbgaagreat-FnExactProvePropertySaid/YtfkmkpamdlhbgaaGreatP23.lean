/- Parts of the proof: walks of functions and plain laws. -/
import Derived.Test.YtfkmkpamdlhbgaaGreatP22
import Derived.Test.YtfkmkpamdlhbgaaGreatP2
import Derived.Test.YtfkmkpamdlhbgaaGreatP19
import Derived.Test.YtfkmkpamdlhbgaaGreatP10
namespace Go.Proofs.YtfkmkpamdlhbgaaGreat
open Go.RowKit
/-! symMerge of any rows; insertion sort -/
theorem symMerge_any (w0 : World) (base g c N : Nat) (fid : FuncId) (caps : Array Value) (K : Int → Int) (D : Int → Prop) (hc : CmpOn w0 g fid caps K D) (hl : N ≤ 1000000) : ∀ (F : Nat) (A U V B xs : List Int) (a m b : Nat) (w : World), xs = A ++ (U ++ (V ++ B)) → Sd w0 w base g c xs → xs.length = N → A.length = a → a + U.length = m → m + V.length = b → 0 < U.length → 0 < V.length → Srt K U → Srt K V → (∀ x ∈ U ++ V, D x) → U.length + V.length ≤ F →
    Calls Tryz.prog 178 #[.slice (some ⟨g, 0, none⟩) N c, .int .i64 a, .int .i64 m, .int .i64 b, .func (.func fid) #[] caps] w fun e w' => e = .returned (.tuple #[]) ∧ ∃ W, Sd w0 w' base g c (A ++ (W ++ B)) ∧ W.Perm (U ++ V) ∧ Srt K W := by
  intro F
  induction F with
  | zero => intro A U V B xs a m b w _ _ _ _ _ _ h1 h2 _ _ _ h3; omega
  | succ F ih =>
    intro A U V B xs a m b w hx hs hN ha hm hb hU hV sU sV hD hF
    by_cases h : U.length = 1 ∨ V.length = 1
    · exact symMerge_small w0 base g c N fid caps K D hc hl A U V B xs a m b w hx hs hN ha hm hb hU hV sU sV hD h
    · exact symMerge_gen w0 base g c N F fid caps K D hc hl ih A U V B xs a m b w hx hs hN ha hm hb (by omega) (by omega) sU sV hD hF
/-- a comparison whose value is the difference of the keys -/
structure CmpX (w0 : World) (g : Nat) (fid : FuncId) (caps : Array Value) (K : Int → Int) (D : Int → Prop) : Prop where
  call : ∀ x y, D x → D y → ∀ W, Only [g] w0 W → Calls Tryz.prog fid (#[.int .i64 x, .int .i64 y] ++ caps) W fun e w' => e = .returned (.int .i64 (K x - K y)) ∧ Below W.heap.size W w'
  enter : ∀ args w, (callFunc fid args).run Tryz.prog w = .ok (.enter fid args) w
theorem CmpX.on {w0 : World} {g : Nat} {fid : FuncId} {caps : Array Value} {K : Int → Int} {D : Int → Prop} (h : CmpX w0 g fid caps K D) : CmpOn w0 g fid caps K D :=
  ⟨fun x y hx hy W hW => (h.call x y hx hy W hW).mono fun e w' ⟨h1, h2⟩ => ⟨_, h1, by omega, h2⟩, h.enter⟩
set_option maxRecDepth 100000 in
set_option maxHeartbeats 1600000 in
theorem insertion_any (w0 w : World) (base g c N : Nat) (fid : FuncId) (caps : Array Value) (K : Int → Int) (D : Int → Prop) (hc : CmpX w0 g fid caps K D) (hl : N ≤ 1000000) (A U B xs : List Int) (a b : Nat) (hx : xs = A ++ (U ++ B)) (hs : Sd w0 w base g c xs) (hN : xs.length = N) (ha : A.length = a) (hb : a + U.length = b) (hD : ∀ x ∈ U, D x) :
    Calls Tryz.prog 177 #[.slice (some ⟨g, 0, none⟩) N c, .int .i64 a, .int .i64 b, .func (.func fid) #[] caps] w fun e w' => e = .returned (.tuple #[]) ∧ ∃ W, Sd w0 w' base g c (A ++ (W ++ B)) ∧ W.Perm U ∧ Srt K W := by
  have eg := hc.enter
  have Hc := Lib.hid hc
  have Hs := Lib.hid hs
  have HD := Lib.hid hD
  have Hx := Lib.hid hx
  have hl0 : A.length + U.length + B.length = N := by rw [← hN, hx]; simp only [List.length_append]; omega
  have hbN : b ≤ N := by omega
  have Ha := Lib.hid ha
  have Hb := Lib.hid hb
  have Hl0 := Lib.hid hl0
  have m1 : IntKind.i64.wrap ((a : Int) + 1) = ((a + 1 : Nat) : Int) := add1_w (by omega)
  have hab : a ≤ b := by omega
  clear hc hs hD hx hN ha hb hl0
  go_enter Tryz.func177, Tryz.ntmps177
  obtain ⟨a1, ha1⟩ : ∃ z, z = a + 1 := ⟨_, rfl⟩
  rw [← ha1] at m1
  have Ha1 := Lib.hid ha1
  clear ha1
  go_wp2
  go_loopw [8] (fun ti wr => ∃ (i : Nat) (T : List Int), ti = .int .i64 i ∧ a < i ∧ (i ≤ b ∨ i = a + 1) ∧ Sd w0 wr base g c (A ++ (T ++ (U.drop (i - a) ++ B))) ∧ T.Perm (U.take (i - a)) ∧ Srt K T) (fun ti _ => b - (intOf ti).toNat)
  case atStart =>
    refine ⟨a1, U.take 1, rfl, by have := Ha1.out; omega, .inr Ha1.out, ?_, by rw [Ha1.out, show a + 1 - a = 1 by omega], ?_⟩
    · rw [Ha1.out, show a + 1 - a = 1 by omega]
      have h9 := Hs.out
      rw [Hx.out] at h9
      rw [← List.append_assoc (U.take 1), List.take_append_drop]
      exact h9
    · cases U with
      | nil => simp
      | cons x U => simp
  case round =>
    obtain ⟨i, T, rfl, hi, hib, hs2, hp, hst⟩ := hrel
    have Hs2 := Lib.hid hs2
    have Hp := Lib.hid hp
    have Hst := Lib.hid hst
    have Hib := Lib.hid hib
    clear hs2 hp hst hib
    by_cases hlt : i < b
    · have hiU : i - a < U.length := by have := Hb.out; omega
      obtain ⟨x, hx⟩ : ∃ z, z = U[i - a] := ⟨_, rfl⟩
      obtain ⟨R, hR⟩ : ∃ z, z = U.drop (i - a + 1) ++ B := ⟨_, rfl⟩
      have hTl : T.length = i - a := by rw [Hp.out.length_eq, List.length_take]; omega
      have hS0 : Sd w0 wr base g c (insU A x T R T.length) := by
        rw [insU_end]
        have h9 := Hs2.out
        rw [List.drop_eq_getElem_cons hiU, ← hx] at h9
        rw [hR]
        simpa using h9
      have hxU : x ∈ U := by rw [hx]; exact List.getElem_mem hiU
      have hTD : ∀ y ∈ T, D y := fun y hy => HD.out y (List.mem_of_mem_take ((Hp.out.mem_iff).1 hy))
      have hlen : ∀ t, (insU A x T R t).length = N := fun t => by
        rw [← Hl0.out]; unfold insU; simp only [List.length_append, List.length_cons, List.length_take, List.length_drop]
        rw [hR, List.length_append, List.length_drop]; omega
      have HS0 := Lib.hid hS0
      have HxD := Lib.hid (HD.out x hxU)
      have HTD := Lib.hid hTD
      have Hlen := Lib.hid hlen
      have HTl := Lib.hid hTl
      have Hxx := Lib.hid hx
      have HR := Lib.hid hR
      have m2 : IntKind.i64.wrap ((i : Int) + 1) = ((i + 1 : Nat) : Int) := add1_w (by omega)
      clear hS0 hxU hTD hlen hTl hx hR
      obtain ⟨wo, rfl⟩ : ∃ z, z = wr := ⟨_, rfl⟩
      go_upto_region 4 with (fail)
      go_loopw [9] (fun tj wr => ∃ (t : Nat), tj = .int .i64 ((a + t : Nat) : Int) ∧ t ≤ T.length ∧ (t = T.length ∨ K x ≤ K (T.getD t 0)) ∧ Sd w0 wr base g c (insU A x T R t)) (fun tj _ => (intOf tj).toNat)
      case atStart => exact ⟨T.length, by rw [HTl.out, show a + (i - a) = i by omega], Nat.le_refl _, .inl rfl, HS0.out⟩
      case round =>
        obtain ⟨t, rfl, ht, htk, hs3⟩ := hrel
        have Hs3 := Lib.hid hs3
        have Htk := Lib.hid htk
        clear hs3 htk
        have hiN : a + T.length < N := by have := HTl.out; omega
        obtain ⟨w1, rfl⟩ : ∃ z, z = wr := ⟨_, rfl⟩
        -- x finds its place
        have fin : ∀ (w2 : World), Sd w0 w2 base g c (insU A x T R t) → (t = 0 ∨ K (T.getD (t - 1) 0) ≤ K x) → Sd w0 w2 base g c (A ++ ((T.take t ++ x :: T.drop t) ++ (U.drop (i + 1 - a) ++ B))) ∧ (T.take t ++ x :: T.drop t).Perm (U.take (i + 1 - a)) ∧ Srt K (T.take t ++ x :: T.drop t) := fun w2 h1 h2 => by
          refine ⟨?_, ?_, ?_⟩
          · unfold insU at h1
            rw [HR.out] at h1
            rw [show i + 1 - a = i - a + 1 by omega]
            simp only [List.append_assoc, List.cons_append] at h1 ⊢
            exact h1
          · refine (ins_perm x T t).trans ?_
            rw [show i + 1 - a = i - a + 1 by omega, List.take_succ_eq_append_getElem hiU, ← Hxx.out]
            exact List.perm_append_comm.trans (Hp.out.append_right _)
          · refine ins_srt Hst.out ht ?_ ?_
            · rcases h2 with h2 | h2
              · exact .inl h2
              · by_cases e0 : t = 0
                · exact .inl e0
                · refine .inr ⟨by omega, ?_⟩
                  rw [getD_lt (by omega)] at h2
                  exact h2
            · rcases Htk.out with h2 | h2
              · exact .inl h2
              · by_cases e0 : t = T.length
                · exact .inl e0
                · refine .inr ⟨by omega, ?_⟩
                  rw [getD_lt (by omega)] at h2
                  exact h2
        have Hfin := Lib.hid fin
        clear fin
        by_cases h0 : t = 0
        · subst h0
          have e9 : decide (((a + 0 : Nat) : Int) > (a : Int)) = false := by simp
          have e8 : decide ((a : Int) < ((a + 0 : Nat) : Int)) = false := by simp
          go_upto_region 4 with (fail)
          refine wp_region_flow 17 (Since w1) (by kernel_rfl) (by kernel_rfl) (by simp) (since_drew (since_refl _)) ?_
          simp only [List.take_succ_cons, List.take_zero, List.drop_succ_cons, List.drop_zero]
          refine flow_val (v := ?_) rfl ?_ ?_; rotate_left; (intro W hW; go_simp; with_reducible rfl)
          simp only [Act.put, List.setIfInBounds_toArray, List.set_cons_succ, List.set_cons_zero]
          refine flow_val (v := ?_) rfl ?_ ?_; rotate_left; (intro W hW; go_simp; with_reducible rfl)
          simp only [Act.put, List.setIfInBounds_toArray, List.set_cons_succ, List.set_cons_zero]
          refine flow_val (v := ?_) rfl ?_ ?_; rotate_left; (intro W hW; go_simp; with_reducible rfl)
          simp only [Act.put, List.setIfInBounds_toArray, List.set_cons_succ, List.set_cons_zero]
          refine flow_val (v := ?_) rfl ?_ ?_; rotate_left; (intro W hW; go_simp; with_reducible rfl)
          simp only [Act.put, List.setIfInBounds_toArray, List.set_cons_succ, List.set_cons_zero]
          refine flow_dead rfl rfl (by simp [*]) ?_
          simp only [Act.put, List.setIfInBounds_toArray, List.set_cons_succ, List.set_cons_zero]
          refine flow_dead rfl rfl (by simp [*]) ?_
          simp only [Act.put, List.setIfInBounds_toArray, List.set_cons_succ, List.set_cons_zero]
          refine flow_dead rfl rfl (by simp [*]) ?_
          simp only [Act.put, List.setIfInBounds_toArray, List.set_cons_succ, List.set_cons_zero]
          refine flow_dead rfl rfl (by simp [*]) ?_
          simp only [Act.put, List.setIfInBounds_toArray, List.set_cons_succ, List.set_cons_zero]
          refine flow_dead rfl rfl (by simp [*]) ?_
          simp only [Act.put, List.setIfInBounds_toArray, List.set_cons_succ, List.set_cons_zero]
          refine flow_dead rfl rfl (by simp [*]) ?_
          simp only [Act.put, List.setIfInBounds_toArray, List.set_cons_succ, List.set_cons_zero]
          refine flow_dead rfl rfl (by simp [*]) ?_
          simp only [Act.put, List.setIfInBounds_toArray, List.set_cons_succ, List.set_cons_zero]
          refine flow_dead rfl rfl (by simp [*]) ?_
          simp only [Act.put, List.setIfInBounds_toArray, List.set_cons_succ, List.set_cons_zero]
          refine flow_dead rfl rfl (by simp [*]) ?_
          simp only [Act.put, List.setIfInBounds_toArray, List.set_cons_succ, List.set_cons_zero]
          refine flow_dead rfl rfl (by simp [*]) ?_
          simp only [Act.put, List.setIfInBounds_toArray, List.set_cons_succ, List.set_cons_zero]
          refine flow_dead rfl rfl (by simp [*]) ?_
          simp only [Act.put, List.setIfInBounds_toArray, List.set_cons_succ, List.set_cons_zero]
          refine flow_dead rfl rfl (by simp [*]) ?_
          simp only [Act.put, List.setIfInBounds_toArray, List.set_cons_succ, List.set_cons_zero]
          first | refine flow_and rfl rfl ?_ | (refine flow_val (v := ?_) rfl ?_ ?_; rotate_left; (intro W hW; go_simp; with_reducible rfl))
          simp only [Act.put, List.setIfInBounds_toArray, List.set_cons_succ, List.set_cons_zero]
          intro W hW
          obtain ⟨f1, f2, f3⟩ := Hfin.out W (Hs3.out.since hW) (.inl rfl)
          have Hf := Lib.hid (And.intro f1 (And.intro f2 f3))
          clear f1 f2 f3 hW
          obtain ⟨i1, hi1⟩ : ∃ z, z = i + 1 := ⟨_, rfl⟩
          rw [← hi1] at m2 Hf
          have Hi1 := Lib.hid hi1
          clear hi1
          go_wp2
          go_roundw
          case rel => exact ⟨i1, _, by first | rfl | go_num, by have := Hi1.out; omega, .inl (by have := Hi1.out; omega), Hf.out⟩
          case measure => have := Hi1.out; simp [intOf]; omega
        · obtain ⟨r, rfl⟩ : ∃ r, t = r + 1 := ⟨t - 1, by omega⟩
          have hs4 := Hs3.out
          have c1 := hs4.keepCell (k := a + (r + 1)) (by rw [Hlen.out]; omega)
          have c2 := hs4.keepCell (k := a + r) (by rw [Hlen.out]; omega)
          have f1 := hs4.own.free (a + (r + 1))
          have f2 := hs4.own.free (a + r)
          have hsw := hs4.swap (a + (r + 1)) (a + r)
          rw [show swp (insU A x T R (r + 1)) (a + (r + 1)) (a + r) = insU A x T R r by rw [← Ha.out]; exact insU_down A x T R (by omega)] at hsw
          have g1 : (insU A x T R (r + 1)).getD (a + (r + 1)) 0 = x := by
            unfold insU
            rw [← Ha.out, ← List.append_assoc, List.getD_eq_getElem?_getD, List.getElem?_append_right (by rw [List.length_append, List.length_take]; omega), show A.length + (r + 1) - (A ++ T.take (r + 1)).length = 0 by rw [List.length_append, List.length_take]; omega]
            rfl
          have g2 : (insU A x T R (r + 1)).getD (a + r) 0 = T.getD r 0 := by
            unfold insU
            rw [← Ha.out, get_u (by rw [List.length_take]; omega), List.getD_eq_getElem?_getD, List.getD_eq_getElem?_getD, List.getElem?_take_of_lt (by omega)]
          rw [g1] at c1 hsw
          rw [g2] at c2 hsw
          obtain ⟨y, hy⟩ : ∃ z, z = T.getD r 0 := ⟨_, rfl⟩
          have hyT : y ∈ T := by rw [hy]; exact getD_mem0 (by omega)
          rw [← hy] at c2 hsw
          have Hy := Lib.hid hy
          have HyD := Lib.hid (HTD.out y hyT)
          have hb1 : a + (r + 1) < N := by omega
          have hb2 : a + r < N := by omega
          have e9 : decide ((a : Int) < ((a + (r + 1) : Nat) : Int)) = true := by simp; omega
          have m3 : IntKind.i64.wrap (((a + (r + 1) : Nat) : Int) - 1) = ((a + r : Nat) : Int) := by rw [wr64 _ (by omega) (by omega)]; omega
          obtain ⟨p, hp⟩ : ∃ z, z = a + (r + 1) := ⟨_, rfl⟩
          obtain ⟨q, hq⟩ : ∃ z, z = a + r := ⟨_, rfl⟩
          have hap : a < p := by omega
          rw [← hp] at c1 f1 hb1 m3 hsw e9 ⊢
          rw [← hq] at c2 f2 hb2 m3 hsw
          have Hsw := Lib.hid hsw
          have Hpq := Lib.hid (And.intro hp hq)
          have hpq : p ≠ q := by omega
          clear hsw hs4 hy hyT g1 g2 hp hq
          go_upto_region 4 with (fail)
          refine wp_region_flow 17 (Since w1) (by kernel_rfl) (by kernel_rfl) (by simp) (since_drew (since_refl _)) ?_
          simp only [List.take_succ_cons, List.take_zero, List.drop_succ_cons, List.drop_zero]
          refine flow_val (v := ?_) rfl ?_ ?_; rotate_left; (intro W hW; go_simp; with_reducible rfl)
          simp only [Act.put, List.setIfInBounds_toArray, List.set_cons_succ, List.set_cons_zero]
          refine flow_val (v := ?_) rfl ?_ ?_; rotate_left; (intro W hW; go_simp; with_reducible rfl)
          simp only [Act.put, List.setIfInBounds_toArray, List.set_cons_succ, List.set_cons_zero]
          refine flow_val (v := ?_) rfl ?_ ?_; rotate_left; (intro W hW; go_simp; with_reducible rfl)
          simp only [Act.put, List.setIfInBounds_toArray, List.set_cons_succ, List.set_cons_zero]
          refine flow_val (v := ?_) rfl ?_ ?_; rotate_left; (intro W hW; go_simp; with_reducible rfl)
          simp only [Act.put, List.setIfInBounds_toArray, List.set_cons_succ, List.set_cons_zero]
          refine flow_gval (v := ?_) rfl rfl ?_ ?_; rotate_left; (intro hb; intro W hW; go_simp; with_reducible rfl)
          simp only [Act.put, List.setIfInBounds_toArray, List.set_cons_succ, List.set_cons_zero]
          refine flow_gval (v := ?_) rfl rfl ?_ ?_; rotate_left; (intro hb; intro W hW; go_simp; with_reducible rfl)
          simp only [Act.put, List.setIfInBounds_toArray, List.set_cons_succ, List.set_cons_zero]
          refine flow_gval (v := ?_) rfl rfl ?_ ?_; rotate_left; (intro hb; intro W hW; go_simp; with_reducible rfl)
          simp only [Act.put, List.setIfInBounds_toArray, List.set_cons_succ, List.set_cons_zero]
          refine flow_gval (v := ?_) rfl rfl ?_ ?_; rotate_left; (intro hb; intro W hW; go_simp; with_reducible rfl)
          simp only [Act.put, List.setIfInBounds_toArray, List.set_cons_succ, List.set_cons_zero]
          refine flow_gval (v := ?_) rfl rfl ?_ ?_; rotate_left; (intro hb; intro W hW; have k1 := c1 W hW; go_simp; with_reducible rfl)
          simp only [Act.put, List.setIfInBounds_toArray, List.set_cons_succ, List.set_cons_zero]
          refine flow_gval (v := ?_) rfl rfl ?_ ?_; rotate_left; (intro hb; intro W hW; go_simp; with_reducible rfl)
          simp only [Act.put, List.setIfInBounds_toArray, List.set_cons_succ, List.set_cons_zero]
          refine flow_gval (v := ?_) rfl rfl ?_ ?_; rotate_left; (intro hb; intro W hW; go_simp; with_reducible rfl)
          simp only [Act.put, List.setIfInBounds_toArray, List.set_cons_succ, List.set_cons_zero]
          refine flow_gval (v := ?_) rfl rfl ?_ ?_; rotate_left; (intro hb; intro W hW; go_simp; with_reducible rfl)
          simp only [Act.put, List.setIfInBounds_toArray, List.set_cons_succ, List.set_cons_zero]
          refine flow_gval (v := ?_) rfl rfl ?_ ?_; rotate_left; (intro hb; intro W hW; go_simp; with_reducible rfl)
          simp only [Act.put, List.setIfInBounds_toArray, List.set_cons_succ, List.set_cons_zero]
          refine flow_gval (v := ?_) rfl rfl ?_ ?_; rotate_left; (intro hb; intro W hW; have k2 := c2 W hW; go_simp; with_reducible rfl)
          simp only [Act.put, List.setIfInBounds_toArray, List.set_cons_succ, List.set_cons_zero]
          refine flow_gop (v := ?_) rfl rfl ?_ ?_; rotate_left; (intro hb; intro W hW; unfold Gives; go_simp; (with_reducible refine (Hc.out.call x y HxD.out HyD.out W (Hs3.out.since hW).only).mono ?_); rintro e W' ⟨rfl, hb3⟩; first | (refine ⟨?_, Since.trans hW hb3⟩; with_reducible rfl) | (subst hb3; refine ⟨?_, hW⟩; with_reducible rfl))
          simp only [Act.put, List.setIfInBounds_toArray, List.set_cons_succ, List.set_cons_zero]
          refine flow_gval (v := ?_) rfl rfl ?_ ?_; rotate_left; (intro hb; intro W hW; go_simp; with_reducible rfl)
          simp only [Act.put, List.setIfInBounds_toArray, List.set_cons_succ, List.set_cons_zero]
          first | refine flow_and rfl rfl ?_ | (refine flow_val (v := ?_) rfl ?_ ?_; rotate_left; (intro W hW; go_simp; with_reducible rfl))
          simp only [Act.put, List.setIfInBounds_toArray, List.set_cons_succ, List.set_cons_zero]
          intro W hW
          obtain ⟨z, hz⟩ : ∃ z, z = K x - K y := ⟨_, rfl⟩
          rw [← hz]
          have hs5 := Hs3.out.since hW
          have Hsw5 := Lib.hid (hs5.swap (a + (r + 1)) (a + r))
          have Hs5 := Lib.hid hs5
          have d1 := c1 W hW
          have d2 := c2 W hW
          have f1 := hs5.own.free p
          have f2 := hs5.own.free q
          clear hs5 hW c1 c2 Hs3
          by_cases hlt2 : K x < K y
          · have e7 : (z < 0) = True := eq_true (by rw [hz]; exact Int.sub_neg_of_lt hlt2)
            have e7c : (true && decide (z < 0)) = true := by rw [decide_eq_true (of_eq_true e7)]; rfl
            rw [e7c]
            clear hz
            have Hsx : Hid (Sd w0 ((W.setCell ⟨g, p, none⟩ (.int .i64 y)).setCell ⟨g, q, none⟩ (.int .i64 x)) base g c (insU A x T R r)) := by
              show Sd _ _ _ _ _ _
              have h9 := Hsw5.out
              rw [show swp (insU A x T R (r + 1)) (a + (r + 1)) (a + r) = insU A x T R r by rw [← Ha.out]; exact insU_down A x T R (by omega)] at h9
              have g1 : (insU A x T R (r + 1)).getD (a + (r + 1)) 0 = x := by
                unfold insU
                rw [← Ha.out, ← List.append_assoc, List.getD_eq_getElem?_getD, List.getElem?_append_right (by rw [List.length_append, List.length_take]; omega), show A.length + (r + 1) - (A ++ T.take (r + 1)).length = 0 by rw [List.length_append, List.length_take]; omega]
                rfl
              have g2 : (insU A x T R (r + 1)).getD (a + r) 0 = y := by
                unfold insU
                rw [← Ha.out, get_u (by rw [List.length_take]; omega), Hy.out, List.getD_eq_getElem?_getD, List.getD_eq_getElem?_getD, List.getElem?_take_of_lt (by omega)]
              rw [g1, g2, ← Hpq.out.1, ← Hpq.out.2] at h9
              exact h9
            clear Hsw5 Hsw
            go_upto_region 6 with (fail)
            go_region
            obtain ⟨w2, hw2⟩ : ∃ z, z = (W.setCell ⟨g, p, none⟩ (.int .i64 y)).setCell ⟨g, q, none⟩ (.int .i64 x) := ⟨_, rfl⟩
            rw [← hw2] at Hsx ⊢
            clear hw2 d1 d2 f1 f2
            go_wp2
            go_roundw
            case rel => exact ⟨r, by rw [Hpq.out.2]; first | done | rfl | go_num, by omega, .inr (by rw [← Hy.out]; omega), Hsx.out.drew⟩
            case measure => have := Hpq.out; first | (simp [intOf]; done) | (simp [intOf]; omega)
          · have e7 : (z < 0) = False := eq_false (fun h9 => hlt2 (Int.lt_of_sub_neg (hz ▸ h9)))
            have e7b : decide (z < 0) = false := decide_eq_false (fun h9 => hlt2 (Int.lt_of_sub_neg (hz ▸ h9)))
            have e7c : (true && decide (z < 0)) = false := by rw [e7b]; rfl
            rw [e7c]
            clear hz
            obtain ⟨z1, z2, z3⟩ := Hfin.out W Hs5.out (.inr (by rw [show r + 1 - 1 = r by omega, ← Hy.out]; exact Int.not_lt.1 hlt2))
            have Hf := Lib.hid (And.intro z1 (And.intro z2 z3))
            clear z1 z2 z3 d1 d2 f1 f2
            obtain ⟨i1, hi1⟩ : ∃ z, z = i + 1 := ⟨_, rfl⟩
            rw [← hi1] at m2 Hf
            have Hi1 := Lib.hid hi1
            clear hi1
            clear HxD HTD Hlen HTl Hxx HR Hfin Htk
            go_wp2
            go_roundw
            case rel => exact ⟨i1, _, by first | rfl | go_num, by have := Hi1.out; omega, .inl (by have := Hi1.out; omega), Hf.out⟩
            case measure => have := Hi1.out; first | (simp [intOf]; done) | (simp [intOf]; omega)
    · have Hlt := Lib.hid hlt
      have hfin : ∃ W, Sd w0 wr base g c (A ++ (W ++ B)) ∧ W.Perm U ∧ Srt K W := by
        have hd : U.length ≤ i - a := by have := Hb.out; omega
        refine ⟨T, ?_, ?_, Hst.out⟩
        · have h9 := Hs2.out
          rw [List.drop_eq_nil_of_le hd] at h9
          simpa using h9
        · have h9 := Hp.out
          rw [List.take_of_length_le hd] at h9
          exact h9
      have Hfin := Lib.hid hfin
      clear hfin
      go_wp2
      go_end0
      exact ⟨rfl, Hfin.out⟩
end Go.Proofs.YtfkmkpamdlhbgaaGreat
namespace Go.Proofs.YtfkmkpamdlhbgaaGreat
open Go.RowKit
/-! the stable sort of at most forty integers -/
/-- two sorted blocks, the first of twenty -/
def Two (K : Int → Int) (L : List Int) : Prop := ∃ S1 S2, L = S1 ++ S2 ∧ S1.length = 20 ∧ 0 < S2.length ∧ Srt K S1 ∧ Srt K S2
/-- the first r blocks are sorted -/
structure Blk (K : Int → Int) (xs : List Int) (N r : Nat) (S R : List Int) : Prop where
  le : 20 * r ≤ N
  len : S.length = 20 * r
  perm : (S ++ R).Perm xs
  one : r = 1 → Srt K S
  two : r = 2 → ∃ S1 S2, S = S1 ++ S2 ∧ S1.length = 20 ∧ S2.length = 20 ∧ Srt K S1 ∧ Srt K S2
theorem Blk.next {K : Int → Int} {xs : List Int} {N r : Nat} {S R W R2 : List Int} (h : Blk K xs N r S R) (hN : N ≤ 40) (hle : 20 * r + 20 ≤ N) (hR : R = R.take 20 ++ R2) (hW : W.Perm (R.take 20)) (hs : Srt K W) (hWl : W.length = 20) : Blk K xs N (r + 1) (S ++ W) R2 := by
  refine ⟨by omega, by rw [List.length_append, h.len, hWl]; omega, ?_, fun e => ?_, fun e => ?_⟩
  · refine List.Perm.trans ?_ h.perm
    rw [List.append_assoc]
    refine List.Perm.append_left S ?_
    conv => rhs; rw [hR]
    exact hW.append_right R2
  · have : S = [] := List.eq_nil_of_length_eq_zero (by rw [h.len]; omega)
    rw [this]; exact hs
  · exact ⟨S, W, rfl, by rw [h.len]; omega, hWl, h.one (by omega), hs⟩
theorem Blk.fin {K : Int → Int} {xs : List Int} {N r : Nat} {S R W : List Int} (h : Blk K xs N r S R) (hN : N ≤ 40) (hx : xs.length = N) (hlt : N < 20 * r + 20) (hW : W.Perm R) (hs : Srt K W) : (S ++ W).Perm xs ∧ ((N ≤ 20 ∧ Srt K (S ++ W)) ∨ (20 < N ∧ Two K (S ++ W))) := by
  have hp : (S ++ W).Perm xs := (List.Perm.append_left S hW).trans h.perm
  refine ⟨hp, ?_⟩
  have hl : S.length + W.length = N := by rw [← List.length_append, hp.length_eq, hx]
  have h1 := h.len
  have h2 := h.le
  rcases (show r = 0 ∨ r = 1 ∨ r = 2 by omega) with e | e | e
  · subst e
    have : S = [] := List.eq_nil_of_length_eq_zero (by omega)
    exact .inl ⟨by omega, by rw [this]; exact hs⟩
  · subst e
    by_cases e0 : N = 20
    · have : W = [] := List.eq_nil_of_length_eq_zero (by omega)
      exact .inl ⟨by omega, by rw [this, List.append_nil]; exact h.one rfl⟩
    · exact .inr ⟨by omega, S, W, rfl, by omega, by omega, h.one rfl, hs⟩
  · subst e
    obtain ⟨S1, S2, q1, q2, q3, q4, q5⟩ := h.two rfl
    have : W = [] := List.eq_nil_of_length_eq_zero (by omega)
    refine .inr ⟨by omega, S1, S2, by rw [this, List.append_nil]; exact q1, q2, by omega, q4, q5⟩
set_option maxRecDepth 100000 in
set_option maxHeartbeats 1600000 in
theorem stable_any (w0 w : World) (base g c N : Nat) (fid : FuncId) (caps : Array Value) (K : Int → Int) (D : Int → Prop) (hc : CmpX w0 g fid caps K D) (hl : N ≤ 40) (xs : List Int) (hs : Sd w0 w base g c xs) (hN : xs.length = N) (hD : ∀ x ∈ xs, D x) :
    Calls Tryz.prog 161 #[.slice (some ⟨g, 0, none⟩) N c, .int .i64 N, .func (.func fid) #[] caps] w fun e w' => e = .returned (.tuple #[]) ∧ ∃ W, Sd w0 w' base g c W ∧ W.Perm xs ∧ Srt K W := by
  have Hc := Lib.hid hc
  have Hs := Lib.hid hs
  have HD := Lib.hid hD
  have HN := Lib.hid hN
  clear hc hs hD hN
  go_enter Tryz.func161, Tryz.ntmps161
  go_wp2
  go_loopw [7, 8] (fun ta tb wr => ∃ (r : Nat) (S R : List Int), ta = .int .i64 ((20 * r : Nat) : Int) ∧ tb = .int .i64 ((20 * r + 20 : Nat) : Int) ∧ Blk K xs N r S R ∧ Sd w0 wr base g c (S ++ R)) (fun ta _ _ => 100 - (intOf ta).toNat)
  case atStart => exact ⟨0, [], xs, rfl, rfl, ⟨by omega, rfl, List.Perm.refl _, fun e => by omega, fun e => by omega⟩, Hs.out⟩
  case round =>
    obtain ⟨r, S, R, rfl, rfl, hB, hs⟩ := hrel
    have hr2 := hB.le
    have HB := Lib.hid hB
    have Hs2 := Lib.hid hs
    clear hB hs
    obtain ⟨a, ha⟩ : ∃ z, z = 20 * r := ⟨_, rfl⟩
    obtain ⟨b, hb⟩ : ∃ z, z = 20 * r + 20 := ⟨_, rfl⟩
    have m1 : IntKind.i64.wrap ((b : Int) + 20) = ((b + 20 : Nat) : Int) := by rw [wr64 _ (by omega) (by omega)]; omega
    obtain ⟨b2, hb2⟩ : ∃ z, z = b + 20 := ⟨_, rfl⟩
    rw [← hb2] at m1
    rw [← hb, ← ha]
    have Hab := Lib.hid (And.intro ha (And.intro hb hb2))
    have haN : a ≤ N := by omega
    clear ha hb hb2 hr2
    have hdn : ∀ x ∈ R, D x := fun x hx => HD.out x ((HB.out.perm.mem_iff).1 (List.mem_append_right _ hx))
    have Hdn := Lib.hid hdn
    have hSR : S.length + R.length = N := by rw [← List.length_append, HB.out.perm.length_eq, HN.out]
    have HSR := Lib.hid hSR
    clear hdn hSR
    by_cases hle : b ≤ N
    · have hleI : ((b : Int) ≤ (N : Int)) = True := by simp; omega
      go_wp2_with fail
      refine (insertion_any w0 wr base g c N fid caps K D Hc.out (by omega) S (R.take 20) (R.drop 20) (S ++ R) a b (by rw [List.take_append_drop]) Hs2.out (by rw [HB.out.perm.length_eq, HN.out]) (by rw [HB.out.len]; exact Hab.out.1.symm) ?_ ?_).mono ?_
      · have h1 := HSR.out
        have h2 := HB.out.len
        have h3 := Hab.out
        rw [List.length_take]; omega
      · intro x hx; exact Hdn.out x (List.mem_of_mem_take hx)
      · rintro e w2 ⟨rfl, W, hsW, hpW, hstW⟩
        have hWl : W.length = 20 := by
          have h1 := HSR.out
          have h2 := HB.out.len
          have h3 := Hab.out
          rw [hpW.length_eq, List.length_take]; omega
        have HB2 := Lib.hid (HB.out.next hl (by have h3 := Hab.out; omega) (List.take_append_drop 20 R).symm hpW hstW hWl)
        have Hs3 : Hid (Sd w0 w2 base g c ((S ++ W) ++ R.drop 20)) := by show Sd _ _ _ _ _ _; rw [List.append_assoc]; exact hsW
        clear hsW hpW hstW hWl
        go_wp2
        go_roundw
        case rel => exact ⟨r + 1, S ++ W, R.drop 20, by have h3 := Hab.out; rw [h3.2.1, show 20 * (r + 1) = 20 * r + 20 by omega], by have h3 := Hab.out; rw [h3.2.2, h3.2.1, show 20 * (r + 1) + 20 = 20 * r + 20 + 20 by omega], HB2.out, Hs3.out⟩
        case measure => have h3 := Hab.out; simp [intOf]; omega
    · have hleI : ((b : Int) ≤ (N : Int)) = False := by simp; omega
      go_wp2_with fail
      refine (insertion_any w0 wr base g c N fid caps K D Hc.out (by omega) S R [] (S ++ R) a N (by rw [List.append_nil]) Hs2.out (by rw [HB.out.perm.length_eq, HN.out]) (by rw [HB.out.len]; exact Hab.out.1.symm) ?_ Hdn.out).mono ?_
      · have h1 := HSR.out
        have h2 := HB.out.len
        have h3 := Hab.out
        omega
      · rintro e w2 ⟨rfl, W, hsW, hpW, hstW⟩
        obtain ⟨f1, f2⟩ := HB.out.fin hl HN.out (by have h3 := Hab.out; omega) hpW hstW
        rw [List.append_nil] at hsW
        obtain ⟨L, hL⟩ : ∃ z, z = S ++ W := ⟨_, rfl⟩
        rw [← hL] at f1 f2 hsW
        have Hf := Lib.hid (And.intro f1 (And.intro f2 hsW))
        clear f1 f2 hsW hL hpW hstW
        obtain ⟨wq, rfl⟩ : ∃ z, z = w2 := ⟨_, rfl⟩
        go_wp2
        go_loopw [6, 7, 8, 9] (fun t6 _ _ _ wr => (t6 = .int .i64 20 ∧ ∃ L, L.Perm xs ∧ ((N ≤ 20 ∧ Srt K L) ∨ (20 < N ∧ Two K L)) ∧ Sd w0 wr base g c L) ∨ (t6 = .int .i64 40 ∧ ∃ L, L.Perm xs ∧ Srt K L ∧ Sd w0 wr base g c L)) (fun t6 _ _ _ _ => 50 - (intOf t6).toNat)
        case atStart => exact .inl ⟨rfl, L, Hf.out.1, Hf.out.2.1, Hf.out.2.2⟩
        case round =>
          rcases hrel with ⟨rfl, L1, p1, (⟨q1, q2⟩ | ⟨q1, S1, S2, q2, q3, q4, q5, q6⟩), q7⟩ | ⟨rfl, L1, p1, q2, q7⟩
          · have Hq := Lib.hid (And.intro p1 (And.intro q2 q7))
            have hng : ¬ (20 : Int) < (N : Int) := by omega
            clear p1 q2 q7
            go_wp2
            go_end0
            exact ⟨rfl, L1, Hq.out.2.2, Hq.out.1, Hq.out.2.1⟩
          · have Hq := Lib.hid (And.intro p1 (And.intro q2 (And.intro q3 (And.intro q4 (And.intro q5 (And.intro q6 q7))))))
            have hng : (20 : Int) < (N : Int) := by omega
            have h2l : 20 + S2.length = N := by rw [← HN.out, ← p1.length_eq, q2, List.length_append, q3]
            have H2l := Lib.hid h2l
            have hDD : ∀ x ∈ S1 ++ S2, D x := fun x hx => HD.out x (p1.mem_iff.1 (by rw [q2]; exact hx))
            have HDD := Lib.hid hDD
            clear p1 q2 q3 q4 q5 q6 q7 h2l hDD
            obtain ⟨wv, rfl⟩ : ∃ z, z = wr := ⟨_, rfl⟩
            have key : ∀ (W0 : World), Sd w0 W0 base g c L1 → Calls Tryz.prog 178 #[.slice (some ⟨g, 0, none⟩) N c, .int .i64 0, .int .i64 20, .int .i64 N, .func (.func fid) #[] caps] W0 fun e w' => e = .returned (.tuple #[]) ∧ ∃ W, Sd w0 w' base g c W ∧ W.Perm xs ∧ Srt K W := fun W0 h0 => by
              have h9 := symMerge_any w0 base g c N fid caps K D Hc.out.on (by omega) (S1.length + S2.length) [] S1 S2 [] L1 0 20 N W0 (by rw [Hq.out.2.1]; simp) h0 (by rw [Hq.out.1.length_eq, HN.out]) rfl (by rw [Hq.out.2.2.1]) H2l.out (by rw [Hq.out.2.2.1]; omega) Hq.out.2.2.2.1 Hq.out.2.2.2.2.1 Hq.out.2.2.2.2.2.1 HDD.out (Nat.le_refl _)
              refine h9.mono ?_
              rintro e w' ⟨rfl, W, z1, z2, z3⟩
              exact ⟨rfl, W, by simpa using z1, by rw [← Hq.out.2.1] at z2; exact z2.trans Hq.out.1, z3⟩
            have Hkey := Lib.hid key
            clear key
            have hq7 : Hid (Sd w0 wv base g c L1) := Hq.out.2.2.2.2.2.2
            go_wp2
            go_loopw [7, 8] (fun ta tb wr => (ta = .int .i64 0 ∧ tb = .int .i64 40 ∧ Sd w0 wr base g c L1) ∨ (N = 40 ∧ ta = .int .i64 40 ∧ tb = .int .i64 80 ∧ ∃ W, Sd w0 wr base g c W ∧ W.Perm xs ∧ Srt K W)) (fun _ tb _ => 100 - (intOf tb).toNat)
            case atStart => exact .inl ⟨rfl, rfl, hq7.out⟩
            case round =>
              rcases hrel with ⟨rfl, rfl, hs⟩ | ⟨hN40, rfl, rfl, W, z1, z2, z3⟩
              · have Hs5 := Lib.hid hs
                clear hs
                by_cases h40 : N = 40
                · have h41 : (40 : Int) ≤ (N : Int) := by omega
                  have h42 : 40 ≤ N := by omega
                  have hk := Hkey.out wr Hs5.out
                  rw [show ((N : Nat) : Int) = 40 by omega] at hk
                  have Hk := Lib.hid hk
                  have H40 := Lib.hid h40
                  clear hk h40
                  go_wp2_with fail
                  refine Hk.out.mono ?_
                  rintro e w3 ⟨rfl, W, z1, z2, z3⟩
                  have Hz := Lib.hid (And.intro z1 (And.intro z2 z3))
                  clear z1 z2 z3
                  go_wp2
                  go_roundw
                  case rel => exact .inr ⟨H40.out, by first | rfl | go_num, by first | rfl | go_num, W, Hz.out⟩
                  case measure => simp [intOf]
                · have h41 : ¬ (40 : Int) ≤ (N : Int) := by omega
                  have h42 : N < 40 := by omega
                  go_wp2_with fail
                  refine (Hkey.out wr Hs5.out).mono ?_
                  rintro e w3 ⟨rfl, W, z1, z2, z3⟩
                  have Hz := Lib.hid (And.intro z1 (And.intro z2 z3))
                  clear z1 z2 z3
                  go_wp2
                  go_roundw
                  case rel => exact .inr ⟨by first | rfl | go_num, W, Hz.out.2.1, Hz.out.2.2, Hz.out.1⟩
                  case measure => simp [intOf]
              · have Hz := Lib.hid (And.intro z1 (And.intro z2 z3))
                clear z1 z2 z3
                have h81 : ¬ (80 : Int) ≤ (N : Int) := by omega
                have h82 : N < 80 := by omega
                have h61 : ¬ (60 : Int) < (N : Int) := by omega
                have h62 : N ≤ 60 := by omega
                clear hN40
                go_wp2
                go_roundw
                case rel => exact .inr ⟨by first | rfl | go_num, W, Hz.out.2.1, Hz.out.2.2, Hz.out.1⟩
                case measure => simp [intOf]
          · have Hq := Lib.hid (And.intro p1 (And.intro q2 q7))
            have hng : ¬ (40 : Int) < (N : Int) := by omega
            clear p1 q2 q7
            go_wp2
            go_end0
            exact ⟨rfl, L1, Hq.out.2.2, Hq.out.1, Hq.out.2.1⟩
end Go.Proofs.YtfkmkpamdlhbgaaGreat
namespace Go.Proofs.YtfkmkpamdlhbgaaGreat
open Go.RowKit
/-! upwards -/
set_option maxRecDepth 100000 in
set_option maxHeartbeats 1600000 in
theorem sortStable_any (w0 w : World) (base g c N : Nat) (fid : FuncId) (caps : Array Value) (K : Int → Int) (D : Int → Prop) (hc : CmpX w0 g fid caps K D) (hl : N ≤ 40) (xs : List Int) (hs : Sd w0 w base g c xs) (hN : xs.length = N) (hD : ∀ x ∈ xs, D x) :
    Calls Tryz.prog 146 #[.slice (some ⟨g, 0, none⟩) N c, .func (.func fid) #[] caps] w fun e w' => e = .returned (.tuple #[]) ∧ ∃ W, Sd w0 w' base g c W ∧ W.Perm xs ∧ Srt K W := by
  have Hs := Lib.hid (stable_any w0 w base g c N fid caps K D hc hl xs hs hN hD)
  clear hc hs hD hN
  go_enter Tryz.func146, Tryz.ntmps146
  go_wp2_with fail
  refine Hs.out.mono ?_
  rintro e w1 ⟨rfl, W, z1, z2, z3⟩
  have Hz := Lib.hid (And.intro z1 (And.intro z2 z3))
  clear z1 z2 z3
  go_wp2
  go_end0
  exact ⟨rfl, W, Hz.out⟩
theorem up1_enters : ∀ args w, (callFunc 147 args).run Tryz.prog w = .ok (.enter 147 args) w := enters_of Tryz.func147 (by kernel_rfl) rfl
theorem up1_any (x y p q : Int) (b gb off n c : Nat) (w : World) (hx : 0 ≤ x ∧ x < n) (hy : 0 ≤ y ∧ y < n) (hc : w.cell? ⟨b, 0, none⟩ = some (.slice (some ⟨gb, off, none⟩) n c)) (h1 : w.cell? ⟨gb, off + x.toNat, none⟩ = some (.int .i64 p)) (h2 : w.cell? ⟨gb, off + y.toNat, none⟩ = some (.int .i64 q)) (hp : -1000 ≤ p ∧ p ≤ 1000) (hq : -1000 ≤ q ∧ q ≤ 1000) :
    Calls Tryz.prog 147 #[.int .i64 x, .int .i64 y, .pointer (some ⟨b, 0, none⟩)] w fun e w' => e = .returned (.int .i64 (q - p)) ∧ Below w.heap.size w w' := by
  obtain ⟨a, rfl⟩ := Int.eq_ofNat_of_zero_le hx.1
  obtain ⟨d, rfl⟩ := Int.eq_ofNat_of_zero_le hy.1
  rw [Int.toNat_natCast] at h1 h2
  have ha : a < n := by omega
  have hd : d < n := by omega
  have m1 : IntKind.i64.wrap (q - p) = q - p := wr64 _ (by omega) (by omega)
  clear hx hy hp hq
  go_enter Tryz.func147, Tryz.ntmps147
  go_wp2_with fail
  go_region
  go_wp2
  go_ret
  exact ⟨rfl, (since_drew (since_refl _)).below⟩
theorem upto_mem {n : Nat} {x : Int} (h : x ∈ upto n) : 0 ≤ x ∧ x < (n : Int) := by
  unfold upto at h
  obtain ⟨k, hk, rfl⟩ := List.mem_map.1 h
  have := List.mem_range.1 hk
  show 0 ≤ (k : Int) ∧ (k : Int) < n
  omega
set_option maxRecDepth 100000 in
set_option maxHeartbeats 1600000 in
theorem upwards_any (v : Value) (ds : List Int) (w : World) (h : IntS w v ds) (hn1 : 1 ≤ ds.length) (hn : ds.length ≤ 40) (hb : ∀ x ∈ ds, -1000 ≤ x ∧ x ≤ 1000) :
    Calls Tryz.prog 103 #[v] w fun e w' => ∃ u l, e = .returned u ∧ Own w' w.heap.size u l ∧ l.Perm (upto ds.length) ∧ l.Pairwise (fun x y => ds.getD y.toNat 0 ≤ ds.getD x.toNat 0) ∧ Below w.heap.size w w' := by
  obtain ⟨AL, cL, rfl, hlL, hmL, hA⟩ := id h
  have HA := Lib.hid hA
  have Hbd := Lib.hid hb
  have Hh := Lib.hid h
  clear hA hb h
  obtain ⟨w0, hw0⟩ : ∃ w0, w0 = (w).alloc (.cells #[.slice AL ds.length cL] 25) := ⟨_, rfl⟩
  have hb0 : Below w.heap.size w w0 := by rw [hw0]; exact ((Below.refl _ _).alloc (by simp) _)
  have p00 : ∀ W, Since w0 W → W.cell? ⟨w.heap.size, 0, none⟩ = some (.slice AL ds.length cL) := have_cell (by rw [hw0]; simp)
  have Hb0 := Lib.hid hb0
  have Hw0 := Lib.hid hw0
  clear hb0 hw0
  have HAb : Hid (∀ (k : Nat), k < ds.length → ∃ b off, AL = some ⟨b, off, none⟩ ∧ b < w.heap.size ∧ w0.cell? ⟨b, off + k, none⟩ = some (.int .i64 (ds.getD k 0))) := fun k hk => by
    obtain ⟨b, off, e, hc⟩ := HA.out k (ds.getD k 0) (by rw [List.getD_eq_getElem?_getD, List.getElem?_eq_getElem hk]; rfl)
    exact ⟨b, off, e, cell_lt hc, have_cell hc w0 Hb0.out⟩
  clear HA Hh
  go_enter Tryz.func103, Tryz.ntmps103
  go_upto_region 1 with (fail)
  rw [← Hw0.out]
  have hs0 : Since w0 w0 := since_refl _
  have q0 := p00 w0 hs0
  go_wp2_with fail
  refine (numbersTo_any ds.length (by omega) w0).mono ?_
  rintro e w1 ⟨u, rfl, ho, hb1⟩
  have hw0 : w0.heap.size = w.heap.size + 1 := by rw [Hw0.out]; simp
  have hs1 : Since w0 w1 := hb1
  rcases ho.cases with ⟨-, h2⟩ | ⟨g, c, hv, hg1, hg2⟩
  · exfalso
    have h3 : ds.length = 0 := by rw [← upto_len ds.length, h2]; rfl
    omega
  rw [upto_len] at hv
  subst hv
  have hsd : Sd w1 w1 w0.heap.size g c (upto ds.length) := ⟨by rw [upto_len]; exact ho, Only.refl _ _⟩
  have hcx : CmpX w1 g 147 #[.pointer (some ⟨w.heap.size, 0, none⟩)] (fun x => - ds.getD x.toNat 0) (fun x => 0 ≤ x ∧ x < (ds.length : Int)) := by
    refine ⟨fun x y hx hy W hW => ?_, up1_enters⟩
    obtain ⟨b, off, e1, hbl, c1⟩ := HAb.out x.toNat (by omega)
    obtain ⟨b', off', e2, hbl', c2⟩ := HAb.out y.toNat (by omega)
    rw [e1] at e2
    cases e2
    have d0 : W.cell? ⟨w.heap.size, 0, none⟩ = some (.slice (some ⟨b, off, none⟩) ds.length cL) := by
      have h9 := p00 w1 hs1
      rw [e1] at h9
      exact hW.cell (by simp; omega) h9
    have d1 := hW.cell (p := ⟨b, off + x.toNat, none⟩) (by simp; omega) (have_cell c1 w1 hs1)
    have d2 := hW.cell (p := ⟨b, off + y.toNat, none⟩) (by simp; omega) (have_cell c2 w1 hs1)
    have hxm := Hbd.out (ds.getD x.toNat 0) (getD_mem0 (by omega))
    have hym := Hbd.out (ds.getD y.toNat 0) (getD_mem0 (by omega))
    refine (up1_any x y _ _ w.heap.size b off ds.length cL W hx hy d0 d1 d2 hxm hym).mono ?_
    rintro e w' ⟨rfl, hb9⟩
    refine ⟨?_, hb9⟩
    rw [show ds.getD y.toNat 0 - ds.getD x.toNat 0 = - ds.getD x.toNat 0 - - ds.getD y.toNat 0 by omega]
  have hss := sortStable_any w1 w1 w0.heap.size g c ds.length _ _ _ _ hcx hn (upto ds.length) hsd (upto_len _) (fun x hx => upto_mem hx)
  have Hss := Lib.hid hss
  have Hg := Lib.hid (And.intro hg1 hg2)
  have Hs1 := Lib.hid hs1
  have Hz0 := Lib.hid hw0
  clear hsd hcx hss ho hb1 hg1 hg2 hs1 hs0 q0 hw0
  go_wp2_with fail
  refine Hss.out.mono ?_
  rintro e w2 ⟨rfl, W, z1, z2, z3⟩
  have Hz := Lib.hid (And.intro z1 (And.intro z2 z3))
  clear z1 z2 z3
  go_wp2
  go_ret
  obtain ⟨z1, z2, z3⟩ := Hz.out
  refine ⟨_, W, rfl, ?_, z2, ?_, ?_⟩
  · have h9 := z1.own
    rw [z2.length_eq, upto_len] at h9
    exact h9.mono (by have := Hz0.out; omega)
  · exact z3.imp (fun {x y} h9 => by have h8 : - ds.getD x.toNat 0 ≤ - ds.getD y.toNat 0 := h9; omega)
  · have h9 : Below w.heap.size w1 w2 := z1.only.below w.heap.size (by have := Hs1.out.below.size; have := Hz0.out; omega) (fun k hk => by have := Hg.out; have := Hz0.out; simp at hk; omega)
    exact Below.trans (Since.after Hb0.out Hs1.out).below h9
end Go.Proofs.YtfkmkpamdlhbgaaGreat
namespace Go.Proofs.YtfkmkpamdlhbgaaGreat
open Go.RowKit
/-! the closures of evenLabels -/
theorem ev1_enters : ∀ args w, (callFunc 104 args).run Tryz.prog w = .ok (.enter 104 args) w := enters_of Tryz.func104 (by kernel_rfl) rfl
theorem ev2_enters : ∀ args w, (callFunc 105 args).run Tryz.prog w = .ok (.enter 105 args) w := enters_of Tryz.func105 (by kernel_rfl) rfl
theorem evl1_any (x : Int) (w : World) : Calls Tryz.prog 104 #[.int .i64 x] w fun e w' => e = .returned (.int .i64 x) ∧ Below w.heap.size w w' := by
  go_enter Tryz.func104, Tryz.ntmps104
  go_wp2
  go_ret
  exact ⟨rfl, Below.refl _ _⟩
def lab9 (tw : Int) : Int := if tw < 0 then 9 else tw
set_option maxRecDepth 100000 in
set_option maxHeartbeats 1600000 in
theorem evl2_any (v r N L bp b0 bs gp cp bI oI cI gs cs : Nat) (d tw idr sz : Int) (w : World) (hv : v < N) (hr : r < L)
    (h1 : w.cell? ⟨bp, 0, none⟩ = some (.slice (some ⟨gp, 0, none⟩) N cp)) (h2 : w.cell? ⟨gp, v, none⟩ = some (.int .i64 tw))
    (h3 : w.cell? ⟨b0, 1, none⟩ = some (.slice (some ⟨bI, oI, none⟩) L cI)) (h4 : w.cell? ⟨bI, oI + r, none⟩ = some (.int .i64 idr))
    (h5 : w.cell? ⟨bs, 0, none⟩ = some (.slice (some ⟨gs, 0, none⟩) N cs)) (h6 : w.cell? ⟨gs, v, none⟩ = some (.int .i64 sz))
    (hi : 1 ≤ idr ∧ idr ≤ 999999) (hd : 0 ≤ d ∧ d ≤ 100) (ht : -1 ≤ tw ∧ tw ≤ 10) (hz : 0 ≤ sz ∧ sz ≤ 1000) :
    Calls Tryz.prog 105 #[.int .i64 v, .int .i64 r, .int .i64 d, .pointer (some ⟨bp, 0, none⟩), .pointer (some ⟨b0, 0, none⟩), .pointer (some ⟨bs, 0, none⟩)] w fun e w' => e = .returned (.int .i64 (((idr * 100 + d) * 10 + lab9 tw) * 2 + sz % 2)) ∧ Below w.heap.size w w' := by
  have p1 := have_cell h1
  have p2 := have_cell h2
  have p3 := have_cell h3
  have p4 := have_cell h4
  have p5 := have_cell h5
  have p6 := have_cell h6
  have a1 : IntKind.i64.wrap (idr * 100) = idr * 100 := wr64 _ (by omega) (by omega)
  have a2 : IntKind.i64.wrap (idr * 100 + d) = idr * 100 + d := wr64 _ (by omega) (by omega)
  have a3 : IntKind.i64.wrap ((idr * 100 + d) * 10) = (idr * 100 + d) * 10 := wr64 _ (by omega) (by omega)
  have hq : 0 ≤ lab9 tw ∧ lab9 tw ≤ 10 := by unfold lab9; split <;> omega
  obtain ⟨q, hqe⟩ : ∃ z, z = lab9 tw := ⟨_, rfl⟩
  rw [← hqe] at hq ⊢
  have a4 : IntKind.i64.wrap ((idr * 100 + d) * 10 + q) = (idr * 100 + d) * 10 + q := wr64 _ (by omega) (by omega)
  have a5 : IntKind.i64.wrap (((idr * 100 + d) * 10 + q) * 2) = ((idr * 100 + d) * 10 + q) * 2 := wr64 _ (by omega) (by omega)
  have t1 : sz.tmod 2 = sz % 2 := Int.tmod_eq_emod_of_nonneg hz.1
  obtain ⟨sm, hsm⟩ : ∃ z, z = sz % 2 := ⟨_, rfl⟩
  have hsb : 0 ≤ sm ∧ sm ≤ 1 := by omega
  rw [← hsm] at t1 ⊢
  have t2 : sz % 2 = sm := hsm.symm
  have t3 : IntKind.i64.wrap sm = sm := wr64 _ (by omega) (by omega)
  have a6 : IntKind.i64.wrap (((idr * 100 + d) * 10 + q) * 2 + sm) = ((idr * 100 + d) * 10 + q) * 2 + sm := wr64 _ (by omega) (by omega)
  have Hqe := Lib.hid hqe
  clear h3 h4 h5 h6 hi hd ht hz hq hsb hsm hqe
  go_enter Tryz.func105, Tryz.ntmps105
  by_cases hneg : tw < 0
  · have hq9 : q = 9 := by rw [Hqe.out]; exact if_pos hneg
    subst hq9
    go_upto_region 4 with (fail)
    clear h1 h2
    refine wp_region_flow 18 (Since w) (by kernel_rfl) (by kernel_rfl) (by simp) (since_drew (since_refl _)) ?_
    simp only [List.take_succ_cons, List.take_zero, List.drop_succ_cons, List.drop_zero]
    refine flow_val (v := ?_) rfl ?_ ?_; rotate_left; (intro W hW; go_simp; with_reducible rfl)
    simp only [Act.put, List.setIfInBounds_toArray, List.set_cons_succ, List.set_cons_zero]
    refine flow_val (v := ?_) rfl ?_ ?_; rotate_left; (intro W hW; have k1 := p3 W hW; go_simp; with_reducible rfl)
    simp only [Act.put, List.setIfInBounds_toArray, List.set_cons_succ, List.set_cons_zero]
    refine flow_val (v := ?_) rfl ?_ ?_; rotate_left; (intro W hW; go_simp; with_reducible rfl)
    simp only [Act.put, List.setIfInBounds_toArray, List.set_cons_succ, List.set_cons_zero]
    refine flow_val (v := ?_) rfl ?_ ?_; rotate_left; (intro W hW; go_simp; with_reducible rfl)
    simp only [Act.put, List.setIfInBounds_toArray, List.set_cons_succ, List.set_cons_zero]
    refine flow_val (v := ?_) rfl ?_ ?_; rotate_left; (intro W hW; have k1 := p4 W hW; go_simp; with_reducible rfl)
    simp only [Act.put, List.setIfInBounds_toArray, List.set_cons_succ, List.set_cons_zero]
    refine flow_val (v := ?_) rfl ?_ ?_; rotate_left; (intro W hW; go_simp; with_reducible rfl)
    simp only [Act.put, List.setIfInBounds_toArray, List.set_cons_succ, List.set_cons_zero]
    refine flow_val (v := ?_) rfl ?_ ?_; rotate_left; (intro W hW; go_simp; with_reducible rfl)
    simp only [Act.put, List.setIfInBounds_toArray, List.set_cons_succ, List.set_cons_zero]
    refine flow_val (v := ?_) rfl ?_ ?_; rotate_left; (intro W hW; go_simp; with_reducible rfl)
    simp only [Act.put, List.setIfInBounds_toArray, List.set_cons_succ, List.set_cons_zero]
    refine flow_val (v := ?_) rfl ?_ ?_; rotate_left; (intro W hW; go_simp; with_reducible rfl)
    simp only [Act.put, List.setIfInBounds_toArray, List.set_cons_succ, List.set_cons_zero]
    refine flow_val (v := ?_) rfl ?_ ?_; rotate_left; (intro W hW; go_simp; with_reducible rfl)
    simp only [Act.put, List.setIfInBounds_toArray, List.set_cons_succ, List.set_cons_zero]
    refine flow_val (v := ?_) rfl ?_ ?_; rotate_left; (intro W hW; go_simp; with_reducible rfl)
    simp only [Act.put, List.setIfInBounds_toArray, List.set_cons_succ, List.set_cons_zero]
    refine flow_val (v := ?_) rfl ?_ ?_; rotate_left; (intro W hW; go_simp; with_reducible rfl)
    simp only [Act.put, List.setIfInBounds_toArray, List.set_cons_succ, List.set_cons_zero]
    refine flow_val (v := ?_) rfl ?_ ?_; rotate_left; (intro W hW; have k1 := p5 W hW; go_simp; with_reducible rfl)
    simp only [Act.put, List.setIfInBounds_toArray, List.set_cons_succ, List.set_cons_zero]
    refine flow_val (v := ?_) rfl ?_ ?_; rotate_left; (intro W hW; go_simp; with_reducible rfl)
    simp only [Act.put, List.setIfInBounds_toArray, List.set_cons_succ, List.set_cons_zero]
    refine flow_val (v := ?_) rfl ?_ ?_; rotate_left; (intro W hW; go_simp; with_reducible rfl)
    simp only [Act.put, List.setIfInBounds_toArray, List.set_cons_succ, List.set_cons_zero]
    refine flow_val (v := ?_) rfl ?_ ?_; rotate_left; (intro W hW; have k1 := p6 W hW; go_simp; with_reducible rfl)
    simp only [Act.put, List.setIfInBounds_toArray, List.set_cons_succ, List.set_cons_zero]
    refine flow_val (v := ?_) rfl ?_ ?_; rotate_left; (intro W hW; go_simp; with_reducible rfl)
    simp only [Act.put, List.setIfInBounds_toArray, List.set_cons_succ, List.set_cons_zero]
    refine flow_val (v := ?_) rfl ?_ ?_; rotate_left; (intro W hW; go_simp; with_reducible rfl)
    simp only [Act.put, List.setIfInBounds_toArray, List.set_cons_succ, List.set_cons_zero]
    intro W hW
    have HW := Lib.hid hW
    clear hW p1 p2 p3 p4 p5 p6
    go_wp2
    go_ret
    exact ⟨rfl, HW.out⟩
  · have hq9 : q = tw := by rw [Hqe.out]; exact if_neg hneg
    subst hq9
    go_upto_region 4 with (fail)
    clear h1 h2
    refine wp_region_flow 18 (Since w) (by kernel_rfl) (by kernel_rfl) (by simp) (since_drew (since_refl _)) ?_
    simp only [List.take_succ_cons, List.take_zero, List.drop_succ_cons, List.drop_zero]
    refine flow_val (v := ?_) rfl ?_ ?_; rotate_left; (intro W hW; go_simp; with_reducible rfl)
    simp only [Act.put, List.setIfInBounds_toArray, List.set_cons_succ, List.set_cons_zero]
    refine flow_val (v := ?_) rfl ?_ ?_; rotate_left; (intro W hW; have k1 := p3 W hW; go_simp; with_reducible rfl)
    simp only [Act.put, List.setIfInBounds_toArray, List.set_cons_succ, List.set_cons_zero]
    refine flow_val (v := ?_) rfl ?_ ?_; rotate_left; (intro W hW; go_simp; with_reducible rfl)
    simp only [Act.put, List.setIfInBounds_toArray, List.set_cons_succ, List.set_cons_zero]
    refine flow_val (v := ?_) rfl ?_ ?_; rotate_left; (intro W hW; go_simp; with_reducible rfl)
    simp only [Act.put, List.setIfInBounds_toArray, List.set_cons_succ, List.set_cons_zero]
    refine flow_val (v := ?_) rfl ?_ ?_; rotate_left; (intro W hW; have k1 := p4 W hW; go_simp; with_reducible rfl)
    simp only [Act.put, List.setIfInBounds_toArray, List.set_cons_succ, List.set_cons_zero]
    refine flow_val (v := ?_) rfl ?_ ?_; rotate_left; (intro W hW; go_simp; with_reducible rfl)
    simp only [Act.put, List.setIfInBounds_toArray, List.set_cons_succ, List.set_cons_zero]
    refine flow_val (v := ?_) rfl ?_ ?_; rotate_left; (intro W hW; go_simp; with_reducible rfl)
    simp only [Act.put, List.setIfInBounds_toArray, List.set_cons_succ, List.set_cons_zero]
    refine flow_val (v := ?_) rfl ?_ ?_; rotate_left; (intro W hW; go_simp; with_reducible rfl)
    simp only [Act.put, List.setIfInBounds_toArray, List.set_cons_succ, List.set_cons_zero]
    refine flow_val (v := ?_) rfl ?_ ?_; rotate_left; (intro W hW; go_simp; with_reducible rfl)
    simp only [Act.put, List.setIfInBounds_toArray, List.set_cons_succ, List.set_cons_zero]
    refine flow_val (v := ?_) rfl ?_ ?_; rotate_left; (intro W hW; go_simp; with_reducible rfl)
    simp only [Act.put, List.setIfInBounds_toArray, List.set_cons_succ, List.set_cons_zero]
    refine flow_val (v := ?_) rfl ?_ ?_; rotate_left; (intro W hW; go_simp; with_reducible rfl)
    simp only [Act.put, List.setIfInBounds_toArray, List.set_cons_succ, List.set_cons_zero]
    refine flow_val (v := ?_) rfl ?_ ?_; rotate_left; (intro W hW; go_simp; with_reducible rfl)
    simp only [Act.put, List.setIfInBounds_toArray, List.set_cons_succ, List.set_cons_zero]
    refine flow_val (v := ?_) rfl ?_ ?_; rotate_left; (intro W hW; have k1 := p5 W hW; go_simp; with_reducible rfl)
    simp only [Act.put, List.setIfInBounds_toArray, List.set_cons_succ, List.set_cons_zero]
    refine flow_val (v := ?_) rfl ?_ ?_; rotate_left; (intro W hW; go_simp; with_reducible rfl)
    simp only [Act.put, List.setIfInBounds_toArray, List.set_cons_succ, List.set_cons_zero]
    refine flow_val (v := ?_) rfl ?_ ?_; rotate_left; (intro W hW; go_simp; with_reducible rfl)
    simp only [Act.put, List.setIfInBounds_toArray, List.set_cons_succ, List.set_cons_zero]
    refine flow_val (v := ?_) rfl ?_ ?_; rotate_left; (intro W hW; have k1 := p6 W hW; go_simp; with_reducible rfl)
    simp only [Act.put, List.setIfInBounds_toArray, List.set_cons_succ, List.set_cons_zero]
    refine flow_val (v := ?_) rfl ?_ ?_; rotate_left; (intro W hW; go_simp; with_reducible rfl)
    simp only [Act.put, List.setIfInBounds_toArray, List.set_cons_succ, List.set_cons_zero]
    refine flow_val (v := ?_) rfl ?_ ?_; rotate_left; (intro W hW; go_simp; with_reducible rfl)
    simp only [Act.put, List.setIfInBounds_toArray, List.set_cons_succ, List.set_cons_zero]
    intro W hW
    have HW := Lib.hid hW
    clear hW p1 p2 p3 p4 p5 p6
    go_wp2
    go_ret
    exact ⟨rfl, HW.out⟩
end Go.Proofs.YtfkmkpamdlhbgaaGreat
namespace Go.Proofs.YtfkmkpamdlhbgaaGreat
open Go.RowKit
/-! evenLabels: the label of one node -/
theorem szs_bd {N : Nat} {dep : Nat → Int} {par : Nat → Option Nat} {D : List Nat} {s : List Int} (h : Szs N dep par D s) {x : Nat} (hx : x < N) : 0 ≤ s.getD x 0 ∧ s.getD x 0 ≤ N := by
  rw [h.val x hx]
  have := List.countP_le_length (p := fun w => ancD dep par D w x) (l := List.range N)
  rw [List.length_range] at this
  omega
theorem ptB_bd {n : Net} (hn : netOk n = true) (h0 : n.ids.length ≠ 0) {v : Nat} (hv : v < n.ends.length) : -1 ≤ ptB n v ∧ ptB n v ≤ 10 := by
  have h6 := (evLab_parts hn h0 hv).2.2.2.2.2.2
  have h5 : -1 ≤ ptB n v := by
    unfold ptB
    rcases towB_cases n (leastB n v) v with ⟨h3, -⟩ | ⟨q, h3, -⟩ <;> omega
  by_cases h7 : 0 ≤ ptB n v
  · have := h6 h7; omega
  · omega
theorem ev_small {N : Nat} {d t z : Int} (hN : N ≤ 40) (hd : d < (N : Int)) (hd0 : 0 ≤ d) (hz : 0 ≤ z ∧ z ≤ (N : Int)) : (0 ≤ d ∧ d ≤ 100) ∧ (0 ≤ z ∧ z ≤ 1000) := by omega
theorem evF_any {n : Net} (hn : netOk n = true) (h0 : n.ids.length ≠ 0) (hN : n.ends.length ≤ 40) {ln : List Nat} {s : List Int} (hsz : Szs n.ends.length (depB n) (parB n) ln s) (hlp : ln.Perm (List.range n.ends.length))
    {bp b0 bs gp cp gs cs B1 B2 : Nat} {vi : Value} {wr : World} (hi : IntS wr vi n.ids)
    (hbp : ∀ W, Since wr W → W.cell? ⟨bp, 0, none⟩ = some (.slice (some ⟨gp, 0, none⟩) n.ends.length cp)) (hP : Own wr B1 (.slice (some ⟨gp, 0, none⟩) n.ends.length cp) ((List.range n.ends.length).map (ptB n)))
    (h1 : ∀ W, Since wr W → W.cell? ⟨b0, 1, none⟩ = some vi)
    (hbs : ∀ W, Since wr W → W.cell? ⟨bs, 0, none⟩ = some (.slice (some ⟨gs, 0, none⟩) n.ends.length cs)) (hS : Own wr B2 (.slice (some ⟨gs, 0, none⟩) n.ends.length cs) s)
    {v : Nat} (hv : v < n.ends.length) {W : World} (hW : Since wr W) :
    Calls Tryz.prog 105 (#[.int .i64 v, .int .i64 (leastB n v), .int .i64 (distI n (leastB n v) v)] ++ #[.pointer (some ⟨bp, 0, none⟩), .pointer (some ⟨b0, 0, none⟩), .pointer (some ⟨bs, 0, none⟩)]) W fun e w' => e = .returned (.int .i64 (evLab n v)) ∧ Below W.heap.size W w' := by
  have hrid := id_rng hn h0
  have hlN := least_lt hn hv
  have hrl : leastB n v < n.ids.length := by rw [hrid.1]; exact hlN
  obtain ⟨bI, oI, cI, hAI, hcI⟩ := ids_cell hi hrl
  subst hAI
  have cv := (Own.since hP hW).cell (k := v) (x := ptB n v) (by rw [List.getElem?_map, List.getElem?_range hv]; rfl)
  have hsl := hsz.len
  have cs1 := (Own.since hS hW).cell (k := v) (x := s.getD v 0) (by rw [List.getD_eq_getElem?_getD, List.getElem?_eq_getElem (by rw [hsl]; exact hv)]; rfl)
  have hall : ∀ c, c < n.ends.length → c ∈ ln := fun c hc => (hlp.mem_iff).2 (List.mem_range.2 hc)
  have hlt2 : ∀ c ∈ ln, c < n.ends.length := fun c hc => List.mem_range.1 ((hlp.mem_iff).1 hc)
  have hown := hsz.own (trB hn) hv (fun c hc _ => hall c hc) hlt2
  have hbd := szs_bd hsz hv
  have hpt := ptB_bd hn h0 hv
  have hdp : 0 ≤ distI n (leastB n v) v := (trB hn).pos v hv
  have hdb := (distI_b hn hlN hv).2
  obtain ⟨e1, e2⟩ := ev_small (t := 0) hN hdb hdp hbd
  refine (evl2_any v (leastB n v) n.ends.length n.ids.length bp b0 bs gp cp bI oI cI gs cs (distI n (leastB n v) v) (ptB n v) (n.ids.getD (leastB n v) 0) (s.getD v 0) W hv hrl (hbp W hW) cv (h1 W hW) (hcI W hW) (hbs W hW) cs1 (hrid.2 _ hlN) e1 hpt e2).mono ?_
  rintro e w' ⟨rfl, hb⟩
  refine ⟨?_, hb⟩
  rw [hown]
  rfl
end Go.Proofs.YtfkmkpamdlhbgaaGreat
