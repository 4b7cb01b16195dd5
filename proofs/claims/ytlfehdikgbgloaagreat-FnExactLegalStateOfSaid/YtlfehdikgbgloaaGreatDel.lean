import Derived.Test.YtlfehdikgbgloaaGreatNear
import Derived.Lib.SliceRun
namespace Go.Proofs.YtlfehdikgbgloaaGreat
open Go.RowKit
theorem Own.cut {w : World} {base g n c : Nat} {xs : List Int} (h : Own w base (.slice (some ⟨g, 0, none⟩) n c) xs) (i : Nat) (hi : i ≤ n) : Own w base (.slice (some ⟨g, 0, none⟩) i c) (xs.take i) := by
  obtain rfl := h.len
  unfold Own at *
  have hl : (xs.take i).length = i := by simp; omega
  rw [hl]
  rcases h.2 with ⟨h', _⟩ | ⟨g', cap, cur, h', hb, hg, hnc, hm, hcs, htake⟩
  · simp at h'
  · simp only [Value.slice.injEq, Option.some.injEq, Addr.mk.injEq, and_true, true_and] at h'
    obtain ⟨rfl, rfl, rfl⟩ := h'
    refine ⟨by simp; omega, .inr ⟨g, c, cur, rfl, hb, hg, by omega, hm, hcs, ?_⟩⟩
    rw [List.map_take, ← htake, List.take_take]
    congr 1
    simp; omega
theorem Own.clear {base g n c : Nat} (m : Nat) : ∀ {w : World} {xs : List Int} (o : Nat), Own w base (.slice (some ⟨g, 0, none⟩) n c) xs → ∃ ys, Own (w.setCells g o (List.replicate m (.int .i64 0))) base (.slice (some ⟨g, 0, none⟩) n c) ys ∧ ys.take o = xs.take o := by
  induction m with
  | zero => intro w xs o h; exact ⟨xs, h, rfl⟩
  | succ m ih =>
    intro w xs o h
    obtain ⟨ys, h1, h2⟩ := ih (o + 1) (h.set (k := o) 0)
    refine ⟨ys, h1, ?_⟩
    have := congrArg (List.take o) h2
    rw [List.take_take, List.take_take, Nat.min_eq_left (by omega)] at this
    rw [this]
    apply List.ext_getElem?
    intro j
    rw [List.getElem?_take, List.getElem?_take]
    split
    · rw [List.getElem?_set_ne (by omega)]
    · rfl
theorem since_cells {w0 : World} {g : Nat} (hg : w0.heap.size ≤ g) (vs : List Value) : ∀ (w : World) (o : Nat), Since w0 w → Since w0 (w.setCells g o vs) := by
  induction vs with
  | nil => intro w o h; exact h
  | cons v vs ih => intro w o h; exact ih _ _ (Below.setCell h hg v)
def keptB (p : Int → Bool) (xs : List Int) : List Int := xs.filter fun x => !p x
theorem kept_le (p : Int → Bool) (xs : List Int) : (keptB p xs).length ≤ xs.length := List.length_filter_le _ _
set_option maxRecDepth 100000 in
set_option maxHeartbeats 4000000 in
theorem deleteFunc_any (v : Value) (xs : List Int) (fid : FuncId) (caps : Array Value) (p : Int → Bool) (w w0 : World) (h : Own w w0.heap.size v xs) (hs : Since w0 w) (hl : xs.length ≤ 17592186044416) (henter : ∀ args w, (callFunc fid args).run Tryz.prog w = .ok (.enter fid args) w)
    (hp : PredOn w0 fid caps p xs) : Calls Tryz.prog 125 #[v, .func (.func fid) #[] caps] w fun e w' => ∃ u, e = .returned u ∧ Own w' w0.heap.size u (keptB p xs) ∧ Since w0 w' := by
  have Hp := Lib.hid hp
  have HI := Lib.hid h.ints
  have hI := indexFunc_any v xs fid caps p w h.ints henter (hp.keep hs)
  have HIF := Lib.hid hI
  have eg := henter
  cases hany : xs.any p
  · have e1 : fidx p xs = -1 := fidx_none hany
    have e2 : keptB p xs = xs := by
      unfold keptB
      rw [List.filter_eq_self]
      intro x hx
      rw [List.any_eq_false] at hany
      simpa using hany x hx
    rw [e2]
    rw [e1] at HIF
    have Ho := Lib.hid h
    have Hs := Lib.hid hs
    clear h hs hI hany e1 e2 hp henter
    go_enter Tryz.func125, Tryz.ntmps125
    go_wp2_with fail
    refine HIF.out.mono ?_
    rintro e w1 ⟨rfl, hb1⟩
    have Hb1 := Lib.hid hb1
    clear hb1
    go_wp2
    go_ret
    exact ⟨_, rfl, Ho.out.keep Hb1.out, Since.trans Hs.out Hb1.out⟩
  · rcases h.cases with ⟨rfl, rfl⟩ | ⟨g, c, rfl, hg1, hg2⟩
    · simp at hany
    · obtain ⟨k0, x0, hk0, hx0, hno⟩ : ∃ k x, xs[k]? = some x ∧ p x = true ∧ (xs.take k).any p = false := by
        cases hf : xs.findIdx? p with
        | none =>
          rw [List.findIdx?_eq_none_iff] at hf
          rw [List.any_eq_true] at hany
          obtain ⟨x, hx, hpx⟩ := hany
          rw [hf x hx] at hpx; cases hpx
        | some i =>
          rw [List.findIdx?_eq_some_iff_getElem] at hf
          obtain ⟨hi, hpi, hall⟩ := hf
          refine ⟨i, xs[i], List.getElem?_eq_getElem hi, hpi, ?_⟩
          rw [List.any_eq_false]
          intro x hx
          obtain ⟨j, hj, rfl⟩ := List.mem_take_iff_getElem.1 hx
          simpa using hall j (by omega)
      have e1 : fidx p xs = k0 := fidx_found hk0 hx0 hno
      have hk0l := lt_of_get hk0
      have e2 : keptB p (xs.take (k0 + 1)) = xs.take k0 := by
        rw [take_snoc hk0]
        unfold keptB
        rw [List.filter_append, List.filter_eq_self.2 (fun x hx => by rw [List.any_eq_false] at hno; simpa using hno x hx)]
        simp [hx0]
      rw [e1] at HIF
      have hm := h.bd
      unfold maxLen at hm
      have Ho := Lib.hid h
      have Hs := Lib.hid hs
      have E2 := Lib.hid e2
      have hne1 : ((k0 : Int) == -1) = false := beq_eq_false_iff_ne.2 (by omega)
      have hle : Hid (∀ j, (keptB p (xs.take j)).length ≤ j) := fun j => Nat.le_trans (kept_le _ _) (by simp; omega)
      clear h hs hI hany e1 e2 hp henter hk0 hx0 hno
      go_enter Tryz.func125, Tryz.ntmps125
      go_wp2_with fail
      refine HIF.out.mono ?_
      rintro e w1 ⟨rfl, hb1⟩
      have Hb1 := Lib.hid hb1
      clear hb1
      go_wp2
      go_loopw [5, 6] (fun i j wr => ∃ (jn : Nat) (ys : List Int), k0 < jn ∧ jn ≤ xs.length ∧ j = .int .i64 jn ∧ i = .int .i64 ((keptB p (xs.take jn)).length : Nat) ∧ (keptB p (xs.take jn)).length < jn ∧ Own wr w0.heap.size (.slice (some ⟨g, 0, none⟩) xs.length c) ys ∧ ys.length = xs.length ∧ ys.take (keptB p (xs.take jn)).length = keptB p (xs.take jn) ∧ ys.drop jn = xs.drop jn ∧ Since w0 wr) (fun _ j _ => xs.length - (intOf j).toNat)
      case atStart =>
        have e3 : (keptB p (xs.take (k0 + 1))).length = k0 := by rw [E2.out]; simp; omega
        exact ⟨k0 + 1, xs, by omega, by omega, by go_num, by rw [e3], by omega, Ho.out.keep Hb1.out, rfl, by rw [e3, E2.out], rfl, Since.trans Hs.out Hb1.out⟩
      case round =>
        obtain ⟨jn, ys, hj1, hj2, rfl, rfl, hij, ho, hyl, ht, hdr, hsr⟩ := hrel
        generalize hi : (keptB p (xs.take jn)).length = i at *
        have Ho2 := Lib.hid ho
        have Hyl := Lib.hid hyl
        have Ht := Lib.hid ht
        have Hdr := Lib.hid hdr
        have Hi := Lib.hid hi
        have Hsr := Lib.hid hsr
        by_cases hlt : jn < xs.length
        · obtain ⟨x, hx⟩ := getx xs jn hlt
          have hyx : ys[jn]? = some x := by
            have := congrArg (fun l => l[0]?) hdr
            simp only [List.getElem?_drop, Nat.add_zero] at this
            rw [this]; exact hx
          have cx := ho.cell hyx
          obtain ⟨z, hz⟩ := getx ys i (by omega)
          have cz := ho.cell hz
          have fz := ho.free i
          have Hx := Lib.hid hx
          have hks : Hid (keptB p (xs.take (jn + 1)) = keptB p (xs.take jn) ++ if p x then [] else [x]) := by
            show _ = _
            rw [take_snoc hx]
            unfold keptB
            rw [List.filter_append]
            congr 1
            cases hpx : p x <;> simp [hpx]
          clear ho hyl ht hdr hi hsr hx hyx hz
          cases hpx : p x
          · have Hpx := Lib.hid hpx
            clear hpx
            go_wp2_with fail
            refine (Hp.out x (List.mem_of_getElem? Hx.out) _ Hsr.out).mono ?_
            rintro e w2 ⟨rfl, hb2⟩
            rw [Hpx.out]
            have ho3 := Ho2.out.keep hb2
            have cz2 := bc hb2 cz
            have fz2 := ho3.free i
            have Ho3 := Lib.hid (ho3.set (k := i) x)
            have Hs3 := Lib.hid (Below.setCell (p := ⟨g, i, none⟩) (Since.trans Hsr.out hb2) hg1 (.int .i64 x))
            clear hb2 ho3 cz cx fz
            go_wp2
            go_roundw
            case rel =>
              refine ⟨jn + 1, ys.set i x, by omega, by omega, by go_num, ?_, ?_, Ho3.out, by simp [Hyl.out], ?_, ?_, Hs3.out⟩
              · rw [hks.out, Hpx.out]; simp [Hi.out]
              · rw [hks.out, Hpx.out]; simp [Hi.out]; omega
              · rw [hks.out, Hpx.out]
                simp only [Bool.false_eq_true, if_false, List.length_append, List.length_cons, List.length_nil, Nat.zero_add, Hi.out]
                have hset : (ys.set i x)[i]? = some x := by rw [List.getElem?_set_self (by have := Hyl.out; omega)]
                rw [take_snoc hset]
                congr 1
                rw [← Ht.out]
                apply List.ext_getElem?
                intro q
                rw [List.getElem?_take, List.getElem?_take]
                split
                · rw [List.getElem?_set_ne (by omega)]
                · rfl
              · have := congrArg (List.drop 1) Hdr.out
                rw [List.drop_drop, List.drop_drop] at this
                rw [← this]
                apply List.ext_getElem?
                intro q
                rw [List.getElem?_drop, List.getElem?_drop, List.getElem?_set_ne (by omega)]
            case measure => simp [intOf]; omega
          · have Hpx := Lib.hid hpx
            clear hpx
            go_wp2_with fail
            refine (Hp.out x (List.mem_of_getElem? Hx.out) _ Hsr.out).mono ?_
            rintro e w2 ⟨rfl, hb2⟩
            rw [Hpx.out]
            have Ho3 := Lib.hid (Ho2.out.keep hb2)
            have Hs3 := Lib.hid (Since.trans Hsr.out hb2)
            clear hb2 cz cx fz
            go_wp2
            go_roundw
            case rel =>
              refine ⟨jn + 1, ys, by omega, by omega, by go_num, by rw [hks.out, Hpx.out]; simp [Hi.out], by rw [hks.out, Hpx.out]; simp [Hi.out]; omega, Ho3.out, Hyl.out, by rw [hks.out, Hpx.out]; simp [Hi.out, Ht.out], ?_, Hs3.out⟩
              have := congrArg (List.drop 1) Hdr.out
              rwa [List.drop_drop, List.drop_drop] at this
            case measure => simp [intOf]; omega
        · obtain rfl : jn = xs.length := by omega
          have hcl : ∀ ty, (Builtin.clear_ #[23] ty #[.slice (some ⟨g, i, none⟩) (xs.length - i) (c - i)]).run Tryz.prog wr = .ok (.tuple #[]) (wr.setCells g i (List.replicate (xs.length - i) (.int .i64 0))) :=
            fun ty => Lib.run_clear_slice wr _ _ ty _ Tryz.underlying23 (fun w => by kernel_rfl) rfl rfl g i _ _ (by omega) (fun t ht' => by
              obtain ⟨z, hz⟩ := getx ys (i + t) (by omega)
              rw [ho.cell hz]; rfl) (fun t ht' => ho.free _)
          obtain ⟨zs, hz1, hz2⟩ := ho.clear (m := xs.length - i) (w := wr) i
          have Hz1 := Lib.hid (hz1.cut i (by omega))
          have Hz2 := Lib.hid hz2
          have Hs3 := Lib.hid (since_cells hg1 (List.replicate (xs.length - i) (.int .i64 0)) wr i hsr)
          have hnc : xs.length ≤ c ∧ c ≤ 9223372036854775807 := by
            rcases ho.2 with ⟨h', _⟩ | ⟨g', cap, cur, h', hb, hg, hnc, hm, hcs, htake⟩
            · simp at h'
            · simp only [Value.slice.injEq, Option.some.injEq, Addr.mk.injEq, and_true] at h'
              unfold maxLen at hm
              omega
          obtain ⟨hnc, hcm⟩ := hnc
          have hic : i ≤ c := by omega
          clear ho hyl ht hdr hi hsr hz1 hz2 hlt hj1 hj2 hl
          go_wp2
          go_ret
          refine ⟨_, rfl, ?_, Hs3.out⟩
          have h1 := Hz1.out
          rw [Hz2.out, Ht.out, List.take_length] at h1
          exact h1
end Go.Proofs.YtlfehdikgbgloaaGreat
namespace Go.Proofs.YtlfehdikgbgloaaGreat
open Go.RowKit
theorem Own.grown {w w' : World} {base : Nat} {v : Value} {xs : List Int} {row : Option Nat} (h : Own w base v xs) (hg : w.grownBy w' row) (hd : ∀ q, v.ownBlock = some q → row ≠ some q) : Own w' base v xs :=
  ownsRow_stable h fun q hq => hg.block q (World.ownsRow.lt h q (by simpa using hq)).2 (fun e => hd q (by simpa using hq) e.symm)
/-- append of a whole row of integers -/
theorem app_ints {w : World} {ops : Array Oper} {rest : List Oper} {o : Oper} {a : Act} {Q : Exit → Act → World → Prop} (hgd : o.guard = none) (s x : Operand)
    (ho : o.op = .call { callee := .builtin .append, args := #[s, x], argTypes := #[23, 23] }) {base : Nat} {v : Value} {xs : List Int} (hs : a.eval s = v) (h : Own w base v xs) (b off c : Nat) (ys : List Int)
    (hx : a.eval x = .slice (some ⟨b, off, none⟩) ys.length c) (hc : ∀ j y, ys[j]? = some y → w.cell? ⟨b, off + j, none⟩ = some (.int .i64 y)) (hy : 0 < ys.length) (hl : xs.length + ys.length ≤ 17592186044416) (hbase : base ≤ w.heap.size)
    (k : ∀ g cap w', Own w' base (.slice (some ⟨g, 0, none⟩) (xs.length + ys.length) cap) (xs ++ ys) → w.grownBy w' v.ownBlock → (v.ownBlock = some g ∨ g = w.heap.size) → g < w'.heap.size → wpList Tryz.prog ops Q rest (a.put o.dst (.slice (some ⟨g, 0, none⟩) (xs.length + ys.length) cap)) w') : wpList Tryz.prog ops Q (o :: rest) a w := by
  obtain ⟨i0, hi, hz0, hz1, hz2⟩ := info_parts int_info
  refine wpList_append_lies w hgd s x 23 ho base 3 i0 (.int .i64 0) 1 8 Tryz.underlying23 hi hz0 hz1 hz2 rfl (by decide) v xs.length (xs.map (Value.int .i64)) hs h ⟨b, off, none⟩ ys.length c (ys.map (Value.int .i64)) hx (by simp)
    (by
      intro j u hj
      rw [List.getElem?_map] at hj
      cases hyj : ys[j]? with
      | none => rw [hyj] at hj; simp at hj
      | some y =>
        rw [hyj] at hj
        simp at hj
        subst hj
        rw [Go.Addr.add_lit]
        exact hc j y hyj) (by simp [Value.oneCell']) hy (by unfold maxLen; omega) (by omega) hbase w.heap.size rfl ?_
  intro g cap w' h1 h2 h3 h4
  refine k g cap w' ?_ h2 h3 h4
  unfold Own
  simpa using h1
set_option maxHeartbeats 2000000 in
theorem l1Own_any (v : Value) (xs : List Int) (w : World) (h : IntS w v xs) (h0' : 0 < xs.length) (hl : xs.length ≤ 17592186044416) :
    Calls Tryz.prog 69 #[v] w fun e w' => ∃ u, e = .returned u ∧ Own w' w.heap.size u xs ∧ Below w.heap.size w w' := by
  obtain ⟨A, c, rfl, hlc, hm, hA⟩ := h
  unfold maxLen at hm
  have ho := own_lit w [] (by simp [maxLen])
  simp only [List.map_nil, List.length_nil] at ho
  obtain ⟨y0, hy0⟩ := getx xs 0 (by omega)
  obtain ⟨b, off, rfl, _⟩ := hA 0 y0 hy0
  have HA : Hid (∀ j y, xs[j]? = some y → w.cell? ⟨b, off + j, none⟩ = some (.int .i64 y)) := fun j y hj => by
    obtain ⟨b', off', e, hc⟩ := hA j y hj
    cases e
    exact hc
  have Ho := Lib.hid ho
  clear hA hy0 ho
  go_enter Tryz.func69, Tryz.ntmps69
  go_wp2_with (at_builtin; refine app_ints rfl _ _ rfl rfl Ho.out b off c xs rfl (fun j y hj => bc (below_alloc _ _) (HA.out j y hj)) h0' (by simpa using hl) (by simp) ?_; intro g cc w2 ho2 hg2 _ _)
  simp only [List.length_nil, Nat.zero_add, List.nil_append] at ho2 ⊢
  have Ho2 := Lib.hid ho2
  have Hb2 : Hid (Below w.heap.size w w2) := (below_alloc w _).grown hg2 (by simp) (fun j hj => (World.ownsRow.lt Ho.out j hj).1)
  clear ho2 hg2
  go_wp2
  go_ret
  exact ⟨_, rfl, Ho2.out, Hb2.out⟩
end Go.Proofs.YtlfehdikgbgloaaGreat
