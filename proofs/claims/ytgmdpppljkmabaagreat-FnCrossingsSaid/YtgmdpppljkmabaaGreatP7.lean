/- Parts of the proof: walks of functions and plain laws. -/
import Derived.Test.YtgmdpppljkmabaaGreatP0
import Derived.Test.YtgmdpppljkmabaaGreatP6
import Derived.Test.YtgmdpppljkmabaaGreatP5
import Derived.Test.YtgmdpppljkmabaaGreatP4
namespace Go.Proofs.YtgmdpppljkmabaaGreat
open Go.RowKit
theorem tflow_skipw {P : Program} {ops : Array Oper} {S : World → Prop} {fin : Act → World → Prop} {o : Oper} {rest : List Oper} {A : Act} {W W' : World} (hw : Region.wanted o (yielded ops A.tmps) = true) (h : (execOp A.eval o).run P W = .ok .skip W') (hS : S W')
  (hr : TFlow P ops S fin rest (A.put o.dst undef) W') : TFlow P ops S fin (o :: rest) A W := .inl ⟨hw, by rw [h]; exact ⟨hS, hr⟩⟩
set_option maxRecDepth 100000 in
set_option maxHeartbeats 4000000 in
theorem neOwn_gen (ve vi vn : Value) (n : Net) (w : World) (h : NetIn w ve vi vn n) (hn40 : n.ends.length ≤ 1000) (hrow : ∀ (k : Nat) (es : List (Int × Int)), n.ends[k]? = some es → es.length ≤ 1000) (hsz : szNet n ≤ 1048576) :
  Calls Tryz.prog 137 #[.agg #[ve, vi, vn]] w (NewNet w n) := by
 have hil : n.ids.length ≤ 17592186044416 := by unfold szNet at hsz; omega
 have hnl : n.inputs.length ≤ 17592186044416 := by unfold szNet at hsz; omega
 have HRow : Hid (∀ (k : Nat) (es : List (Int × Int)), n.ends[k]? = some es → es.length ≤ 1000) := hrow
 have Hil := Lib.hid hil
 have Hnl := Lib.hid hnl
 clear hil hnl hrow hsz
 obtain ⟨w0, hw0⟩ : ∃ w0, w0 = (w).alloc (.cells #[ve, vi, vn] 27) := ⟨_, rfl⟩
 have hb0 : Below w.heap.size w w0 := by rw [hw0]; exact ((Below.refl _ _).alloc (by simp) _)
 have H := Lib.hid (h.keep hb0)
 obtain ⟨h1, h2, h3⟩ := h.keep hb0
 obtain ⟨A, c, rfl, hlc, hm, hA⟩ := h1
 obtain ⟨A2, c2, rfl, _, hm2, _⟩ := h2
 obtain ⟨A3, c3, rfl, _, hm3, _⟩ := h3
 unfold maxLen at hm hm2 hm3
 have p00 : ∀ W, Since w0 W → W.cell? ⟨w.heap.size, 0, none⟩ = some (.slice A n.ends.length c) := have_cell (by rw [hw0]; simp)
 have p01 : ∀ W, Since w0 W → W.cell? ⟨w.heap.size, 1, none⟩ = some (.slice A2 n.ids.length c2) := have_cell (by rw [hw0]; simp)
 have p02 : ∀ W, Since w0 W → W.cell? ⟨w.heap.size, 2, none⟩ = some (.slice A3 n.inputs.length c3) := have_cell (by rw [hw0]; simp)
 have Hb0 := Lib.hid hb0
 have Hw0 := Lib.hid hw0
 have HA := Lib.hid hA
 clear hA h
 clear hb0 hw0
 obtain ⟨wa, hwa⟩ : ∃ wa, wa = w0.alloc (.cells #[.slice none 0 0, .slice none 0 0, .slice none 0 0] 27) := ⟨_, rfl⟩
 have hsa : Since w0 wa := by rw [hwa]; exact since_alloc _ (since_refl _)
 have Hza : Hid (wa.heap.size = w0.heap.size + 1) := by show _ = _; rw [hwa]; simp
 have HRb : Hid (∀ X, Since wa X → BoxN X w0.heap.size (.slice none 0 0) (.slice none 0 0) (.slice none 0 0)) := fun X hX => by
  refine BoxN.since (W := wa) ?_ hX
  rw [hwa]
  show (w0.heap.push _)[w0.heap.size]? = _
  rw [Array.getElem?_push_size]
 have q00 := lift_cell p00 hsa
 have q01 := lift_cell p01 hsa
 have q02 := lift_cell p02 hsa
 have HNe := Lib.hid (show ∀ X, Since wa X → EndSS X (.slice A n.ends.length c) n.ends from fun X hX => (H.out.keep (hsa.after hX).below).es)
 have HNi := Lib.hid (show ∀ X, Since wa X → IntS X (.slice A2 n.ids.length c2) n.ids from fun X hX => by have := H.out.keep (hsa.after hX).below; exact this.2.1)
 have HNn := Lib.hid (show ∀ X, Since wa X → IntS X (.slice A3 n.inputs.length c3) n.inputs from fun X hX => by have := H.out.keep (hsa.after hX).below; exact this.2.2)
 have Hwa := Lib.hid hwa
 have Hsa := Lib.hid hsa
 clear hwa hsa p00 p01 p02
 go_enter Tryz.func137, Tryz.ntmps137
 go_upto_region 1 with (fail)
 rw [← Hw0.out, ← Hwa.out]
 refine wp_region_fork (w0 := wa) 9 [0, 0, 1, 0, 0, 1, 1, 2, 3] (fun _ W u => NewB W wa.heap.size u) (fun _ W W' u h hs => h.keep hs) (by kernel_rfl) (by kernel_rfl) (since_refl _) ?_
 rw [show idxN 2 ([0, 0, 1, 0, 0, 1, 1, 2, 3] : List Nat) = [7] from by decide]
 simp only [selN, List.take_succ_cons, List.take_zero, List.drop_succ_cons, List.drop_zero, if_true, if_false, reduceCtorEq, Nat.reduceEqDiff, reduceIte, Nat.zero_ne_one, Nat.one_ne_zero]
 refine pflow_val (v := ?_) rfl ?_ ?_; rotate_left; (intro W hW; go_simp; with_reducible rfl)
 simp only [zA]
 refine pflow_val (v := ?_) rfl ?_ ?_; rotate_left; (intro W hW; go_simp; with_reducible rfl)
 simp only [zA]
 refine pflow_val (v := ?_) rfl ?_ ?_; rotate_left; (intro W hW; go_simp; with_reducible rfl)
 simp only [zA]
 refine pflow_val (v := ?_) rfl ?_ ?_; rotate_left; (intro W hW; go_simp; with_reducible rfl)
 simp only [zA]
 refine ⟨?_, ?_⟩
 ·intro j hj
  obtain rfl := List.mem_singleton.1 hj
  intro o ho
  cases ho
  refine ⟨rfl, fun W hW => ?_⟩
  unfold GivesAny
  go_simp
  all_goals (first | exact NewB.new _ hW.below.size | exact ⟨NewB.new _ hW.below.size, since_alloc _ (since_refl _)⟩)
 intro W hW
 intro W1 h1
 have hW1 := Since.after hW h1
 refine ⟨rfl, ?_⟩
 go_simp
 (with_reducible refine (l1Own_all _ n.ids W1 (HNi.out W1 hW1) Hil.out).mono ?_)
 rintro e W ⟨u1, rfl, ho, hb⟩
 refine ⟨_, rfl, hb, ?_⟩
 have hW := hW1.after (hb)
 have HI := Lib.hid (show ∀ X, Since W X → Own X wa.heap.size u1 n.ids from fun X hX => (ho.since hX).mono hW1.below.size); clear ho hb
 (try simp only [zA])
 intro W1 h1
 have hW1 := Since.after hW h1
 refine ⟨rfl, ?_⟩
 go_simp
 (with_reducible refine (l1Own_all _ n.inputs W1 (HNn.out W1 hW1) Hnl.out).mono ?_)
 rintro e W ⟨u2, rfl, ho, hb⟩
 refine ⟨_, rfl, hb, ?_⟩
 have hW := hW1.after (hb)
 have HI1 := Lib.hid (show ∀ X, Since W X → Own X wa.heap.size u1 n.ids from fun X hX => HI.out X ((h1.trans hb).after hX)); have HI2 := Lib.hid (show ∀ X, Since W X → Own X wa.heap.size u2 n.inputs from fun X hX => (ho.since hX).mono hW1.below.size); have Hd3 := Lib.hid (show ∀ j, u1.ownBlock = some j → u2.ownBlock ≠ some j from fun j hj hk => by have := (World.ownsRow.lt (HI.out W1 h1) j hj).2; have := (World.ownsRow.lt ho j hk).1; omega); clear ho hb HI; obtain ⟨BI, dI, rfl, _⟩ := id (HI1.out W (since_refl _)).ints; obtain ⟨BN, dN, rfl, _⟩ := id (HI2.out W (since_refl _)).ints
 (try simp only [zA])
 intro W1 h1
 have hW1 := Since.after hW h1
 refine ⟨rfl, ?_⟩
 go_simp
 have hq6 := h1
 have hW := hW1
 (try simp only [zA])
 intro us W h1 hU
 have hW := Since.after hW h1
 have hU7 : (fun _ W u => NewB W wa.heap.size u) 7 W (us 7) := by first | exact hU 7 (by simp) | exact hU
 (try simp only [] at hU7)
 simp only [putAll, List.getElem?_toArray, List.getElem?_cons_succ, List.getElem?_cons_zero]
 (try simp only [zA])
 obtain ⟨u7, hu7⟩ : ∃ x, x = us 7 := ⟨_, rfl⟩
 rw [← hu7] at hU7 ⊢
 clear hu7
 clear hU us
 obtain ⟨ob, rfl, hob, hbx⟩ := hU7; have HO1 := Lib.hid (HI1.out _ (hq6.after h1)); have HO2 := Lib.hid (HI2.out _ (hq6.after h1)); have HBx := Lib.hid hbx; obtain ⟨c0, c1, c2', f0, f1, f2⟩ := hbx.box.cells
 refine tflow_skipw (W' := ?_) rfl ?_ ?_ ?_; rotate_left
 (go_simp; with_reducible rfl)
 exact (((hW.setCell hob _).setCell hob _).setCell hob _)
 (try simp only [zA])
 simp only [TFlow]
 have hbx4 : BoxN (((W.setCell ⟨ob, 0, none⟩ (.slice none 0 0)).setCell ⟨ob, 1, none⟩ (.slice BI n.ids.length dI)).setCell ⟨ob, 2, none⟩ (.slice BN n.inputs.length dN)) ob (.slice none 0 0) (.slice BI n.ids.length dI) (.slice BN n.inputs.length dN) := ((HBx.out.put0 _).put1 _).put2 _
 obtain ⟨w4, hw4⟩ : ∃ w4, w4 = ((W.setCell ⟨ob, 0, none⟩ (.slice none 0 0)).setCell ⟨ob, 1, none⟩ (.slice BI n.ids.length dI)).setCell ⟨ob, 2, none⟩ (.slice BN n.inputs.length dN) := ⟨_, rfl⟩
 rw [← hw4] at hbx4 ⊢
 have HS4 : Hid (Since wa w4) := by show Since _ _; rw [hw4]; exact (((hW.setCell hob _).setCell hob _).setCell hob _)
 have hon4 : Only [ob] W w4 := by rw [hw4]; exact ((((Only.refl _ _).setCell (.inl (by simp)) _).setCell (.inl (by simp)) _).setCell (.inl (by simp)) _)
 have hne1 := own_neN HO1.out HBx.out
 have hne2 := own_neN HO2.out HBx.out
 have HN4 : Hid (OwnNet w4 wa.heap.size (.slice none 0 0) (.slice BI n.ids.length dI) (.slice BN n.inputs.length dN) ⟨[], n.ids, n.inputs⟩ ((Value.slice BI n.ids.length dI).ownBlock.toList ++ (Value.slice BN n.inputs.length dN).ownBlock.toList) ∧ ob ∉ (Value.slice BI n.ids.length dI).ownBlock.toList ++ (Value.slice BN n.inputs.length dN).ownBlock.toList) := by
  show _ ∧ _
  refine ⟨?_, fun hm => (List.mem_append.1 hm).elim (fun hm => hne1 (by simpa using hm)) (fun hm => hne2 (by simpa using hm))⟩
  have h1 : Own w4 wa.heap.size (.slice BI n.ids.length dI) n.ids := ownsRow_stable HO1.out (fun j hj => hon4.block j (World.ownsRow.lt HO1.out j (by simpa using hj)).2 (fun e => hne1 (by simp at e; subst e; simpa using hj)))
  have h2 : Own w4 wa.heap.size (.slice BN n.inputs.length dN) n.inputs := ownsRow_stable HO2.out (fun j hj => hon4.block j (World.ownsRow.lt HO2.out j (by simpa using hj)).2 (fun e => hne2 (by simp at e; subst e; simpa using hj)))
  exact ownNet_of (S1 := []) ⟨[], [], World.ownsRow_nil _ _ _ _, rfl, fun k u x T h => by simp at h, rfl, by simp⟩ h1 h2 (by simp) (by simp) Hd3.out
 have HB4 := Lib.hid hbx4
 have Hob := Lib.hid hob
 clear hbx4 hw4 hon4 hne1 hne2 HI1 HI2 Hd3 HO1 HO2 HBx c0 c1 c2' f0 f1 f2 hW hob
 have hs4 := HS4.out
 go_wp2
 go_loopw [16] (fun i wr => ∃ (k : Nat) (v : Value) (S : List Nat), k ≤ n.ends.length ∧ i = .int .i64 k ∧ OwnNet wr wa.heap.size v (.slice BI n.ids.length dI) (.slice BN n.inputs.length dN) ⟨n.ends.take k, n.ids, n.inputs⟩ S ∧ ob ∉ S ∧ (∀ q, v.ownBlock = some q → ob + 1 ≤ q) ∧ BoxN wr ob v (.slice BI n.ids.length dI) (.slice BN n.inputs.length dN) ∧ Since wa wr) (fun i _ => n.ends.length - (intOf i).toNat)
 case atStart => exact ⟨0, _, _, Nat.zero_le _, rfl, by simpa using HN4.out.1, HN4.out.2, by simp [Value.ownBlock], HB4.out, HS4.out⟩
 case round =>
  obtain ⟨k, v, S, hk, rfl, hon, hobS, hvq, hbx, hsr⟩ := hrel
  obtain ⟨AV, cV, hV, _⟩ := id hon.read.1
  obtain ⟨mV, hmV⟩ : ∃ m, m = (n.ends.take k).length := ⟨_, rfl⟩
  simp only [← hmV] at hV
  have HmV := Lib.hid hmV
  clear hmV
  subst hV
  have Hon := Lib.hid hon
  have HobS := Lib.hid hobS
  have Hvq := Lib.hid hvq
  have Hbx := Lib.hid hbx
  clear hs4 hon hobS hvq
  by_cases hlt : k < n.ends.length
  ·obtain ⟨es, hes⟩ := getx n.ends k hlt
   obtain ⟨b, offr, cr, ur, hA1, hkr, hc1, hrow⟩ := row_at (HNe.out wa (since_refl _)) hes
   cases hA1
   have q5 := have_cell hc1
   have HE := Lib.hid (show ∀ X, Since wa X → EndS X ur es from fun X hX => hrow.keep hX.below)
   have Hes := Lib.hid hes
   have Hel := Lib.hid (HRow.out k es hes)
   clear hc1 hrow hes hbx
   go_upto_region 5 with (fail)
   obtain ⟨wT, hwT⟩ : ∃ wT, wT = trunc wr (ob + 1) := ⟨_, rfl⟩
   have hbl : ob + 1 ≤ wr.heap.size := Hbx.out.lt
   have hsT : Since wT wr := by rw [hwT]; exact trunc_since wr hbl
   have hTs : wT.heap.size = ob + 1 := by rw [hwT]; exact trunc_size wr hbl
   have hTb : BoxN wT ob (.slice AV mV cV) (.slice BI n.ids.length dI) (.slice BN n.inputs.length dN) := by rw [hwT]; exact trunc_box Hbx.out
   have hTa : Since wa wT := by rw [hwT]; exact since_trunc hsr hbl (Nat.le_succ_of_le Hob.out)
   have t0 := have_cell hTb.box.cells.1
   have q5T := lift_cell q5 hTa
   have HTs := Lib.hid hTs
   have HTa := Lib.hid hTa
   have Hsr := Lib.hid hsr
   have Hbl := Lib.hid hbl
   have Hsz : Hid (wT.heap.size ≤ wr.heap.size) := by show _ ≤ _; rw [hTs]; exact hbl
   clear hwT hTs hTb hTa hsr q5 q00 q01 q02 hbl
   refine wp_region_chain0 (w0 := wT) 7 [false, false, true, false, true, true, true] (by kernel_rfl) (by kernel_rfl) (hsT) ?_
   simp only [selF, selT, List.take_succ_cons, List.take_zero, List.drop_succ_cons, List.drop_zero]
   refine pflow_val (v := ?_) rfl ?_ ?_; rotate_left; (intro W hW; go_simp; with_reducible rfl)
   simp only [zA]
   refine pflow_val (v := ?_) rfl ?_ ?_; rotate_left; (intro W hW; go_simp; with_reducible rfl)
   simp only [zA]
   refine pflow_val (v := ?_) rfl ?_ ?_; rotate_left; (intro W hW; go_simp; with_reducible rfl)
   simp only [zA]
   obtain ⟨W, hWd⟩ : ∃ W, W = World.drew wr := ⟨_, rfl⟩
   rw [← hWd]
   have hW : Since wT W := by rw [hWd]; exact since_drew (hsT)
   (try have HWd := Lib.hid hWd)
   (try clear hWd)
   refine tflow_alloc (v := ?_) (ob := ?_) rfl ?_ hW ?_; rotate_left 2
   (go_simp; first | with_reducible rfl | (refine ⟨?_, ?_⟩ <;> with_reducible rfl))
   intro w2 hw2d hw2s
   replace hW := hw2s
   clear hw2s
   have Ho2 : Hid (OwnE w2 wr.heap.size (.slice (some ⟨wr.heap.size, 0, none⟩) 0 0) [] [wr.heap.size]) := by show OwnE _ _ _ _ _; rw [hw2d, HWd.out]; exact ownE_lit0 wr.drew
   have Hw2 : Hid (Since wr w2) := by show Since _ _; rw [hw2d, HWd.out]; exact since_alloc _ (since_drew (since_refl _))
   rw [show W.heap.size = wr.heap.size from by rw [HWd.out]; rfl]
   clear hw2d HWd
   (try simp only [zA])
   refine tflow_of_wp (fun Q' HQ => ?_)
   (refine app_endsE (w0 := wT) (v := .slice (some ⟨wr.heap.size, 0, none⟩) 0 0) (u := ur) (xs := []) (ys := es) (T := [wr.heap.size]) rfl _ _ rfl rfl (lawE.mono Ho2.out (Hsz.out)) (HE.out w2 (HTa.out.after hW)) rfl (by have := Hel.out; simp; omega) hW ?_); intro v3 w3 T3 ho3 hT3 hon3 hs3; refine HQ _ _ hs3 ?_; replace hW := hs3; have Hw3 : Hid (Since wr w3) := (show Since _ _ from Below.trans Hw2.out (hon3.below _ Hw2.out.below.size (by simp))); have HT3 : Hid (∀ j ∈ T3, wr.heap.size ≤ j) := (fun j hj => (hT3 j hj).elim (fun h => Nat.le_of_eq (List.mem_singleton.1 h).symm) (fun h => by have := Hw2.out.below.size; omega)); obtain ⟨AQ, mQ, cQ, hvQ⟩ := lawE.one ho3; subst hvQ; have Ho3 := Lib.hid ho3; clear hs3 ho3 hT3 hon3
   (try simp only [zA])
   (try have HWd := Lib.hid hWd)
   (try clear hWd)
   refine tflow_alloc (v := ?_) (ob := ?_) rfl ?_ hW ?_; rotate_left 2
   (go_simp; first | with_reducible rfl | (refine ⟨?_, ?_⟩ <;> with_reducible rfl))
   intro w5 hw5d hw5s
   replace hW := hw5s
   clear hw5s
   have HE5 : Hid (OwnE w5 wa.heap.size (.slice AQ mQ cQ) es T3) := by show OwnE _ _ _ _ _; rw [hw5d]; have h5 : OwnE w3 wT.heap.size (.slice AQ mQ cQ) es T3 := (by simpa using Ho3.out); exact lawE.mono (lawE.keep h5 (below_alloc _ _)) HTa.out.below.size
   have Hc5 : Hid (w5.cell? ⟨w3.heap.size, 0, none⟩ = some (.slice AQ mQ cQ)) := by show _ = _; rw [hw5d]; simp
   have Hw5 : Hid (Since wr w5) := by show Since _ _; rw [hw5d]; exact since_alloc _ Hw3.out
   have HN5 := Lib.hid (Hon.out.keep Hw5.out.below)
   have Hd5 := Lib.hid (show ∀ j ∈ T3, j ∉ S from fun j hj hS => by have := HT3.out j hj; have := (Hon.out.range j hS).2; omega)
   have Hl5 : Hid ((n.ends.take k).length + 1 ≤ 1000000) := (by show _ ≤ _; rw [List.length_take]; omega)
   have Hb5 : Hid (wa.heap.size ≤ w5.heap.size) := (Nat.le_trans (HTa.out.below.size) hW.below.size)
   have Hq5 : Hid (∀ q, (Value.slice AV mV cV).ownBlock = some q → wT.heap.size ≤ q) := (fun q hq => by rw [HTs.out]; exact Hvq.out q hq)
   clear hw5d
   (try simp only [zA])
   refine tflow_of_wp (fun Q' HQ => ?_)
   (refine app_rowN (wT := wT) (v := .slice AV mV cV) (u := .slice AQ mQ cQ) rfl _ _ rfl rfl HN5.out w3.heap.size rfl Hc5.out HE5.out Hd5.out Hl5.out hW Hb5.out Hq5.out ?_); intro v6 w6 S6 hv6 hn6 hS6 hon6 hs6; refine HQ _ _ hs6 ?_; have Hv6 := Lib.hid hv6; have Hn6 := Lib.hid hn6; have HS6 := Lib.hid hS6; have Hon6 := Lib.hid hon6; replace hW := hs6; clear hv6 hn6 hS6 hon6 hs6
   (try simp only [zA])
   simp only [TFlow]
   obtain ⟨A6, c6, hV6, _⟩ := id Hn6.out.read.1
   have hlen6 : (n.ends.take k ++ [es]).length = k + 1 := by simp; omega
   simp only [hlen6] at hV6
   subst hV6
   have Hbx6 := Lib.hid ((Hbx.out.since Hw5.out).only Hon6.out HobS.out)
   have Hsr6 : Hid (Since wa w6) := (HTa.out.after hW)
   obtain ⟨c0, _, _, f0, _, _⟩ := Hbx6.out.box.cells
   clear hW t0 q5T
   go_wp2
   go_roundw
   case rel =>
    have hobn : ob ∉ S6 := fun hm => by
     rcases HS6.out ob hm with h | h | h
     ·exact HobS.out h
     ·have := HT3.out ob h; have := Hbl.out; omega
     ·have := Hw5.out.below.size; have := Hbl.out; omega
    refine ⟨k + 1, .slice A6 (k + 1) c6, S6, by omega, by go_num, ?_, hobn, ?_, Hbx6.out.put0 _, Hsr6.out.setCell Hob.out _⟩
    ·have hx := Hn6.out.stable (w' := w6.setCell ⟨ob, 0, none⟩ (.slice A6 (k + 1) c6)) (fun j hj => Below.heap_setCell w6 _ _ j (fun e => hobn (by have e' : j = ob := e; exact e' ▸ hj)))
     rw [take_snoc Hes.out]
     exact hx
    ·intro q hq
     rcases Hv6.out q hq with h | h
     ·exact Hvq.out q h
     ·have := Hw5.out.below.size; have := Hbl.out; omega
   case measure => simp [intOf]; omega
  ·obtain rfl : k = n.ends.length := by omega
   have h01 : w0.heap.size = w.heap.size + 1 := by rw [Hw0.out]; simp
   have HR := HRb.out wr hsr
   rw [h01] at HR
   have Hza1 : Hid (w.heap.size + 1 < wa.heap.size) := by show _ < _; rw [Hza.out]; omega
   obtain ⟨c0, c1, c2', _, _, _⟩ := Hbx.out.box.cells
   obtain ⟨d0, d1, d2, f0, f1, f2⟩ := HR.box.cells
   have Hsr := Lib.hid hsr
   have HR' := Lib.hid HR
   clear HR hbx hsr hlt hk h01
   go_wp2
   refine bodyPost_ret (v := .agg #[.slice AV mV cV, .slice BI n.ids.length dI, .slice BN n.inputs.length dN]) (by simp [results, Tryz.results137, go_sem, *]) rfl ?_
   have hx := Hon.out
   rw [List.take_length] at hx
   refine ⟨_, _, _, S, rfl, ?_, ?_⟩
   ·refine (hx.stable (fun j hj => ?_)).mono (Nat.le_trans Hb0.out.size Hsa.out.below.size)
    have hj1 := (Hon.out.range j hj).1
    have hj2 := Hza1.out
    rw [Below.heap_setCell _ _ _ j (by simp; omega), Below.heap_setCell _ _ _ j (by simp; omega), Below.heap_setCell _ _ _ j (by simp; omega)]
   ·exact (((Below.trans Hb0.out ((Hsa.out.after Hsr.out).below.mono Hb0.out.size)).setCell (by simp) _).setCell (by simp) _).setCell (by simp) _
theorem neOwn_any (ve vi vn : Value) (n : Net) (w : World) (h : NetIn w ve vi vn n) (hn : netOk n = true) (hsz : szNet n ≤ 1048576) :
  Calls Tryz.prog 137 #[.agg #[ve, vi, vn]] w (NewNet w n) :=
 neOwn_gen ve vi vn n w h (by have := (netOk_len hn).2; omega) (fun k es he => by have := (netOk_row hn he).1; omega) hsz
end Go.Proofs.YtgmdpppljkmabaaGreat
namespace Go.Proofs.YtgmdpppljkmabaaGreat
open Go Go.RowKit
/-! A region that draws its order, each operation with a relation of its own to the values of the others. -/
section
variable {P : Program} {ops : Array Oper}
def upd (V : Nat → Value) (i : Nat) (u : Value) : Nat → Value := fun j => if j = i then u else V j
theorem upd_ne (V : Nat → Value) {i j : Nat} (u : Value) (h : j ≠ i) : upd V i u j = V j := if_neg h
theorem upd_self (V : Nat → Value) (i : Nat) (u : Value) : upd V i u i = u := if_pos rfl
def DStep (P : Program) (o : Oper) (A : Act) (W : World) (post : Value → World → Prop) : Prop :=
 match (execOp A.eval o).run P W with
 | .ok (.value u) W' => post u W'
 | .ok (.enter f args) W' => Calls P f args W' fun e W'' => ∃ u, e = .returned u ∧ post u W''
 | _ => False
theorem dstep_val {o : Oper} {A : Act} {W W' : World} {u : Value} {post : Value → World → Prop} (h : (execOp A.eval o).run P W = .ok (.value u) W') (hp : post u W') : DStep P o A W post := by
 unfold DStep; rw [h]; exact hp
theorem dstep_call {o : Oper} {A : Act} {W W' : World} {f : FuncId} {args : Array Value} {post : Value → World → Prop} (h : (execOp A.eval o).run P W = .ok (.enter f args) W') (hp : Calls P f args W' fun e W'' => ∃ u, e = .returned u ∧ post u W'') : DStep P o A W post := by
 unfold DStep; rw [h]; exact hp
theorem wp_region_df {Q : Exit → Act → World → Prop} {rid : Nat} {a : Act} {w w0 : World} (k : Nat) (R : Nat → (Nat → Value) → World → Prop) (hR : ∀ j V W W', R j V W → Since W W' → R j V W')
  (hloc : ∀ j V V' W, V j = V' j → (∀ o, ops[j]? = some o → ∀ d ∈ depsOf o, V d = V' d) → R j V W → R j V' W) (hm : P.follows .mixedOrders = true) (hf : flowB ops k = true) (hkn : decide (k ≤ ops.size) = true) (hs0 : Since w0 w)
  (hstep : ∀ i o, i < k → ops[i]? = some o → ∀ V W, Since w0 W → (∀ d ∈ depsOf o, R d V W) → Region.wanted o (yielded ops (putAll ops (List.range k) V a).tmps) = true ∧ DStep P o (putAll ops (List.range k) V a) W (fun u W' => Since W W' ∧ R i (upd V i u) W'))
  (hend : ∀ V W, Since w0 W → (∀ j, j < k → R j V W) → wpList P ops Q (ops.toList.drop k) (putAll ops (List.range k) V a) W) : (Code.region rid ops true).wp P Q a w := by
 have hok := flow_ok hf
 have hkn := of_decide_eq_true hkn
 have frame : ∀ V, FrameIs a ops V (fun j => j < k) (putAll ops (List.range k) V a) := fun V => by
  have := frame_putAll (a := a) hok.dsts hkn V (List.range k) (fun _ => False) a (fun _ h => h.elim) (fun j hj => ⟨List.mem_range.1 hj, id⟩) List.nodup_range (FrameIs.start a V)
  exact this.same (fun j => by simp)
 let J : (Nat → Prop) → Act → World → Prop := fun D a' W =>
  (Since w0 W ∧ (∀ j, D j → j < k) ∧ ∃ V, FrameIs a ops V D a' ∧ ∀ j, D j → R j V W) ∨
  (∃ m, k ≤ m ∧ m ≤ ops.size ∧ (∀ j, j < ops.size → (D j ↔ j < m)) ∧ wpList P ops Q (ops.toList.drop m) a' W)
 have full : ∀ D a' W, J D a' W → (∀ j, j < k → D j) → ∃ m, k ≤ m ∧ m ≤ ops.size ∧ (∀ j, j < ops.size → (D j ↔ j < m)) ∧ wpList P ops Q (ops.toList.drop m) a' W := by
  intro D a' W hJ hD
  rcases hJ with ⟨hW, hDk, V, hfr, hV⟩ | hJ
  ·have e : a' = putAll ops (List.range k) V a := hfr.ext (frame V) (fun j _ => ⟨hDk j, hD j⟩)
   subst e
   exact ⟨k, Nat.le_refl _, hkn, fun j _ => ⟨hDk j, hD j⟩, hend V W hW (fun j hj => hV j (hD j hj))⟩
  ·exact hJ
 refine wp_region_inv2 hm hok.back J (.inl ⟨since_drew hs0, fun j hj => hj.elim, fun _ => undef, FrameIs.start a _, fun j hj => hj.elim⟩) ?_ ?_
 ·intro D a' W i o hJ ho hDi hdep hcl
  have hin : i < ops.size := (Array.getElem?_eq_some_iff.1 ho).1
  by_cases hik : i < k
  ·rcases hJ with ⟨hW, hDk, V, hfr, hV⟩ | ⟨m, h1, h2, h3, _⟩
   rotate_left
   ·exact absurd ((h3 i hin).2 (by omega)) hDi
   obtain ⟨hw, hst⟩ := hstep i o hik ho V W hW (fun d hd => hV d (hdep d hd))
   obtain ⟨he, hw'⟩ := agree_exec (ops := ops) (a' := a') (A := putAll ops (List.range k) V a) (fun t ht => hfr.agree (frame V) t (fun j oj hj hoj hd => by
    have hjk : j < k := hj.elim (fun h => hDk j h) id
    exact ⟨hdep j (hok.looks i o hik ho t ht j oj hjk hoj hd), hjk⟩)) (fun cs b => hok.nosel i o cs b ho)
   have next : ∀ u W', Since W W' → R i (upd V i u) W' → J (fun j => D j ∨ j = i) (a'.put o.dst u) W' := by
    intro u W' hS hRi
    refine .inl ⟨hW.after hS, fun j hj => hj.elim (hDk j) (fun e => by omega), upd V i u, ?_, fun j hj => ?_⟩
    ·have := (hfr.vals2 (v' := upd V i u) (fun j _ hj => (upd_ne V u (fun e => by subst e; exact hDi hj)).symm)).put (i := i) ho (fun j oj d hj hoj hd hd2 => by
      have := hok.dsts i o hik ho j oj (hDk j hj) hoj d hd hd2
      subst this
      exact hDi hj)
     rwa [upd_self] at this
    ·rcases hj with hj | rfl
     ·have hji : j ≠ i := fun e => by subst e; exact hDi hj
      exact hloc j V _ W' (upd_ne V u hji).symm (fun oj hoj d hd => (upd_ne V u (fun e => by subst e; exact hDi (hcl j oj hj hoj d hd))).symm) (hR j V W W' (hV j hj) hS)
     ·exact hRi
   rw [if_pos (hw'.trans hw)]
   refine .inl ?_
   unfold Oper.wp
   rw [he]
   unfold DStep at hst
   generalize (execOp (putAll ops (List.range k) V a).eval o).run P W = r at hst ⊢
   cases r with
   | ok nx W' =>
    cases nx with
    | value u => exact next u W' hst.1 hst.2
    | enter f args =>
     simp only [Oper.upon]
     exact Calls.mono hst fun e W'' ⟨u, he', h3, h4⟩ => by subst he'; exact next u W'' h3 h4
    | _ => exact hst.elim
   | halt x W' => exact hst.elim
  ·have hall : ∀ j, j < i → D j := fun j hj => anc_ready hcl ho hdep (hok.tail i (by omega) hin j hj)
   obtain ⟨m, h1, h2, h3, h4⟩ := full D a' W hJ (fun j hj => hall j (by omega))
   have hmi : m = i := by
    by_cases e1 : i < m
    ·exact absurd ((h3 i hin).2 e1) hDi
    ·by_cases e2 : m < i
     ·have := (h3 m (by omega)).1 (hall m e2); omega
     ·omega
   subst hmi
   have hdr : ops.toList.drop m = o :: ops.toList.drop (m + 1) := by
    have : m < ops.toList.length := by simpa using hin
    rw [List.drop_eq_getElem_cons this]
    congr 1
    have := (Array.getElem?_eq_some_iff.1 ho).2
    simpa using this
   rw [hdr] at h4
   unfold wpList at h4
   have next : ∀ a W, wpList P ops Q (ops.toList.drop (m + 1)) a W → J (fun j => D j ∨ j = m) a W := fun a W h => .inr ⟨m + 1, by omega, by omega, fun j hj => by
    constructor
    ·rintro (h | rfl)
     ·have := (h3 j hj).1 h; omega
     ·omega
    ·intro h
     by_cases e : j = m
     ·exact .inr e
     ·exact .inl ((h3 j hj).2 (by omega)), h⟩
   split
   ·rename_i hw
    rw [if_pos hw] at h4
    exact h4.imp (Oper.wp_mono next) id
   ·rename_i hw
    rw [if_neg hw] at h4
    exact next _ _ h4
 ·intro D a' W hJ hall
  obtain ⟨m, h1, h2, h3, h4⟩ := full D a' W hJ (fun j hj => hall j (by omega))
  have hmn : m = ops.size := by
   by_cases e : m < ops.size
   ·have := (h3 m e).1 (hall m e); omega
   ·omega
  subst hmn
  rw [List.drop_eq_nil_of_le (by simp)] at h4
  exact h4
def RL (l : List ((Nat → Value) → World → Prop)) : Nat → (Nat → Value) → World → Prop := fun j V W => match l[j]? with | some r => r V W | none => True
theorem wp_region_dfl {Q : Exit → Act → World → Prop} {rid : Nat} {a : Act} {w w0 : World} (L : List ((Nat → Value) → World → Prop)) (hR : ∀ r ∈ L, ∀ V W W', r V W → Since W W' → r V W')
  (hloc : ∀ (j : Nat) r, L[j]? = some r → ∀ V V' W, V j = V' j → (∀ o, ops[j]? = some o → ∀ d ∈ depsOf o, V d = V' d) → r V W → r V' W) (k : Nat) (hm : P.follows .mixedOrders = true) (hf : flowB ops k = true) (hkn : decide (k ≤ ops.size) = true) (hs0 : Since w0 w)
  (hstep : ∀ i o, i < k → ops[i]? = some o → ∀ V W, Since w0 W → (∀ d ∈ depsOf o, RL L d V W) → Region.wanted o (yielded ops (putAll ops (List.range k) V a).tmps) = true ∧ DStep P o (putAll ops (List.range k) V a) W (fun u W' => Since W W' ∧ RL L i (upd V i u) W'))
  (hend : ∀ V W, Since w0 W → (∀ j, j < k → RL L j V W) → wpList P ops Q (ops.toList.drop k) (putAll ops (List.range k) V a) W) : (Code.region rid ops true).wp P Q a w := by
 refine wp_region_df k (RL L) (fun j V W W' h hs => ?_) (fun j V V' W h1 h2 h => ?_) hm hf hkn hs0 hstep hend
 ·unfold RL at h ⊢
  cases hj : L[j]? with
  | none => trivial
  | some r => rw [hj] at h; exact hR r (List.mem_of_getElem? hj) V W W' h hs
 ·unfold RL at h ⊢
  cases hj : L[j]? with
  | none => trivial
  | some r => rw [hj] at h; exact hloc j r hj V V' W h1 h2 h
end
end Go.Proofs.YtgmdpppljkmabaaGreat
namespace Go.Proofs.YtgmdpppljkmabaaGreat
open Go.RowKit
def OwnC (W : World) (B : Nat) (xs : List Int) (u : Value) : Prop := Own W B u xs
theorem OwnC.keep {W W' : World} {B : Nat} {xs : List Int} {u : Value} (h : OwnC W B xs u) (hs : Since W W') : OwnC W' B xs u := Own.since h hs
set_option maxRecDepth 100000 in
set_option maxHeartbeats 8000000 in
theorem copyNetwork_any (ve vi vn : Value) (n : Net) (w : World) (h : NetIn w ve vi vn n) (hn : netOk n = true) (hsz : szNet n ≤ 1048576) :
  Calls Tryz.prog 59 #[.agg #[ve, vi, vn]] w (NewNet w n) := by
 have hn40 := (netOk_len hn).2
 have hil : n.ids.length ≤ 17592186044416 := by unfold szNet at hsz; omega
 have hnl : n.inputs.length ≤ 17592186044416 := by unfold szNet at hsz; omega
 have HRow : Hid (∀ (k : Nat) (es : List (Int × Int)), n.ends[k]? = some es → es.length ≤ 6) := fun (k : Nat) (es : List (Int × Int)) he => (netOk_row hn he).1
 have Hil := Lib.hid hil
 have Hnl := Lib.hid hnl
 clear hil hnl hn hsz
 obtain ⟨w0, hw0⟩ : ∃ w0, w0 = (w).alloc (.cells #[ve, vi, vn] 27) := ⟨_, rfl⟩
 have hb0 : Below w.heap.size w w0 := by rw [hw0]; exact ((Below.refl _ _).alloc (by simp) _)
 have H := Lib.hid (h.keep hb0)
 obtain ⟨h1, h2, h3⟩ := h.keep hb0
 obtain ⟨A, c, rfl, hlc, hm, hA⟩ := h1
 obtain ⟨A2, c2, rfl, _, hm2, _⟩ := h2
 obtain ⟨A3, c3, rfl, _, hm3, _⟩ := h3
 unfold maxLen at hm hm2 hm3
 have p00 : ∀ W, Since w0 W → W.cell? ⟨w.heap.size, 0, none⟩ = some (.slice A n.ends.length c) := have_cell (by rw [hw0]; simp)
 have p01 : ∀ W, Since w0 W → W.cell? ⟨w.heap.size, 1, none⟩ = some (.slice A2 n.ids.length c2) := have_cell (by rw [hw0]; simp)
 have p02 : ∀ W, Since w0 W → W.cell? ⟨w.heap.size, 2, none⟩ = some (.slice A3 n.inputs.length c3) := have_cell (by rw [hw0]; simp)
 have Hb0 := Lib.hid hb0
 have Hw0 := Lib.hid hw0
 have HA := Lib.hid hA
 clear hA h
 clear hb0 hw0
 obtain ⟨wa, hwa⟩ : ∃ wa, wa = w0.alloc (.cells #[.slice none 0 0, .slice none 0 0, .slice none 0 0] 27) := ⟨_, rfl⟩
 have hsa : Since w0 wa := by rw [hwa]; exact since_alloc _ (since_refl _)
 have Hza : Hid (wa.heap.size = w0.heap.size + 1) := by show _ = _; rw [hwa]; simp
 have HRb : Hid (∀ X, Since wa X → BoxN X w0.heap.size (.slice none 0 0) (.slice none 0 0) (.slice none 0 0)) := fun X hX => by
  refine BoxN.since (W := wa) ?_ hX
  rw [hwa]
  show (w0.heap.push _)[w0.heap.size]? = _
  rw [Array.getElem?_push_size]
 have q00 := lift_cell p00 hsa
 have q01 := lift_cell p01 hsa
 have q02 := lift_cell p02 hsa
 have HNe := Lib.hid (show ∀ X, Since wa X → EndSS X (.slice A n.ends.length c) n.ends from fun X hX => (H.out.keep (hsa.after hX).below).es)
 have HNi := Lib.hid (show ∀ X, Since wa X → IntS X (.slice A2 n.ids.length c2) n.ids from fun X hX => by have := H.out.keep (hsa.after hX).below; exact this.2.1)
 have HNn := Lib.hid (show ∀ X, Since wa X → IntS X (.slice A3 n.inputs.length c3) n.inputs from fun X hX => by have := H.out.keep (hsa.after hX).below; exact this.2.2)
 have Hwa := Lib.hid hwa
 have Hsa := Lib.hid hsa
 have m1 := run_mk_rows n.ends.length (by omega)
 clear hwa hsa p00 p01 p02
 go_enter Tryz.func59, Tryz.ntmps59
 go_upto_region 1 with (fail)
 rw [← Hw0.out, ← Hwa.out]
 refine wp_region_dfl (w0 := wa) [fun V W => V 0 = .pointer (some ⟨w.heap.size, 0, none⟩), fun V W => V 1 = .slice A n.ends.length c, fun V W => V 2 = .int .i64 n.ends.length, fun V W => NewRows W wa.heap.size n.ends.length (V 3), fun V W => V 4 = .pointer (some ⟨w.heap.size, 1, none⟩), fun V W => V 5 = .slice A2 n.ids.length c2, fun V W => OwnC W wa.heap.size n.ids (V 6), fun V W => V 7 = .pointer (some ⟨w.heap.size, 2, none⟩), fun V W => V 8 = .slice A3 n.inputs.length c3, fun V W => OwnC W wa.heap.size n.inputs (V 9) ∧ ∀ j, (V 6).ownBlock = some j → (V 9).ownBlock ≠ some j, fun V W => V 10 = .agg #[V 3, V 6, V 9], fun V W => NewB W wa.heap.size (V 11)] ?_ ?_ 12 (by kernel_rfl) (by kernel_rfl) (by kernel_rfl) (since_refl _) ?_ ?_
 ·intro r hr V W W' h hs
  simp only [List.mem_cons, List.not_mem_nil, or_false] at hr
  rcases hr with rfl | rfl | rfl | rfl | rfl | rfl | rfl | rfl | rfl | rfl | rfl | rfl
  ·exact h
  ·exact h
  ·exact h
  ·exact (h.keep hs)
  ·exact h
  ·exact h
  ·exact (h.keep hs)
  ·exact h
  ·exact h
  ·exact (⟨h.1.keep hs, h.2⟩)
  ·exact (h)
  ·exact (h.keep hs)
 ·intro j r hj V V' W h1 h2 h
  match j, hj with
  | 0, hj =>
   obtain rfl := Option.some.inj hj
   have h3 : V 0 = .pointer (some ⟨w.heap.size, 0, none⟩) := h
   show V' 0 = .pointer (some ⟨w.heap.size, 0, none⟩)
   rw [← h1]
   exact h3
  | 1, hj =>
   obtain rfl := Option.some.inj hj
   have h3 : V 1 = .slice A n.ends.length c := h
   show V' 1 = .slice A n.ends.length c
   rw [← h1]
   exact h3
  | 2, hj =>
   obtain rfl := Option.some.inj hj
   have h3 : V 2 = .int .i64 n.ends.length := h
   show V' 2 = .int .i64 n.ends.length
   rw [← h1]
   exact h3
  | 3, hj =>
   obtain rfl := Option.some.inj hj
   have h3 : NewRows W wa.heap.size n.ends.length (V 3) := h
   show NewRows W wa.heap.size n.ends.length (V' 3)
   rw [← h1]
   exact h3
  | 4, hj =>
   obtain rfl := Option.some.inj hj
   have h3 : V 4 = .pointer (some ⟨w.heap.size, 1, none⟩) := h
   show V' 4 = .pointer (some ⟨w.heap.size, 1, none⟩)
   rw [← h1]
   exact h3
  | 5, hj =>
   obtain rfl := Option.some.inj hj
   have h3 : V 5 = .slice A2 n.ids.length c2 := h
   show V' 5 = .slice A2 n.ids.length c2
   rw [← h1]
   exact h3
  | 6, hj =>
   obtain rfl := Option.some.inj hj
   have h3 : OwnC W wa.heap.size n.ids (V 6) := h
   show OwnC W wa.heap.size n.ids (V' 6)
   rw [← h1]
   exact h3
  | 7, hj =>
   obtain rfl := Option.some.inj hj
   have h3 : V 7 = .pointer (some ⟨w.heap.size, 2, none⟩) := h
   show V' 7 = .pointer (some ⟨w.heap.size, 2, none⟩)
   rw [← h1]
   exact h3
  | 8, hj =>
   obtain rfl := Option.some.inj hj
   have h3 : V 8 = .slice A3 n.inputs.length c3 := h
   show V' 8 = .slice A3 n.inputs.length c3
   rw [← h1]
   exact h3
  | 9, hj =>
   obtain rfl := Option.some.inj hj
   have h26 := h2 _ rfl 6 (by decide +kernel)
   have h3 : OwnC W wa.heap.size n.inputs (V 9) ∧ ∀ j, (V 6).ownBlock = some j → (V 9).ownBlock ≠ some j := h
   show OwnC W wa.heap.size n.inputs (V' 9) ∧ ∀ j, (V' 6).ownBlock = some j → (V' 9).ownBlock ≠ some j
   rw [← h1, ← h26]
   exact h3
  | 10, hj =>
   obtain rfl := Option.some.inj hj
   have h23 := h2 _ rfl 3 (by decide +kernel)
   have h26 := h2 _ rfl 6 (by decide +kernel)
   have h29 := h2 _ rfl 9 (by decide +kernel)
   have h3 : V 10 = .agg #[V 3, V 6, V 9] := h
   show V' 10 = .agg #[V' 3, V' 6, V' 9]
   rw [← h1, ← h23, ← h26, ← h29]
   exact h3
  | 11, hj =>
   obtain rfl := Option.some.inj hj
   have h3 : NewB W wa.heap.size (V 11) := h
   show NewB W wa.heap.size (V' 11)
   rw [← h1]
   exact h3
  | j + 12, hj => simp at hj
 ·intro i o hi ho V W hW hd
  match i, ho with
  | 0, ho =>
   cases ho
   clear hd hi
   refine ⟨rfl, ?_⟩
   simp only [putAll, zR12, List.getElem?_toArray, List.getElem?_cons_succ, List.getElem?_cons_zero]
   (try simp only [zA])
   refine dstep_val (u := .pointer (some ⟨w.heap.size, 0, none⟩)) (W' := W) (by go_simp) ⟨since_refl _, ?_⟩
   exact upd_self V 0 _
  | 1, ho =>
   cases ho
   have e0 : V 0 = .pointer (some ⟨w.heap.size, 0, none⟩) := hd 0 (by decide +kernel)
   clear hd hi
   refine ⟨rfl, ?_⟩
   simp only [putAll, zR12, List.getElem?_toArray, List.getElem?_cons_succ, List.getElem?_cons_zero]
   (try simp only [zA])
   refine dstep_val (u := .slice A n.ends.length c) (W' := W) (by go_simp) ⟨since_refl _, ?_⟩
   exact upd_self V 1 _
  | 2, ho =>
   cases ho
   have e1 : V 1 = .slice A n.ends.length c := hd 1 (by decide +kernel)
   clear hd hi
   refine ⟨rfl, ?_⟩
   simp only [putAll, zR12, List.getElem?_toArray, List.getElem?_cons_succ, List.getElem?_cons_zero]
   (try simp only [zA])
   refine dstep_val (u := .int .i64 n.ends.length) (W' := W) (by go_simp) ⟨since_refl _, ?_⟩
   exact upd_self V 2 _
  | 3, ho =>
   cases ho
   have e2 : V 2 = .int .i64 n.ends.length := hd 2 (by decide +kernel)
   clear hd hi
   refine ⟨rfl, ?_⟩
   simp only [putAll, zR12, List.getElem?_toArray, List.getElem?_cons_succ, List.getElem?_cons_zero]
   (try simp only [zA])
   refine dstep_val (u := .slice (some ⟨W.heap.size, 0, none⟩) n.ends.length n.ends.length) (W' := W.alloc (.cells (Array.replicate n.ends.length (Value.slice none 0 0)) 81)) (by go_simp) ⟨since_alloc _ (since_refl _), ?_⟩
   show NewRows _ _ _ (upd V 3 _ 3)
   rw [upd_self]
   exact ⟨_, rfl, hW.below.size, lawEE.mono (ownEE_made W _ (by omega)) hW.below.size⟩
  | 4, ho =>
   cases ho
   clear hd hi
   refine ⟨rfl, ?_⟩
   simp only [putAll, zR12, List.getElem?_toArray, List.getElem?_cons_succ, List.getElem?_cons_zero]
   (try simp only [zA])
   refine dstep_val (u := .pointer (some ⟨w.heap.size, 1, none⟩)) (W' := W) (by go_simp) ⟨since_refl _, ?_⟩
   exact upd_self V 4 _
  | 5, ho =>
   cases ho
   have e4 : V 4 = .pointer (some ⟨w.heap.size, 1, none⟩) := hd 4 (by decide +kernel)
   clear hd hi
   refine ⟨rfl, ?_⟩
   simp only [putAll, zR12, List.getElem?_toArray, List.getElem?_cons_succ, List.getElem?_cons_zero]
   (try simp only [zA])
   refine dstep_val (u := .slice A2 n.ids.length c2) (W' := W) (by go_simp) ⟨since_refl _, ?_⟩
   exact upd_self V 5 _
  | 6, ho =>
   cases ho
   have e5 : V 5 = .slice A2 n.ids.length c2 := hd 5 (by decide +kernel)
   clear hd hi
   refine ⟨rfl, ?_⟩
   simp only [putAll, zR12, List.getElem?_toArray, List.getElem?_cons_succ, List.getElem?_cons_zero]
   (try simp only [zA])
   unfold DStep
   go_simp
   (with_reducible refine (clone_any _ n.ids W (HNi.out W hW) Hil.out).mono ?_)
   rintro e W1 ⟨u, rfl, ho, hb⟩
   refine ⟨_, rfl, hb, ?_⟩
   show OwnC _ _ _ (upd V 6 _ 6)
   rw [upd_self]
   exact Own.mono ho hW.below.size
  | 7, ho =>
   cases ho
   clear hd hi
   refine ⟨rfl, ?_⟩
   simp only [putAll, zR12, List.getElem?_toArray, List.getElem?_cons_succ, List.getElem?_cons_zero]
   (try simp only [zA])
   refine dstep_val (u := .pointer (some ⟨w.heap.size, 2, none⟩)) (W' := W) (by go_simp) ⟨since_refl _, ?_⟩
   exact upd_self V 7 _
  | 8, ho =>
   cases ho
   have e7 : V 7 = .pointer (some ⟨w.heap.size, 2, none⟩) := hd 7 (by decide +kernel)
   clear hd hi
   refine ⟨rfl, ?_⟩
   simp only [putAll, zR12, List.getElem?_toArray, List.getElem?_cons_succ, List.getElem?_cons_zero]
   (try simp only [zA])
   refine dstep_val (u := .slice A3 n.inputs.length c3) (W' := W) (by go_simp) ⟨since_refl _, ?_⟩
   exact upd_self V 8 _
  | 9, ho =>
   cases ho
   have e8 : V 8 = .slice A3 n.inputs.length c3 := hd 8 (by decide +kernel)
   have e6 : OwnC W wa.heap.size n.ids (V 6) := hd 6 (by decide +kernel)
   clear hd hi
   refine ⟨rfl, ?_⟩
   simp only [putAll, zR12, List.getElem?_toArray, List.getElem?_cons_succ, List.getElem?_cons_zero]
   (try simp only [zA])
   unfold DStep
   have E6 := Lib.hid e6
   clear e6
   go_simp
   (with_reducible refine (clone_any _ n.inputs W (HNn.out W hW) Hnl.out).mono ?_)
   rintro e W1 ⟨u, rfl, ho, hb⟩
   refine ⟨_, rfl, hb, ?_⟩
   show OwnC _ _ _ (upd V 9 _ 9) ∧ ∀ j, (upd V 9 _ 6).ownBlock = some j → (upd V 9 _ 9).ownBlock ≠ some j
   rw [upd_self, upd_ne V _ (show (6 : Nat) ≠ 9 by decide)]
   exact ⟨Own.mono ho hW.below.size, fun j hj hk => by have := (World.ownsRow.lt E6.out j hj).2; have := (World.ownsRow.lt ho j hk).1; omega⟩
  | 10, ho =>
   cases ho
   have e3 : NewRows W wa.heap.size n.ends.length (V 3) := hd 3 (by decide +kernel)
   have e6 : OwnC W wa.heap.size n.ids (V 6) := hd 6 (by decide +kernel)
   have e9 : OwnC W wa.heap.size n.inputs (V 9) ∧ ∀ j, (V 6).ownBlock = some j → (V 9).ownBlock ≠ some j := hd 9 (by decide +kernel)
   clear hd hi
   refine ⟨rfl, ?_⟩
   simp only [putAll, zR12, List.getElem?_toArray, List.getElem?_cons_succ, List.getElem?_cons_zero]
   (try simp only [zA])
   obtain ⟨g, h3, -⟩ := e3
   obtain ⟨B6, d6, h6, -⟩ := Own.ints e6
   obtain ⟨B9, d9, h9, -⟩ := Own.ints e9.1
   clear e6 e9
   refine dstep_val (u := .agg #[V 3, V 6, V 9]) (W' := W) (by rw [h3, h6, h9]; go_simp) ⟨since_refl _, ?_⟩
   show upd V 10 _ 10 = .agg #[upd V 10 _ 3, upd V 10 _ 6, upd V 10 _ 9]
   rw [upd_self, upd_ne V _ (show (3 : Nat) ≠ 10 by decide), upd_ne V _ (show (6 : Nat) ≠ 10 by decide), upd_ne V _ (show (9 : Nat) ≠ 10 by decide)]
  | 11, ho =>
   cases ho
   clear hd hi
   refine ⟨rfl, ?_⟩
   simp only [putAll, zR12, List.getElem?_toArray, List.getElem?_cons_succ, List.getElem?_cons_zero]
   (try simp only [zA])
   refine dstep_val (u := .pointer (some ⟨W.heap.size, 0, none⟩)) (W' := W.alloc (.cells #[.slice none 0 0, .slice none 0 0, .slice none 0 0] 27)) (by go_simp) ⟨since_alloc _ (since_refl _), ?_⟩
   show NewB _ _ (upd V 11 _ 11)
   rw [upd_self]
   exact NewB.new _ hW.below.size
  | i + 12, ho => omega
 intro V W hW hV
 have e0 : V 0 = .pointer (some ⟨w.heap.size, 0, none⟩) := hV 0 (by decide)
 have e1 : V 1 = .slice A n.ends.length c := hV 1 (by decide)
 have e2 : V 2 = .int .i64 n.ends.length := hV 2 (by decide)
 have e3 : NewRows W wa.heap.size n.ends.length (V 3) := hV 3 (by decide)
 have e4 : V 4 = .pointer (some ⟨w.heap.size, 1, none⟩) := hV 4 (by decide)
 have e5 : V 5 = .slice A2 n.ids.length c2 := hV 5 (by decide)
 have e6 : OwnC W wa.heap.size n.ids (V 6) := hV 6 (by decide)
 have e7 : V 7 = .pointer (some ⟨w.heap.size, 2, none⟩) := hV 7 (by decide)
 have e8 : V 8 = .slice A3 n.inputs.length c3 := hV 8 (by decide)
 have e9 : OwnC W wa.heap.size n.inputs (V 9) ∧ ∀ j, (V 6).ownBlock = some j → (V 9).ownBlock ≠ some j := hV 9 (by decide)
 have e10 : V 10 = .agg #[V 3, V 6, V 9] := hV 10 (by decide)
 have e11 : NewB W wa.heap.size (V 11) := hV 11 (by decide)
 clear hV
 simp only [putAll, zR12, List.getElem?_toArray, List.getElem?_cons_succ, List.getElem?_cons_zero]
 (try simp only [zA])
 simp only [List.drop_succ_cons, List.drop_zero]
 obtain ⟨g, h3, hgb, hge⟩ := e3
 obtain ⟨ob, h11, hob, hbx⟩ := e11
 obtain ⟨BI, dI, h6, -⟩ := id (Own.ints e6)
 obtain ⟨BN, dN, h9, -⟩ := id (Own.ints e9.1)
 rw [h3, h6, h9] at e10
 have HO1 : Hid (Own W wa.heap.size (.slice BI n.ids.length dI) n.ids) := by show Own _ _ _ _; rw [← h6]; exact e6
 have HO2 : Hid (Own W wa.heap.size (.slice BN n.inputs.length dN) n.inputs) := by show Own _ _ _ _; rw [← h9]; exact e9.1
 have Hd3 : Hid (∀ j, (Value.slice BI n.ids.length dI).ownBlock = some j → (Value.slice BN n.inputs.length dN).ownBlock ≠ some j) := by show ∀ j, _; rw [← h6, ← h9]; exact e9.2
 have Hge := Lib.hid hge
 have HBx := Lib.hid hbx
 obtain ⟨c0, c1, c2', f0, f1, f2⟩ := hbx.box.cells
 rw [e0, e1, e2, h3, e4, e5, h6, e7, e8, h9, e10, h11]
 clear e0 e1 e2 e4 e5 e6 e7 e8 e9 e10 h3 h6 h9 h11 hge hbx hgb V
 go_upto_region 2 with (fail)
 obtain ⟨w4, hw4⟩ : ∃ w4, w4 = ((W.setCell ⟨ob, 0, none⟩ (.slice (some ⟨g, 0, none⟩) n.ends.length n.ends.length)).setCell ⟨ob, 1, none⟩ (.slice BI n.ids.length dI)).setCell ⟨ob, 2, none⟩ (.slice BN n.inputs.length dN) := ⟨_, rfl⟩
 rw [← hw4]
 have HB4 : Hid (BoxN w4 ob (.slice (some ⟨g, 0, none⟩) n.ends.length n.ends.length) (.slice BI n.ids.length dI) (.slice BN n.inputs.length dN)) := by show BoxN _ _ _ _ _; rw [hw4]; exact ((HBx.out.put0 _).put1 _).put2 _
 have HS4 : Hid (Since wa w4) := by show Since _ _; rw [hw4]; exact (((hW.setCell hob _).setCell hob _).setCell hob _)
 have hon4 : Only [ob] W w4 := by rw [hw4]; exact ((((Only.refl _ _).setCell (.inl (by simp)) _).setCell (.inl (by simp)) _).setCell (.inl (by simp)) _)
 have hne1 := own_neN HO1.out HBx.out
 have hne2 := own_neN HO2.out HBx.out
 have hne3 := own_neR HO1.out Hge.out
 have hne4 := own_neR HO2.out Hge.out
 have hne5 := boxN_neR HBx.out Hge.out
 have HN4 : Hid (∃ S, OwnNet w4 wa.heap.size (.slice (some ⟨g, 0, none⟩) n.ends.length n.ends.length) (.slice BI n.ids.length dI) (.slice BN n.inputs.length dN) ⟨List.replicate n.ends.length [], n.ids, n.inputs⟩ S ∧ ob ∉ S) := by
  show ∃ S, _
  have h1 : Own w4 wa.heap.size (.slice BI n.ids.length dI) n.ids := ownsRow_stable HO1.out (fun j hj => hon4.block j (World.ownsRow.lt HO1.out j (by simpa using hj)).2 (fun e => hne1 (by simp at e; subst e; simpa using hj)))
  have h2 : Own w4 wa.heap.size (.slice BN n.inputs.length dN) n.inputs := ownsRow_stable HO2.out (fun j hj => hon4.block j (World.ownsRow.lt HO2.out j (by simpa using hj)).2 (fun e => hne2 (by simp at e; subst e; simpa using hj)))
  have h3 := lawEE.only Hge.out hon4 (fun j hj e => hne5 (by simp at hj e; omega))
  refine ⟨_, ownNet_of h3 h1 h2 (fun j hj => by simp at hj; subst hj; exact hne3) (fun j hj => by simp at hj; subst hj; exact hne4) Hd3.out, fun hm => ?_⟩
  rcases List.mem_append.1 hm with hm | hm
  ·simp at hm; exact hne5 hm
  ·rcases List.mem_append.1 hm with hm | hm
   ·exact hne1 (by simpa using hm)
   ·exact hne2 (by simpa using hm)
 have Hob := Lib.hid hob
 clear hw4 hon4 hne1 hne2 hne3 hne4 hne5 Hd3 HO1 HO2 HBx Hge c0 c1 c2' f0 f1 f2 hW hob
 have hs4 := HS4.out
 go_wp2
 go_loopw [20] (fun i wr => ∃ (k : Nat) (S : List Nat), k ≤ n.ends.length ∧ i = .int .i64 k ∧ OwnNet wr wa.heap.size (.slice (some ⟨g, 0, none⟩) n.ends.length n.ends.length) (.slice BI n.ids.length dI) (.slice BN n.inputs.length dN) ⟨n.ends.take k ++ List.replicate (n.ends.length - k) [], n.ids, n.inputs⟩ S ∧ ob ∉ S ∧ BoxN wr ob (.slice (some ⟨g, 0, none⟩) n.ends.length n.ends.length) (.slice BI n.ids.length dI) (.slice BN n.inputs.length dN) ∧ Since wa wr) (fun i _ => n.ends.length - (intOf i).toNat)
 case atStart => obtain ⟨S, hS, hSo⟩ := HN4.out; exact ⟨0, S, Nat.zero_le _, rfl, by simpa using hS, hSo, HB4.out, HS4.out⟩
 case round =>
  obtain ⟨k, S, hk, rfl, hon, hobS, hbx, hsr⟩ := hrel
  have Hon := Lib.hid hon
  have HobS := Lib.hid hobS
  have Hbx := Lib.hid hbx
  clear hs4 hon hobS
  by_cases hlt : k < n.ends.length
  ·obtain ⟨es, hes⟩ := getx n.ends k hlt
   obtain ⟨b, offr, cr, ur, hA1, hkr, hc1, hrow⟩ := row_at (HNe.out wa (since_refl _)) hes
   cases hA1
   have q5 := have_cell hc1
   have HE := Lib.hid (show ∀ X, Since wa X → EndS X ur es from fun X hX => hrow.keep hX.below)
   have Hes := Lib.hid hes
   have Hel := Lib.hid (HRow.out k es hes)
   have Hsr := Lib.hid hsr
   clear hc1 hrow hes
   go_upto_region 5 with (fail)
   have t0 := have_cell hbx.box.cells.1
   have h00 : Since wr wr := since_refl _
   clear q5 q00 q01 q02 hsr hbx
   refine wp_region_chain0 (w0 := wr) 5 [false, false, false, false, true] (by kernel_rfl) (by kernel_rfl) (h00) ?_
   simp only [selF, selT, List.take_succ_cons, List.take_zero, List.drop_succ_cons, List.drop_zero]
   refine pflow_val (v := ?_) rfl ?_ ?_; rotate_left; (intro W hW; go_simp; with_reducible rfl)
   simp only [zA]
   refine pflow_val (v := ?_) rfl ?_ ?_; rotate_left; (intro W hW; go_simp; with_reducible rfl)
   simp only [zA]
   refine pflow_val (v := ?_) rfl ?_ ?_; rotate_left; (intro W hW; go_simp; with_reducible rfl)
   simp only [zA]
   refine pflow_val (v := ?_) rfl ?_ ?_; rotate_left; (intro W hW; go_simp; with_reducible rfl)
   simp only [zA]
   obtain ⟨W, hWd⟩ : ∃ W, W = World.drew wr := ⟨_, rfl⟩
   rw [← hWd]
   have hW : Since wr W := by rw [hWd]; exact since_drew (h00)
   refine Or.inl ⟨rfl, ?_⟩
   go_simp
   (with_reducible refine (cloneE_any _ es _ (HE.out _ (Hsr.out.after (since_drew (since_refl _)))) (by have := Hel.out; omega)).mono ?_)
   rintro e W' ⟨u, T, rfl, ho, hb⟩
   refine ⟨_, rfl, (since_drew (since_refl _)).trans hb, ?_⟩
   replace hW := (since_drew (since_refl _)).trans hb
   have HT : Hid (∀ j ∈ T, j ∉ S) := (fun j hj hS => by have h1 : wr.heap.size ≤ j := (lawE.range ho j hj).1; have := (Hon.out.range j hS).2; omega)
   have HTo : Hid (ob ∉ T) := (fun hj => by have h1 : wr.heap.size ≤ ob := (lawE.range ho ob hj).1; have := Hbx.out.lt; omega)
   obtain ⟨AQ, mQ, cQ, hvQ⟩ := lawE.one ho
   subst hvQ
   have Ho := Lib.hid (lawE.mono ho Hsr.out.below.size)
   clear ho hb
   (try simp only [zA])
   simp only [TFlow]
   have hon' := Hon.out.keep hW.below
   obtain ⟨uu, TT, cz, fz, _, _, _, hgS⟩ := hon'.rowCell (k := k) (x := []) (by have hl : (n.ends.take k).length = k := (by rw [List.length_take]; omega); rw [List.getElem?_append_right (by rw [hl]; exact Nat.le_refl _), hl, Nat.sub_self, List.getElem?_replicate, if_pos (by omega)])
   have Hon' := Lib.hid hon'
   have HS' := Lib.hid hW
   have HgS := Lib.hid hgS
   clear hon' hW t0 hgS
   go_wp2
   go_roundw
   case rel =>
    obtain ⟨S', hS', hm⟩ := Hon'.out.storeRow k Ho.out HT.out
    have e := set_fill [] n.ends k es Hes.out
    simp only [e] at hS'
    have hobn : ob ∉ S' := fun hj => by
     rcases hm ob hj with h | h
     ·exact HobS.out h
     ·exact HTo.out h
    refine ⟨k + 1, S', by omega, by go_num, hS', hobn, (Hbx.out.since HS'.out).other (fun e => HobS.out (e ▸ HgS.out)), (Hsr.out.after HS'.out).setCell ((Hon.out.range g HgS.out).1) _⟩
   case measure => simp [intOf]; omega
  ·obtain rfl : k = n.ends.length := by omega
   have h01 : w0.heap.size = w.heap.size + 1 := by rw [Hw0.out]; simp
   have HR := HRb.out wr hsr
   rw [h01] at HR
   have Hza1 : Hid (w.heap.size + 1 < wa.heap.size) := by show _ < _; rw [Hza.out]; omega
   obtain ⟨c0, c1, c2', _, _, _⟩ := Hbx.out.box.cells
   obtain ⟨d0, d1, d2, f0, f1, f2⟩ := HR.box.cells
   have Hsr := Lib.hid hsr
   have HR' := Lib.hid HR
   clear HR hbx hsr hlt hk h01
   go_wp2
   refine bodyPost_ret (v := .agg #[.slice (some ⟨g, 0, none⟩) n.ends.length n.ends.length, .slice BI n.ids.length dI, .slice BN n.inputs.length dN]) (by simp [results, Tryz.results59, go_sem, *]) rfl ?_
   have hx := Hon.out
   rw [List.take_length, Nat.sub_self, List.replicate_zero, List.append_nil] at hx
   refine ⟨_, _, _, S, rfl, ?_, ?_⟩
   ·refine (hx.stable (fun j hj => ?_)).mono (Nat.le_trans Hb0.out.size Hsa.out.below.size)
    have hj1 := (Hon.out.range j hj).1
    have hj2 := Hza1.out
    rw [Below.heap_setCell _ _ _ j (by simp; omega), Below.heap_setCell _ _ _ j (by simp; omega), Below.heap_setCell _ _ _ j (by simp; omega)]
   ·exact (((Below.trans Hb0.out ((Hsa.out.after Hsr.out).below.mono Hb0.out.size)).setCell (by simp) _).setCell (by simp) _).setCell (by simp) _
end Go.Proofs.YtgmdpppljkmabaaGreat
