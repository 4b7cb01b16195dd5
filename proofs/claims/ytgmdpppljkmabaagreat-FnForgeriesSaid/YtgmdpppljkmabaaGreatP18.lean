/- Parts of the proof: walks of functions and plain laws. -/
import Derived.Test.YtgmdpppljkmabaaGreatP0
import Derived.Test.YtgmdpppljkmabaaGreatP14
import Derived.Test.YtgmdpppljkmabaaGreatP15
import Derived.Test.YtgmdpppljkmabaaGreatP16
import Derived.Test.YtgmdpppljkmabaaGreatP17
import Derived.Test.YtgmdpppljkmabaaGreatP1
import Derived.Test.YtgmdpppljkmabaaGreatP6
import Derived.Test.YtgmdpppljkmabaaGreatP10
import Derived.Test.YtgmdpppljkmabaaGreatP9
import Derived.Test.YtgmdpppljkmabaaGreatP2
set_option maxRecDepth 100000
set_option maxHeartbeats 16000000
namespace Go.Proofs.YtgmdpppljkmabaaGreat
open Go Go.RowKit
def lD (B : Nat) : List Int → Nat
 | [] => 0
 | x :: xs => x.toNat * B ^ xs.length + lD B xs
theorem zw {B : Nat} (hB : 0 < B) : ∀ l : List Int,(∀ x ∈ l,0 ≤ x ∧ x < B) → lD B l < B ^ l.length
 | [],_ => by simp [lD]
 | x :: xs,h => by
  have h1:=zw hB xs fun y hy => h y (List.mem_cons_of_mem _ hy)
  have h2:=h x List.mem_cons_self;have h3 : x.toNat + 1 ≤ B:=by omega
  have h4:=Nat.mul_le_mul_right (B ^ xs.length) h3;rw [Nat.add_mul,Nat.one_mul] at h4;rw [lD,List.length_cons,Nat.pow_succ,Nat.mul_comm (B ^ xs.length) B];omega
theorem rP (B : Nat) (x : Int) : ∀ l : List Int,lD B (l ++ [x]) = lD B l * B + x.toNat
 | [] => by simp [lD]
 | y :: l => by
  rw [List.cons_append,lD,lD,rP B x l,List.length_append,List.length_singleton,Nat.pow_succ,Nat.add_mul,Nat.mul_assoc,Nat.add_assoc]
theorem vA (B n k : Nat) : dp B (n + 1) k = dp B n (k / B) ++ [((k % B : Nat) : Int)]:=by
 simp [dp,mX,rM]
theorem yA {B : Nat} (hB : 0 < B) : ∀ (n : Nat) (l : List Int),l.length = n → (∀ x ∈ l,0 ≤ x ∧ x < B) → dp B n (lD B l) = l
 | 0,l,hl,_ => by
  have : l = []:=List.length_eq_zero_iff.1 hl
  subst this;rfl
 | n + 1,l,hl,h => by
  rcases List.eq_nil_or_concat l with rfl | ⟨l',x,rfl⟩
  ·simp at hl
  ·have hx:=h x (by simp);have hlt : x.toNat < B:=by omega
   have G4 : l'.length = n:=by simpa using hl
   rw [List.concat_eq_append,rP,vA,Nat.mul_comm,Nat.mul_add_div hB,Nat.div_eq_of_lt hlt,Nat.add_zero,Nat.mul_add_mod,Nat.mod_eq_of_lt hlt,yA hB n l' G4 fun y hy => h y (by simp [hy])]
   congr 2
   omega
theorem yB {B : Nat} (hB : 0 < B) : ∀ (n k : Nat),k < B ^ n → lD B (dp B n k) = k
 | 0,k,h => by
  have : k = 0:=by simpa using h
  subst this;rfl
 | n + 1,k,h => by
  have h1 : k / B < B ^ n:=by rw [Nat.div_lt_iff_lt_mul hB];rw [Nat.pow_succ] at h;exact h
  rw [vA,rP,yB hB n _ h1,Int.toNat_natCast,Nat.mul_comm];exact Nat.div_add_mod k B
theorem Cc {B : Nat} (hB : 0 < B) : ∀ (l t : List Int),l.length = t.length → (∀ x ∈ l,0 ≤ x ∧ x < B) → (∀ x ∈ t,0 ≤ x ∧ x < B) → (∃ i,i < l.length ∧ (∀ j,j < i → t.getD j 0 = l.getD j 0) ∧ l.getD i 0 < t.getD i 0) → lD B l < lD B t
 | [],_,_,_,_,⟨i,hi,_⟩ => by simp at hi
 | _ :: _,[],hl,_,_,_ => by simp at hl
 | x :: xs,y :: ys,hl,h1,h2,⟨i,hi,hj,hlt⟩ => by
  have G4 : xs.length = ys.length:=by simpa using hl
  have hx:=h1 x List.mem_cons_self;have hy:=h2 y List.mem_cons_self;have Fr : ∀ z ∈ xs,0 ≤ z ∧ z < (B : Int):=fun z hz => h1 z (List.mem_cons_of_mem _ hz)
  have Ud : ∀ z ∈ ys,0 ≤ z ∧ z < (B : Int):=fun z hz => h2 z (List.mem_cons_of_mem _ hz)
  cases i with
  | zero =>
   have h3 : x < y:=hlt;have h4:=zw hB xs Fr;have h5 : x.toNat + 1 ≤ y.toNat:=by omega
   have h6:=Nat.mul_le_mul_right (B ^ xs.length) h5;rw [Nat.add_mul,Nat.one_mul] at h6;rw [lD,lD,← G4];omega
  | succ i =>
   have h0 : y = x:=hj 0 (by omega);subst h0
   have:=Cc hB xs ys G4 Fr Ud ⟨i,by simpa using hi,fun j CN => hj (j + 1) (by omega),hlt⟩
   rw [lD,lD,G4];omega
theorem yC {most : Int} (h0 : 0 ≤ most) : ∀ (n : Nat) {c : Int},dy most n = some c → c.toNat = (most.toNat + 1) ^ n
 | 0,c,h => by simp [dy] at h;subst h;rfl
 | n + 1,c,h => by
  rw [dy] at h
  split at h
  ·cases h
  ·rename_i c' DA
   have ih:=yC h0 n DA;have h1:=(jI h0 n DA).1
   split at h
   ·cases h
   ·injection h with h
    subst h;rw [Nat.pow_succ,← ih,Int.toNat_mul (by omega) (by omega)];congr 1
    omega
theorem Em {n : am} {s : Int} {B : Nat} : ∀ K k : Nat,k < K → (dB n s B K).1 ≤ (iT n s (dp B n.ends.length k)).length
 | 0,_,h => by omega
 | K + 1,k,h => by
  unfold dB
  by_cases e : k = K
  ·subst e
   split
   ·exact Nat.le_refl _
   ·omega
  ·have ih:=Em (n:=n) (s:=s) (B:=B) K k (by omega)
   split
   ·show (iT n s (dp B n.ends.length K)).length ≤ _;omega
   ·exact ih
theorem KU {n : am} {s : Int} {B : Nat} : ∀ K : Nat,0 < K → ∃ k,k < K ∧ (dB n s B K).2 = dp B n.ends.length k ∧ (dB n s B K).1 = (iT n s (dp B n.ends.length k)).length ∧ ∀ j,j < k → (dB n s B K).1 < (iT n s (dp B n.ends.length j)).length
 | 0,h => by omega
 | K + 1,_ => by
  have n9:=fun k => FR n s (dp B n.ends.length k)
  simp only [dS] at n9
  by_cases h0 : K = 0
  ·subst h0;refine ⟨0,by omega,?_⟩
   unfold dB
   have:=n9 0
   rw [if_pos (show (iT n s (dp B n.ends.length 0)).length < (dB n s B 0).1 from Nat.lt_succ_of_le this)];exact ⟨rfl,rfl,fun j hj => by omega⟩
  ·obtain ⟨k,hk,e1,e2,e3⟩:=KU (n:=n) (s:=s) (B:=B) K (by omega);unfold dB
   split
   ·rename_i hlt
    refine ⟨K,by omega,rfl,rfl,fun j hj => ?_⟩
    have:=Em (n:=n) (s:=s) (B:=B) K j hj
    show (iT n s (dp B n.ends.length K)).length < _
    omega
   ·exact ⟨k,by omega,e1,e2,e3⟩
theorem zx {n : am} {s : Int} {B : Nat} : ∀ K : Nat,0 < iL n s B K ↔ ∃ k,k < K ∧ (iT n s (dp B n.ends.length k)).length = 0
 | 0 => by simp [iL]
 | K + 1 => by
  unfold iL;have ih:=zx (n:=n) (s:=s) (B:=B) K;constructor
  ·intro h
   split at h
   ·rename_i h0
    exact ⟨K,by omega,h0⟩
   ·obtain ⟨k,hk,h1⟩:=ih.1 (by omega);exact ⟨k,by omega,h1⟩
  ·rintro ⟨k,hk,h1⟩
   by_cases e : k = K
   ·subst e;rw [if_pos h1];omega
   ·have:=ih.2 ⟨k,by omega,h1⟩
    omega
theorem tm {n : am} {s : Int} {ls : List Int} (hl : ls.length = n.ends.length) : (iT n s ls).length = 0 ↔ cY n s ls:=by
 unfold iT cY gR
 rw [List.length_eq_zero_iff,List.filter_eq_nil_iff];unfold gJ;constructor
 ·intro h v hv
  have:=h (v : Int) (List.mem_map.2 ⟨v,List.mem_range.2 (by omega),rfl⟩)
  simpa using this
 ·intro h x hx;obtain ⟨v,hv,rfl⟩:=List.mem_map.1 hx
  have:=h v (by have:=List.mem_range.1 hv;omega)
  simpa using this
theorem Vk {n : am} {s most : Int} {ls : List Int} (hl : ls.length = n.ends.length) (h : cY n s ls) (hr : ∀ x ∈ ls,0 ≤ x ∧ x ≤ most) : Tc n (accG n s 0) most ls ∨ s = 0:=by
 by_cases e : s = 0
 ·exact .inr e
 ·refine .inl fun v hv => ⟨?_,?_⟩
  ·have : ls.getD v 0 ∈ ls:=by
    rw [zDd,List.getElem?_eq_getElem (by omega)];exact List.getElem_mem _
   exact hr _ this
  ·unfold accG;rw [if_neg e];exact h v hv
theorem Vl {n : am} {s most : Int} {ls : List Int} (hs : s ≠ 0) (hl : ls.length = n.ends.length) (h : Tc n (accG n s 0) most ls) : cY n s ls ∧ ∀ x ∈ ls,0 ≤ x ∧ x ≤ most:=by
 constructor
 ·intro v hv
  have:=(h v hv).2
  unfold accG at this;rw [if_neg hs] at this;exact this
 ·intro x hx;obtain ⟨i,hi,rfl⟩:=List.mem_iff_getElem.1 hx
  have:=(h i (by omega)).1
  rw [zDd,List.getElem?_eq_getElem hi] at this;exact this
theorem vB (n : am) (s : Int) (hs : s ≠ 0) : qS n (accG n s 0):=by
 have : accG n s 0 = fun ls w => fi n s ls w:=by
  funext ls w
  unfold accG;rw [if_neg hs]
 rw [this];exact H5 n s
theorem Iq (n : am) (m : Int) : qS n (accG n 0 m):=by
 intro l t v _ h0 h1
 have e : aw l (n.ends.getD v []) = aw t (n.ends.getD v []):=by
  unfold aw;refine List.map_congr_left fun x hx => ?_
  exact h1 x hx
 unfold accG;rw [if_pos rfl,if_pos rfl,h0,e]
structure En (n : am) (s most steps : Int) : Prop where
 net : an n = true
 sch : 1 ≤ s ∧ s ≤ 5
 lab : 0 ≤ most ∧ most ≤ 999999999999
theorem vC {n : am} {s most steps : Int} (h : iN n s most steps = true) : En n s most steps:=by
 unfold iN at h;rw [Bool.and_eq_true,Bool.and_eq_true,Bool.and_eq_true,aM,aM] at h;exact ⟨h.1.1.1,h.1.1.2,h.1.2⟩
theorem KV {n : am} {s most steps : Int} (h : En n s most steps) (h1 : (dY n s 0 most steps).2.1 = 1) : cY n s (dY n s 0 most steps).1 ∧ (∀ x ∈ (dY n s 0 most steps).1,0 ≤ x ∧ x ≤ most) ∧ (dY n s 0 most steps).1.length = n.ends.length:=by
 have hs : s ≠ 0:=by have:=h.sch;omega
 obtain ⟨h2,h3⟩:=qU h.net (vB n s hs) h.lab.1 _ _ 0 0 (oN.start n (accG n s 0) most h.lab.1) (Nat.zero_le _) h1;obtain ⟨h4,h5⟩:=Vl hs h3 h2;exact ⟨h4,h5,h3⟩
theorem Eo {n : am} {s most steps : Int} (h : En n s most steps) {t : List Int} (hl : t.length = n.ends.length) (ha : cY n s t) (hr : ∀ x ∈ t,0 ≤ x ∧ x ≤ most) : (dY n s 0 most steps).2.1 ≠ 2 ∧ ((dY n s 0 most steps).2.1 = 1 → gT n.ends.length (dY n s 0 most steps).1 t n.ends.length):=by
 have hs : s ≠ 0:=by have:=h.sch;omega
 rcases Vk hl ha hr with h1 | h1
 ·have h0:=(aN h.net).1;exact qT h.net (vB n s hs) h.lab.1 t h1 _ _ 0 0 (oN.start n (accG n s 0) most h.lab.1) (Nat.zero_le _) (gT.start h0 (h1 0 h0).1.1)
 ·exact absurd h1 hs
theorem KW {n : am} {s most steps : Int} (h3 : av n s most steps = true) (h1 : ap n s most steps = 1) : eM n s (ay n s most steps) = true ∧ cC n s (ay n s most steps) = true ∧ (bx n s = true → aQ n s = true):=by
 unfold av at h3;unfold ap at h1;rw [if_pos h3] at h1;have h:=vC h3;obtain ⟨h4,h5,h6⟩:=KV h h1;unfold ay;rw [if_pos h3]
 have hl : eL n s (dY n s 0 most steps).1 = true:=gA.2 ⟨h.net,h.sch,h6,fun x hx => by have:=h5 x hx;have:=h.lab;omega⟩
 refine ⟨hl,?_,fun hk => ?_⟩
 ·unfold cC;rw [hl,(tm h6).2 h4];rfl
 ·unfold bx at hk;unfold aQ;rw [Bool.and_eq_true] at hk ⊢;exact ⟨hk.1,Nw hl h4 hk.2⟩
theorem KX {n : am} {s most steps : Int} (h3 : av n s most steps = true) (hp : aQ n s = true) (Bt : ∀ x ∈ bh n s,x ≤ most) : ap n s most steps ≠ 2:=by
 unfold av at h3;have h:=vC h3;have x7 : bw n s = true:=hp;unfold bh at Bt;rw [if_pos x7] at Bt;unfold aQ at hp;rw [Bool.and_eq_true] at hp;have hk:=O_ h.net h.sch hp.2;unfold ap;rw [if_pos h3];exact (Eo h hk.len hk.acc fun x hx => ⟨(hk.rng x hx).1,Bt x hx⟩).1
structure Ga (n : am) (s most steps : Int) : Prop where
 cnt : decide (0 < aE n s most) = decide (aJ n s most = 0)
 rej : dH n s (aF n s most) = true
 num : ((bM n s (aF n s most)).length : Int) = aJ n s most
 yes : ap n s most steps = 1 → aE n s most ≠ 0
 no : ap n s most steps = 2 → ¬ 0 < aE n s most
 fst : aJ n s most = 0 → ap n s most steps = 1 → aF n s most = ay n s most steps
theorem KY {n : am} {s most steps : Int} (h3 : av n s most steps = true) (hc : ax n s most = true) : Ga n s most steps:=by
 obtain ⟨hn,dm,mo,c,tg,f6,pF,eS,lm,hli⟩:=QO hc;unfold av at h3;have h:=vC h3
 have Vm : c = (mo + 1) ^ n.ends.length:=by
  have:=yC h.lab.1 _ pF
  rw [tg] at this;simpa using this
 obtain ⟨k0,zS,e1,e2,e3⟩:=KU (n:=n) (s:=s) (B:=mo + 1) c eS;have dC:=fun k => BS (B:=mo + 1) (by omega) n.ends.length k
 have Ir : ∀ k,∀ x ∈ dp (mo + 1) n.ends.length k,0 ≤ x ∧ x ≤ most:=fun k x hx => by
  have:=dC k x hx
  rw [tg];omega
 have Cd : ∀ l : List Int,l.length = n.ends.length → (∀ x ∈ l,0 ≤ x ∧ x ≤ most) → (∀ x ∈ l,0 ≤ x ∧ x < ((mo + 1 : Nat) : Int)):=fun l _ h1 x hx => by
  have:=h1 x hx
  rw [tg] at this;omega
 have d0 : aE n s most = (iL n s (mo + 1) c : Int):=by
  unfold aE;rw [if_pos hc,hli,tg];rfl
 have d1 : aJ n s most = ((dB n s (mo + 1) c).1 : Int):=by
  unfold aJ;rw [if_pos hc,hli,tg];rfl
 have d2 : aF n s most = dp (mo + 1) n.ends.length k0:=by
  unfold aF;rw [if_pos hc,hli,tg];exact e1
 have xk : eL n s (dp (mo + 1) n.ends.length k0) = true:=gA.2 ⟨hn,h.sch,dS _ _ _,fun x hx => by have:=Ir k0 x hx;have:=h.lab;omega⟩
 have n8 : 0 < iL n s (mo + 1) c ↔ (dB n s (mo + 1) c).1 = 0:=by
  rw [zx];constructor
  ·rintro ⟨k,hk,h1⟩
   have:=Em (n:=n) (s:=s) (B:=mo + 1) c k hk
   omega
  ·intro h1;exact ⟨k0,zS,by omega⟩
 have KZ : ap n s most steps = 1 → ay n s most steps = (dY n s 0 most steps).1 ∧ (dY n s 0 most steps).2.1 = 1 ∧ lD (mo + 1) (dY n s 0 most steps).1 < c ∧ dp (mo + 1) n.ends.length (lD (mo + 1) (dY n s 0 most steps).1) = (dY n s 0 most steps).1 ∧ (iT n s (dY n s 0 most steps).1).length = 0:=fun h1 => by
  unfold ap at h1;rw [if_pos h3] at h1;obtain ⟨h4,h5,h6⟩:=KV h h1;have h7:=Cd _ h6 h5
  refine ⟨by unfold ay;rw [if_pos h3],h1,?_,yA (by omega) _ _ h6 h7,(tm h6).2 h4⟩
  have:=zw (B:=mo + 1) (by omega) _ h7
  rw [h6] at this;rw [Vm];exact this
 refine ⟨?_,?_,?_,?_,?_,?_⟩
 ·rw [d0,d1,decide_eq_decide];constructor
  ·intro h1;have:=n8.1 (by omega);omega
  ·intro h1;have:=n8.2 (by omega);omega
 ·rw [d2];exact xk
 ·rw [d2,d1,e2];unfold bM;rw [if_pos xk]
 ·intro h1;obtain ⟨-,-,h4,h5,h6⟩:=KZ h1
  have:=(zx _).2 ⟨_,h4,by rw [h5];exact h6⟩
  rw [d0];omega
 ·intro h1 h2;rw [d0] at h2;have h5:=e2.symm.trans (n8.1 (by omega));have h4:=(tm (dS _ _ _)).1 h5;have h6:=(Eo (steps:=steps) h (dS _ _ _) h4 (Ir k0)).1;unfold ap at h1;rw [if_pos h3] at h1;exact h6 h1
 ·intro h1 h2;obtain ⟨h4,h5,h6,h7,h8⟩:=KZ h2;rw [d1] at h1;have h9:=e2.symm.trans (show _ = 0 by omega)
  have h10:=(tm (dS _ _ _)).1 h9;have h11:=(Eo (steps:=steps) h (dS _ _ _) h10 (Ir k0)).2 h5;obtain ⟨-,rV,h6'⟩:=KV h h5;rw [d2,h4]
  have hge : k0 ≤ lD (mo + 1) (dY n s 0 most steps).1:=by
   rcases Nat.lt_or_ge (lD (mo + 1) (dY n s 0 most steps).1) k0 with hlt | hge
   ·have jZ:=e3 _ hlt;rw [h7,h8] at jZ;omega
   ·exact hge
  rcases h11 with ⟨i,-,hi,hj,hlt⟩ | ⟨-,Yg⟩
  ·have jZ:=Cc (B:=mo + 1) (by omega) _ _ (by rw [h6',dS]) (Cd _ h6' rV) (dC k0) ⟨i,by omega,hj,hlt⟩
   rw [yB (by omega) _ _ (by rw [← Vm];exact zS)] at jZ
   omega
  ·apply List.ext_getElem?
   intro j
   by_cases yO : j < n.ends.length
   ·have:=Yg j yO
    rw [zDd,zDd,List.getElem?_eq_getElem (by rw [dS];exact yO),List.getElem?_eq_getElem (by omega)] at this
    rw [List.getElem?_eq_getElem (by rw [dS];exact yO),List.getElem?_eq_getElem (by omega)]
    simpa using this
   ·rw [List.getElem?_eq_none (by rw [dS];omega),List.getElem?_eq_none (by omega)]
theorem K0 {n : am} {m steps : Int} (h3 : az n m steps = true) (h1 : aR n m steps = 1) : aC n m (aG n m steps) = true ∧ (bX n m (aG n m steps)).length = 0:=by
 have h:=h3;unfold az at h;rw [Bool.and_eq_true,Bool.and_eq_true,aM] at h;obtain ⟨⟨hn,hm⟩,-⟩:=h;unfold aR at h1;rw [if_pos h3] at h1;obtain ⟨h4,h5⟩:=qU hn (Iq n m) (show 0 ≤ m - 1 by omega) _ _ 0 0 (oN.start n (accG n 0 m) (m - 1) (by omega)) (Nat.zero_le _) h1
 have h4 : Tc n (accG n 0 m) (m - 1) (dY n 0 m (m - 1) steps).1:=h4;have h5 : (dY n 0 m (m - 1) steps).1.length = n.ends.length:=h5
 have e : aG n m steps = (dY n 0 m (m - 1) steps).1:=by
  unfold aG;rw [if_pos h3]
 rw [e];obtain ⟨l,hl⟩ : ∃ z,z = (dY n 0 m (m - 1) steps).1:=⟨_,rfl⟩
 rw [← hl] at h4 h5 ⊢
 have hr : aC n m l = true:=by
  unfold aC;rw [hn,aM.2 hm,h5,Bool.true_and,Bool.true_and];simp only [beq_self_eq_true,Bool.true_and];rw [List.all_eq_true];intro x hx;obtain ⟨i,hi,rfl⟩:=List.mem_iff_getElem.1 hx
  have:=(h4 i (by omega)).1
  rw [zDd,List.getElem?_eq_getElem hi] at this;exact aM.2 this
 refine ⟨hr,?_⟩;unfold bX;rw [if_pos hr,List.length_eq_zero_iff];unfold gR;rw [List.filter_eq_nil_iff];intro x hx;unfold gJ at hx;obtain ⟨v,hv,rfl⟩:=List.mem_map.1 hx
 have:=(h4 v (by have:=List.mem_range.1 hv;omega)).2
 unfold accG at this;rw [if_pos rfl] at this;unfold mF;simpa using this
theorem Rh (n : am) (s most steps : Int) : (ay n s most steps).length ≤ n.ends.length:=by
 unfold ay
 split
 ·have:=qX (eC n (accG n s 0)) most steps (iW steps 0 n.ends.length 0) (List.replicate n.ends.length (-1)) 0 0
  rw [List.length_replicate] at this;exact this
 ·exact Nat.zero_le _
theorem Ri (n : am) (m steps : Int) : (aG n m steps).length ≤ n.ends.length:=by
 unfold aG
 split
 ·have:=qX (eC n (accG n 0 m)) (m - 1) steps (iW steps 0 n.ends.length 0) (List.replicate n.ends.length (-1)) 0 0
  rw [List.length_replicate] at this;exact this
 ·exact Nat.zero_le _
theorem Rj (n : am) (s most : Int) : (aF n s most).length ≤ n.ends.length:=by
 unfold aF
 split
 ·exact (Ih _).2
 ·exact Nat.zero_le _
theorem Is (n : am) (s : Int) : (bh n s).length ≤ 100:=by
 unfold bh
 split
 ·rename_i h
  unfold bw xh at h
  rw [Bool.and_eq_true,Bool.and_eq_true,aM] at h;rw [(O_ h.1.1 h.1.2 h.2).len]
  have:=(aN h.1.1).2
  omega
 ·exact Nat.zero_le _
theorem It (n : am) (s most : Int) : 0 ≤ aE n s most:=by
 unfold aE
 split <;> omega
theorem kO (ve vi vn : Value) (n : am) (s most steps : Int) (w : World) (h : aT w ve vi vn n) (_ : -9223372036854775808 ≤ s ∧ s ≤ 9223372036854775807) (_ : -9223372036854775808 ≤ most ∧ most ≤ 9223372036854775807) (_ : -9223372036854775808 ≤ steps ∧ steps ≤ 9223372036854775807) (ed : f_ n ≤ 1048576) :
  Calls Tryz.prog 22 #[.agg #[ve,vi,vn],.int .i64 s,.int .i64 most,.int .i64 steps] w fun e w' => ∃ u,e = .returned (.tuple #[u,.int .i64 (ap n s most steps),.int .i64 (aS n s most steps),.bool (av n s most steps)]) ∧ Own w' w.heap.size u (ay n s most steps) ∧ Below w.heap.size w w':=by
 obtain ⟨w0,A,c,A2,c2,A3,c3,rfl,rfl,rfl,ft,hm,f6,gF,HA,dh,bv,H,eG,eX,fb⟩:=zB h;clear h
 go_enter Tryz.func22,Tryz.ntmps22
 go_upto_region 1 with (fail);rw [← dh.out];refine aB 10 (aa w0) (ad _) ?_;simp only [zT]
 iterate 3 (apply ag rfl;(intro W hW;go_simp;with_reducible rfl);simp only [zA])
 refine dn ?_ rfl ?_ ?_;rotate_left;(intro W hW;unfold bG;go_simp;(with_reducible refine (BW _ _ _ n s most W (H.out.keep hW.below)).mono ?_);rintro e W' ⟨rfl,bg⟩;first | (refine ⟨?_,aa.trans hW bg⟩;with_reducible rfl) | (subst bg;refine ⟨?_,hW⟩;with_reducible rfl))
 simp only [zA]
 iterate 2 (apply ag rfl;(intro W hW;go_simp;with_reducible rfl);simp only [zA])
 apply aj rfl rfl;(intro hb;intro W hW;go_simp;with_reducible rfl);simp only [zA]
 refine bC (v:=?_) rfl rfl ?_ ?_;rotate_left;(intro hb;intro W hW;unfold bG;go_simp;(with_reducible refine (iZ _ _ _ W).mono ?_);rintro e W' ⟨rfl,bg⟩;first | (refine ⟨?_,aa.trans hW bg⟩;with_reducible rfl) | (subst bg;refine ⟨?_,hW⟩;with_reducible rfl))
 simp only [zA]
 apply aj rfl rfl;(intro hb;intro W hW;go_simp;with_reducible rfl);simp only [zA]
 (first | refine bu rfl rfl ?_ | (apply ag rfl;(intro W hW;go_simp;with_reducible rfl)));simp only [zA]
 intro W hW
 cases hg : (!D6 n s most || !ee 0 200000 steps)
 ·simp only [Bool.or_eq_false_iff,Bool.not_eq_false'] at hg
  have hr : iN n s most steps = true:=by
   have h1:=hg.1;unfold D6 at h1;unfold iN;rw [h1,hg.2];rfl
  have ye:=hr;unfold iN at ye;simp only [Bool.and_eq_true] at ye;have KF:=aM.1 ye.1.1.2;have hm:=aM.1 ye.1.2;have gE:=aM.1 ye.2;have hn:=ye.1.1.1;have xf : Hid (av n s most steps = true):=hr;obtain ⟨R,hR⟩ : ∃ R,R = dY n s 0 most steps:=⟨_,rfl⟩
  have Hr:=zh (show true = av n s most steps from hr.symm)
  have H1:=zh (show R.2.1 = ap n s most steps by unfold ap;rw [if_pos hr,hR])
  have H2:=zh (show R.2.2 = aS n s most steps by unfold aS;rw [if_pos hr,hR])
  have H3:=zh (show R.1 = ay n s most steps by unfold ay;rw [if_pos hr,hR])
  have px : Hid (R.2.1 ≠ 1 → R.1 = []):=by rw [hR];exact iM _ _ _ _ _ _ _
  have HR:=zh hR;have Hn:=zh hn;obtain ⟨w2,dK⟩ : ∃ w2,w2 = W.alloc (.cells #[.slice A n.ends.length c,.slice A2 n.ids.length c2,.slice A3 n.inputs.length c3,.int .i64 s,.int .i64 0,.int .i64 most,.int .i64 steps,.int .i64 0,.slice none 0 0] 109):=⟨_,rfl⟩
  obtain ⟨B,hB⟩ : ∃ B,B = W.heap.size:=⟨_,rfl⟩
  have HA : Hid (AS w2 B (.slice A n.ends.length c) (.slice A2 n.ids.length c2) (.slice A3 n.inputs.length c3) s 0 most steps 0 (.slice none 0 0)):=by
   show (_ : Option _) = _
   rw [dK,hB];show (W.heap.push _)[W.heap.size]? = _
   rw [Array.getElem?_push_size]
  have cw : Hid (aa w0 w2):=by rw [dK];exact ah _ hW
  have QS : Hid (w0.heap.size ≤ B):=by rw [hB];exact (aa.below hW).size
  have j7:=zh dK;have HB:=zh hB;clear hg hr ye hn hR dK hB;go_upto_region 4 with (fail);rw [← j7.out,← HB.out];clear hW;go_wp2_with fail;refine (By _ _ _ _ n s 0 most steps B w2 w0 H.out cw.out QS.out HA.out Hn.out (.inr ⟨KF.1,KF.2,hm.1,hm.2⟩) gE.1 (by omega)).mono ?_;rw [← HR.out];rintro e w3 ⟨rfl,iB,I3,QT,aY⟩;have SW:=zh QT;have vk:=zh aY;have eY:=zh iB;have c7:=ae QT.c7;obtain ⟨uf,QU⟩ : ∃ u,u = (if R.2.1 = 1 then I3 else .slice none 0 0):=⟨_,rfl⟩
  have Z4 : Hid (∀ W,aa w3 W → Calls Tryz.prog 77 #[.pointer (some ⟨B,0,none⟩),.int .i64 R.2.1] W fun e w' => e = .returned uf ∧ Below W.heap.size W w'):=fun W hW => by rw [QU];exact yx _ _ _ _ _ _ _ _ _ R.2.1 B W (SW.out.since hW)
  have Z5:=zh QU;clear iB QT aY QU;go_upto_region 5 with (fail);refine ao 12 (aa w3) (by kernel_rfl) (by kernel_rfl) (by simp) (ak (ad _)) ?_;simp only [zT]
  iterate 2 (apply ag rfl;(intro W hW;go_simp;with_reducible rfl);simp only [zA])
  refine dn ?_ rfl ?_ ?_;rotate_left;(intro W hW;unfold bG;go_simp;(with_reducible refine (Z4.out W hW).mono ?_);rintro e W' ⟨rfl,bg⟩;first | (refine ⟨?_,aa.trans hW bg⟩;with_reducible rfl) | (subst bg;refine ⟨?_,hW⟩;with_reducible rfl))
  simp only [zA]
  iterate 9 (apply ag rfl;(intro W hW;go_simp;with_reducible rfl);simp only [zA])
  intro W4 jq;have s8:=zh jq;clear c7 jq;go_wp2;refine bodyPost_ret (eQ rfl _ _ _) rfl ?_;refine ⟨_,B0 H1.out H2.out Hr.out,?_,aa.after bv.out (eY.out.after s8.out)⟩;rw [← H3.out];show Own _ _ uf _
  rw [Z5.out]
  by_cases h1 : R.2.1 = 1
  ·rw [if_pos h1];exact ((vk.out h1).since s8.out).mono bv.out.size
  ·rw [if_neg h1,px.out h1];exact cH _ _
 ·have hr : av n s most steps = false:=by
   unfold av iN
   unfold D6 at hg
   revert hg
   cases an n <;> cases ee 1 5 s <;> cases ee 0 999999999999 most <;> cases ee 0 200000 steps <;> simp
  have Hr:=zh (show false = av n s most steps from hr.symm)
  have H1:=zh (show 0 = ap n s most steps by unfold ap;rw [if_neg (by unfold av at hr;rw [hr];simp)])
  have H2:=zh (show 0 = aS n s most steps by unfold aS;rw [if_neg (by unfold av at hr;rw [hr];simp)])
  have H3:=zh (show [] = ay n s most steps by unfold ay;rw [if_neg (by unfold av at hr;rw [hr];simp)])
  have HW:=zh hW;clear hg hr hW;go_wp2;refine bodyPost_ret (eQ rfl _ _ _) rfl ?_
  exact ⟨_,B0 H1.out H2.out Hr.out,by rw [← H3.out];exact cH _ _,aa.after bv.out HW.out⟩
theorem g_ (ve vi vn : Value) (n : am) (w : World) (fr fl : FuncId) (cr cl : Array Value) (R : Nat → Nat) (F : Nat → Int) (h : aT w ve vi vn n) (hn : an n = true)
  (er : ∀ args w,(callFunc fr args).run Tryz.prog w = .ok (.enter fr args) w) (el : ∀ args w,(callFunc fl args).run Tryz.prog w = .ok (.enter fl args) w)
  (hR : ∀ v,v < n.ends.length → R v < n.ends.length ∧ ∀ W,aa w W → Calls Tryz.prog fr (#[.int .i64 (al n v)] ++ cr) W fun e w' => e = .returned (.int .i64 (R v)) ∧ Below W.heap.size W w')
  (hF : ∀ v,v < n.ends.length → ∀ W,aa w W → Calls Tryz.prog fl (#[.int .i64 v,.int .i64 (R v),.int .i64 (aK n (R v) v)] ++ cl) W fun e w' => e = .returned (.int .i64 (F v)) ∧ Below W.heap.size W w') :
  Calls Tryz.prog 82 #[.agg #[ve,vi,vn],.func (.func fr) #[] cr,.func (.func fl) #[] cl] w fun e w' => ∃ u,e = .returned u ∧ Own w' w.heap.size u ((List.range n.ends.length).map F) ∧ Below w.heap.size w w':=by
 have kE:=aN hn;have mK:=kE.1;have lh:=kE.2;have Hn:=zh hn;have HR:=zh hR;have HF:=zh hF;clear kE hn hR hF
 obtain ⟨w0,A,c,A2,c2,A3,c3,rfl,rfl,rfl,ft,hm,f6,gF,HA,dh,bv,H,eG,eX,fb⟩:=zB h;clear h
 go_enter Tryz.func82,Tryz.ntmps82
 go_upto_region 1 with (fail);rw [← dh.out];have cX : aa w0 w0:=ad _;go_wp2_with fail;refine (fj _ _ _ n w0 H.out Hn.out).mono ?_;rintro e w1 ⟨uR,rfl,NJ,bj⟩;have dm : aa w0 w1:=bj;obtain ⟨AR,cR,rfl,-,-,-⟩:=id NJ.ints;have NK : (dW n).length = n.ends.length:=yy n;rw [NK] at NJ;obtain ⟨bR,oR,rfl,Vn⟩:=mG NJ.ints NK (by omega);have HcR:=zh Vn;have gh:=zh dm;have HRl:=zh NK;clear NJ Vn NK cX bj;rw [HRl.out];go_wp2
 go_loopw [7,14] (fun u i wr => ∃ k : Nat,k ≤ n.ends.length ∧ i = .int .i64 k ∧ Own wr w1.heap.size u ((List.range k).map F) ∧ aa w1 wr) (fun _ i _ => n.ends.length - (intOf i).toNat)
 case atStart => exact ⟨0,Nat.zero_le _,rfl,by simpa using cH _ w1.heap.size,ad _⟩
 case round =>
  obtain ⟨k,hk,rfl,ho,cJ⟩:=hrel;have Ho:=zh ho;have Hs:=zh cJ;clear ho cJ dm
  by_cases hlt : k < n.ends.length
  ·have m3 : IntKind.i64.wrap ((k : Int) + 1) = (k : Int) + 1:=aL _ (by omega) (by omega)
   have eZ : Hid (((List.range k).map F).length + 1 ≤ 17592186044416):=by show _ ≤ _;simp;omega
   have tl:=zh (KH (f:=F) k)
   have zV : (dW n)[k]? = some (al n k : Int):=by unfold dW;rw [List.getElem?_map,List.getElem?_range hlt];rfl
   have c0:=HcR.out k _ zV wr Hs.out;obtain ⟨p,hp⟩ : ∃ z,z = al n k:=⟨_,rfl⟩
   obtain ⟨r,hr⟩ : ∃ z,z = R k:=⟨_,rfl⟩
   obtain ⟨Vo,ig⟩:=HR.out k hlt;rw [← hp] at c0 ig;rw [← hr] at Vo ig;have o5:=zh ig;have Hr:=zh hr;clear zV hp hr ig;have q9 : aa w0 wr:=aa.trans gh.out Hs.out;have xp:=zh q9;go_wp2_with fail;refine (o5.out wr (aa.trans bv.out xp.out)).mono ?_;rintro e w2 ⟨rfl,b_⟩;have cw:=zh (aa.after Hs.out b_);have vz:=aa.after xp.out b_;have vy:=zh vz;have iU:=zh (Own.since Ho.out b_);clear b_ c0 q9;go_wp2_with fail;refine (eR _ _ _ n r w2 (H.out.keep vy.out.below) Hn.out Vo).mono ?_;rintro e w4 ⟨uF,rfl,Gb,xV⟩;obtain ⟨AF,cF,rfl,-,-,-⟩:=id Gb.ints;rw [l8 Hn.out Vo] at Gb;obtain ⟨bF,oF,rfl,Pm⟩:=rN Hn.out Vo Gb.ints;rw [l8 Hn.out Vo];have mg:=zh (aa.after cw.out xV);have NL:=zh (aa.after vy.out xV);have sH:=zh (Own.since iU.out xV);have cd:=Pm k hlt w4 (ad _);obtain ⟨d,hd⟩ : ∃ z,z = aK n r k:=⟨_,rfl⟩
   have Rk:=HF.out k hlt w4 (aa.trans bv.out NL.out);rw [← Hr.out,← hd] at Rk;rw [← hd] at cd;have aag:=zh Rk;clear hd Gb Pm xV Rk vz;go_wp2_with fail;refine aag.out.mono ?_;rintro e w5 ⟨rfl,jT⟩;have nd:=zh (aa.after mg.out jT);have DN:=zh (Own.since sH.out jT);obtain ⟨y,hy⟩ : ∃ z,z = F k:=⟨_,rfl⟩
   rw [← hy] at tl ⊢;clear jT cd hy
   go_wp2_with (at_builtin;refine ic rfl _ _ rfl rfl (DN.out.since (ah _ (ad _))) w5.heap.size y rfl (by simp [go_sem]) eZ.out (ah _ nd.out) ?_;intro g cc w3 ie iB)
   have ms:=zh ie;have eY : Hid (aa w1 w3):=iB;clear ie iB;go_wp2;go_roundw
   case rel => exact ⟨k + 1,by omega,by first | rfl | go_num,by rw [tl.out];have:=ms.out;simpa using this,eY.out⟩
   case measure => simp [intOf];omega
  ·obtain rfl : k = n.ends.length:=by omega
   clear hk hlt;go_wp2;go_ret;exact ⟨_,rfl,Ho.out.mono (Nat.le_trans bv.out.size gh.out.below.size),aa.trans bv.out (aa.trans gh.out Hs.out)⟩
section
variable {α : Type} {p : α → Bool} {xs : List α}
theorem NM (h : xs.any p = false) : xs.findIdx? p = none:=by
 rw [List.findIdx?_eq_none_iff];intro x hx;rw [List.any_eq_false] at h;simpa using h x hx
theorem K1 {k : Nat} {x : α} (hx : xs[k]? = some x) (hp : p x = true) (h : (xs.take k).any p = false) : xs.findIdx? p = some k:=by
 obtain ⟨hk,rfl⟩:=List.getElem?_eq_some_iff.1 hx;rw [List.findIdx?_eq_some_iff_getElem];refine ⟨hk,hp,fun j hj => ?_⟩
 rw [List.any_eq_false] at h
 have:=h xs[j] (List.mem_take_iff_getElem.2 ⟨j,by omega,rfl⟩)
 simpa using this
theorem Iu {k : Nat} {x : α} (hx : xs[k]? = some x) (h : (xs.take k).any p = false) (hp : p x = false) : (xs.take (k + 1)).any p = false:=by
 rw [bk hx,List.any_append,h];simp [hp]
end
def vD (p : Int × Int → Bool) (es : List (Int × Int)) : Int:=match es.findIdx? p with | some i => (i : Int) | none => -1
def Rl (w0 : World) (dR : FuncId) (cS : Array Value) (p : Int × Int → Bool) (xs : List (Int × Int)) : Prop:=
 ∀ x ∈ xs,∀ w,aa w0 w → Calls Tryz.prog dR (#[.agg #[.int .i64 x.1,.int .i64 x.2]] ++ cS) w fun e w' => e = .returned (.bool (p x)) ∧ Below w.heap.size w w'
theorem sM (v : Value) (xs : List (Int × Int)) (dR : FuncId) (cS : Array Value) (p : Int × Int → Bool) (w : World) (h : tJ w v xs) (d9 : ∀ args w,(callFunc dR args).run Tryz.prog w = .ok (.enter dR args) w) (hp : Rl w dR cS p xs) :
  Calls Tryz.prog 203 #[v,.func (.func dR) #[] cS] w fun e w' => e = .returned (.int .i64 (vD p xs)) ∧ Below w.heap.size w w':=by
 have H:=zh h;obtain ⟨A,c,rfl,ft,hm,hA⟩:=h;unfold maxLen at hm;have HA:=zh hA;clear hA;have Hp:=zh hp;have eg:=d9;clear hp
 go_enter Tryz.func203,Tryz.ntmps203
 go_wp2
 go_loopw [8] (fun i wr => ∃ k : Nat,k ≤ xs.length ∧ i = .int .i64 k ∧ (xs.take k).any p = false ∧ aa w wr) (fun i _ => xs.length - (intOf i).toNat)
 case atStart => exact ⟨0,Nat.zero_le _,rfl,rfl,ad _⟩
 case round =>
  obtain ⟨k,hk,rfl,nf,hb⟩:=hrel;have tH:=zh nf;have Hb:=zh hb;clear nf hb
  by_cases hlt : k < xs.length
  ·obtain ⟨x,hx⟩:=aW xs k hlt;obtain ⟨b,off,rfl,IV,eS⟩:=HA.out k x hx;have d0:=Hb.out.cell IV;have d1:=Hb.out.cell eS;have Hx:=zh hx;have ig:=Hp.out x (List.mem_of_getElem? hx) wr Hb.out;obtain ⟨y,hy⟩ : ∃ y,y = p x:=⟨_,rfl⟩
   have Hy:=zh hy;rw [← hy] at ig;have o5:=zh ig;clear hy ig hx IV eS;go_wp2_with fail;refine o5.out.mono ?_;rintro e w1 ⟨rfl,bj⟩;have gG:=zh (Hb.out.trans bj);clear bj;cases y
   ·go_wp2;go_roundw
    case rel => exact ⟨k + 1,by omega,by go_num,Iu Hx.out tH.out Hy.out.symm,gG.out⟩
    case measure => simp [intOf];omega
   ·have Hr : Hid (vD p xs = k):=by show _ = _;unfold vD;rw [K1 Hx.out Hy.out.symm tH.out]
    go_wp2;go_ret;exact ⟨congrArg (fun i => Ending.returned (.int .i64 i)) Hr.out.symm,gG.out⟩
  ·obtain rfl : k = xs.length:=by omega
   have Hr : Hid (vD p xs = -1):=by show _ = _;unfold vD;rw [NM (by have:=tH.out;rwa [List.take_length] at this)]
   go_wp2;go_ret;exact ⟨congrArg (fun i => Ending.returned (.int .i64 i)) Hr.out.symm,Hb.out⟩
theorem zy : ∀ args w,(callFunc 204 args).run Tryz.prog w = .ok (.enter 204 args) w:=enters_of Tryz.func204 (by kernel_rfl) rfl
theorem Iv (x y dv dx : Int) (N v b1 b2 bF oF cF : Nat) (w : World) (hx : 0 ≤ x ∧ x < N) (hv : v < N) (hN : N ≤ 1000)
  (h1 : w.cell? ⟨b1,0,none⟩ = some (.slice (some ⟨bF,oF,none⟩) N cF)) (h2 : w.cell? ⟨b2,0,none⟩ = some (.int .i64 v)) (h3 : w.cell? ⟨bF,oF + v,none⟩ = some (.int .i64 dv)) (h4 : w.cell? ⟨bF,oF + x.toNat,none⟩ = some (.int .i64 dx)) (hd : -1000 ≤ dv ∧ dv ≤ 1000) :
  Calls Tryz.prog 204 #[.agg #[.int .i64 x,.int .i64 y],.pointer (some ⟨b1,0,none⟩),.pointer (some ⟨b2,0,none⟩)] w fun e w' => e = .returned (.bool (decide (0 < dv) && decide (dx = dv - 1))) ∧ Below w.heap.size w w':=by
 obtain ⟨a,rfl⟩:=Int.eq_ofNat_of_zero_le hx.1;rw [Int.toNat_natCast] at h4;have ha : a < N:=by omega
 have m0 : IntKind.i64.wrap (dv - 1) = dv - 1:=aL _ (by omega) (by omega);obtain ⟨w0,ck⟩ : ∃ z,z = w.alloc (.cells #[.int .i64 (a : Int),.int .i64 y] 83):=⟨_,rfl⟩
 have cX : aa w w0:=by rw [ck];exact ah _ (ad _)
 have c0 : w0.cell? ⟨w.heap.size,0,none⟩ = some (.int .i64 (a : Int)):=by rw [ck];simp
 have p0:=ae c0;have p1 : ∀ W,aa w0 W → W.cell? ⟨b1,0,none⟩ = some (.slice (some ⟨bF,oF,none⟩) N cF):=ae (ae h1 w0 cX);have p2 : ∀ W,aa w0 W → W.cell? ⟨b2,0,none⟩ = some (.int .i64 v):=ae (ae h2 w0 cX);have p3 : ∀ W,aa w0 W → W.cell? ⟨bF,oF + v,none⟩ = some (.int .i64 dv):=ae (ae h3 w0 cX);have p4 : ∀ W,aa w0 W → W.cell? ⟨bF,oF + a,none⟩ = some (.int .i64 dx):=ae (ae h4 w0 cX);have dh:=zh ck;have pK:=zh cX;clear hx h1 h2 h3 h4 hd ck cX c0
 go_enter Tryz.func204,Tryz.ntmps204
 go_upto_region 1 with (fail);rw [← dh.out];refine ao 18 (aa w0) (by kernel_rfl) (by kernel_rfl) (by simp) (ak (ad _)) ?_;simp only [zT]
 apply ag rfl;(intro W hW;have k1:=p1 W hW;go_simp;with_reducible rfl);simp only [zA]
 apply ag rfl;(intro W hW;have k1:=p2 W hW;go_simp;with_reducible rfl);simp only [zA]
 apply ag rfl;(intro W hW;go_simp;with_reducible rfl);simp only [zA]
 apply ag rfl;(intro W hW;have k1:=p3 W hW;go_simp;with_reducible rfl);simp only [zA]
 iterate 2 (apply ag rfl;(intro W hW;go_simp;with_reducible rfl);simp only [zA])
 apply aj rfl rfl;(intro hb;intro W hW;have k1:=p1 W hW;go_simp;with_reducible rfl);simp only [zA]
 apply aj rfl rfl;(intro hb;intro W hW;go_simp;with_reducible rfl);simp only [zA]
 apply aj rfl rfl;(intro hb;intro W hW;have k1:=p0 W hW;go_simp;with_reducible rfl);simp only [zA]
 apply aj rfl rfl;(intro hb;intro W hW;go_simp;with_reducible rfl);simp only [zA]
 apply aj rfl rfl;(intro hb;intro W hW;have k1:=p4 W hW;go_simp;with_reducible rfl);simp only [zA]
 apply aj rfl rfl;(intro hb;intro W hW;have k1:=p1 W hW;go_simp;with_reducible rfl);simp only [zA]
 apply aj rfl rfl;(intro hb;intro W hW;have k1:=p2 W hW;go_simp;with_reducible rfl);simp only [zA]
 apply aj rfl rfl;(intro hb;intro W hW;go_simp;with_reducible rfl);simp only [zA]
 apply aj rfl rfl;(intro hb;intro W hW;have k1:=p3 W hW;go_simp;with_reducible rfl);simp only [zA]
 iterate 2 (apply aj rfl rfl;(intro hb;intro W hW;go_simp;with_reducible rfl);simp only [zA])
 (first | refine bJ rfl rfl ?_ | (apply ag rfl;(intro W hW;go_simp;with_reducible rfl)));simp only [zA]
 intro W hW;have HW:=zh hW;clear hW p0 p1 p2 p3 p4;obtain ⟨bb,rq⟩ : ∃ z : Bool,z = (decide (0 < dv) && (dx == dv - 1)):=⟨_,rfl⟩
 rw [← rq];have vj:=zh rq;clear rq;go_wp2;go_ret
 exact ⟨by rw [vj.out];rfl,aa.after pK.out HW.out⟩
theorem rQ (ve vi vn : Value) (n : am) (r : Nat) (w : World) (h : aT w ve vi vn n) (hn : an n = true) (hr : r < n.ends.length) :
  Calls Tryz.prog 149 #[.agg #[ve,vi,vn],.int .i64 r] w fun e w' => ∃ u,e = .returned (.tuple #[u,.bool true]) ∧ Own w' w.heap.size u (BC n r) ∧ Below w.heap.size w w':=by
 have kE:=aN hn;have mK:=kE.1;have lh:=kE.2;have Hn:=zh hn
 have DV : Hid (n.ids.length ≤ 17592186044416):=by
  show _ ≤ _
  by_cases h0 : n.ids.length = 0
  ·omega
  ·have:=(rL hn h0).1;omega
 have hir : ee 0 ((n.ends.length : Int) - 1) (r : Int) = true:=aM.2 (by omega);have Hir:=zh hir;clear kE hn hir
 obtain ⟨w0,A,c,A2,c2,A3,c3,rfl,rfl,rfl,ft,hm,f6,gF,HA,dh,bv,H,eG,eX,fb⟩:=zB h;clear h
 go_enter Tryz.func149,Tryz.ntmps149
 go_upto_region 1 with (fail);rw [← dh.out];refine aB 9 (aa w0) (ad _) ?_;simp only [zT]
 apply ag rfl;(intro W hW;go_simp;with_reducible rfl);simp only [zA]
 refine dn ?_ rfl ?_ ?_;rotate_left;(intro W hW;unfold bG;go_simp;(with_reducible refine (dF _ _ _ n W (H.out.keep hW.below) DV.out).mono ?_);rintro e W' ⟨rfl,bg⟩;first | (refine ⟨?_,aa.trans hW bg⟩;with_reducible rfl) | (subst bg;refine ⟨?_,hW⟩;with_reducible rfl))
 simp only [zA]
 iterate 2 (apply ag rfl;(intro W hW;go_simp;with_reducible rfl);simp only [zA])
 iterate 2 (apply aj rfl rfl;(intro hb;intro W hW;go_simp;with_reducible rfl);simp only [zA])
 refine bC (v:=?_) rfl rfl ?_ ?_;rotate_left;(intro hb;intro W hW;unfold bG;go_simp;(with_reducible refine (ng _ _ _ n.ends r W (H.out.keep hW.below).es).mono ?_);rintro e W' ⟨rfl,bg⟩;first | (refine ⟨?_,aa.trans hW bg⟩;with_reducible rfl) | (subst bg;refine ⟨?_,hW⟩;with_reducible rfl))
 simp only [zA]
 apply aj rfl rfl;(intro hb;intro W hW;go_simp;with_reducible rfl);simp only [zA]
 (first | refine bu rfl rfl ?_ | (apply ag rfl;(intro W hW;go_simp;with_reducible rfl)));simp only [zA]
 intro W hW;rw [Hn.out,Hir.out];have HW:=zh hW;have rD:=hW;clear hW;go_wp2_with fail;refine (eR _ _ _ n r W (H.out.keep HW.out.below) Hn.out hr).mono ?_;rintro e w1 ⟨uF,rfl,Gb,bj⟩;obtain ⟨AF,cF,rfl,-,-,-⟩:=id Gb.ints;rw [l8 Hn.out hr] at Gb;obtain ⟨bF,oF,rfl,Pm⟩:=rN Hn.out hr Gb.ints;rw [l8 Hn.out hr];obtain ⟨w2,dK⟩ : ∃ z,z = w1.alloc (.cells #[.slice (some ⟨bF,oF,none⟩) n.ends.length cF] 25):=⟨_,rfl⟩
 obtain ⟨b1,Rm⟩ : ∃ z,z = w1.heap.size:=⟨_,rfl⟩
 have dE : aa w1 w2:=by rw [dK];exact ah _ (ad _)
 have cb1 : w2.cell? ⟨b1,0,none⟩ = some (.slice (some ⟨bF,oF,none⟩) n.ends.length cF):=by rw [dK,Rm];simp
 have vz : aa w0 w2:=aa.after (aa.after HW.out bj) dE;have vy:=zh vz;have aah:=zh (ae cb1);have HcF : Hid (∀ x,x < n.ends.length → ∀ X,aa w2 X → X.cell? ⟨bF,oF + x,none⟩ = some (.int .i64 (aK n r x))):=fun x hx X hX => Pm x hx X (aa.after dE hX)
 have j7:=zh dK;have aai:=zh Rm;clear Gb bj dE cb1 Pm dK Rm;go_upto_region 4 with (fail);rw [← j7.out,← aai.out];go_wp2
 go_loopw [7,25] (fun u i wr => ∃ k : Nat,k ≤ n.ends.length ∧ i = .int .i64 k ∧ Own wr w2.heap.size u ((List.range k).map (ke n r)) ∧ aa w2 wr) (fun _ i _ => n.ends.length - (intOf i).toNat)
 case atStart => exact ⟨0,Nat.zero_le _,rfl,by simpa using cH _ w2.heap.size,ad _⟩
 case round =>
  obtain ⟨k,hk,rfl,ho,cJ⟩:=hrel;have Ho:=zh ho;have Hs:=zh cJ;clear ho cJ vz rD
  by_cases hlt : k < n.ends.length
  ·have m3 : IntKind.i64.wrap ((k : Int) + 1) = (k : Int) + 1:=aL _ (by omega) (by omega)
   have eZ : Hid (((List.range k).map (ke n r)).length + 1 ≤ 17592186044416):=by show _ ≤ _;simp;omega
   have tl:=zh (Ii n r k);obtain ⟨es,cM⟩:=aW n.ends k hlt;obtain ⟨he6,dC⟩:=df Hn.out cM;have q9 : aa w0 wr:=aa.after vy.out Hs.out;have xp:=zh q9;obtain ⟨bE,oE,cE,uE,hAE,-,eS,dG⟩:=jQ H.out.es cM;obtain ⟨A9,y9,rfl,eF,eD,Ik⟩:=id dG;have d1:=ae eS wr q9;have PY:=zh dG;have ml:=zh cM;have p9:=zh dC;cases hAE;obtain ⟨w4,gZ⟩ : ∃ z,z = wr.alloc (.cells #[.int .i64 (k : Int)] 3):=⟨_,rfl⟩
   obtain ⟨b2,Rn⟩ : ∃ z,z = wr.heap.size:=⟨_,rfl⟩
   have kD : aa wr w4:=by rw [gZ];exact ah _ (ad _)
   have cb2 : w4.cell? ⟨b2,0,none⟩ = some (.int .i64 (k : Int)):=by rw [gZ,Rn];simp
   have mg:=zh (aa.after Hs.out kD);have sH:=zh (Own.since Ho.out kD);have FL:=zh gZ;have aaj:=zh Rn
   have Nn : ke n r k = vD (fun e => decide (0 < aK n r k) && decide (aK n r e.1.toNat = aK n r k - 1)) es:=by
    unfold ke vD
    rw [aH cM];rfl
   have Yh:=zr Hn.out hr hlt
   have ig:=sM (.slice A9 es.length y9) es 204 #[.pointer (some ⟨b1,0,none⟩),.pointer (some ⟨b2,0,none⟩)] (fun e => decide (0 < aK n r k) && decide (aK n r e.1.toNat = aK n r k - 1)) w4 (tJ.keep dG (aa.after q9 kD)) zy (fun e he X hX => by
    have Yi:=dC e he;have My : aa w2 X:=aa.after (aa.after Hs.out kD) hX
    exact Iv e.1 e.2 (aK n r k) (aK n r e.1.toNat) n.ends.length k b1 b2 bF oF cF X Yi hlt (by omega) (aah.out X My) (ae cb2 X hX) (HcF.out k hlt X My) (HcF.out e.1.toNat (by omega) X My) (by omega))
   rw [← Nn] at ig;have o5:=zh ig;obtain ⟨y,hy⟩ : ∃ y,y = ke n r k:=⟨_,rfl⟩
   rw [← hy] at tl o5;clear cM dC dG Ik gZ Rn kD cb2 Nn Yh ig hy eS q9 eD;go_upto_region 8 with (fail);rw [← FL.out,← aaj.out];clear d1;go_wp2_with fail;refine o5.out.mono ?_;rintro e w5 ⟨rfl,jT⟩;have nd:=zh (aa.after mg.out jT);have DN:=zh (Own.since sH.out jT);clear jT
   go_wp2_with (at_builtin;refine ic rfl _ _ rfl rfl (DN.out.since (ah _ (ad _))) w5.heap.size y rfl (by simp [go_sem]) eZ.out (ah _ nd.out) ?_;intro g cc w3 ie iB)
   have ms:=zh ie;have eY : Hid (aa w2 w3):=iB;clear ie iB;go_wp2;go_roundw
   case rel => exact ⟨k + 1,by omega,by first | rfl | go_num,by rw [tl.out];have:=ms.out;simpa using this,eY.out⟩
   case measure => simp [intOf];omega
  ·obtain rfl : k = n.ends.length:=by omega
   clear hk hlt;go_wp2
   go_ret2
   exact ⟨_,rfl,Ho.out.mono (Nat.le_trans bv.out.size vy.out.below.size),aa.trans bv.out (aa.after vy.out Hs.out)⟩
def swp (xs : List Int) (i j : Nat) : List Int:=(xs.set i (xs.getD j 0)).set j (xs.getD i 0)
theorem NN (xs : List Int) (i j : Nat) : (swp xs i j).length = xs.length:=by simp [swp]
theorem zz (L1 L2 L3 : List Int) (x y : Int) : swp (L1 ++ x :: (L2 ++ y :: L3)) L1.length (L1.length + 1 + L2.length) = L1 ++ y :: (L2 ++ x :: L3):=by
 have e1 : (L1 ++ x :: (L2 ++ y :: L3)).getD L1.length 0 = x:=by simp [zDd]
 have e2 : (L1 ++ x :: (L2 ++ y :: L3)).getD (L1.length + 1 + L2.length) 0 = y:=by
  rw [zDd,List.getElem?_append_right (by omega),show L1.length + 1 + L2.length - L1.length = L2.length + 1 by omega,List.getElem?_cons_succ,List.getElem?_append_right (Nat.le_refl _)]
  simp
 unfold swp;rw [e1,e2,List.set_append_right _ _ (Nat.le_refl _),Nat.sub_self,List.set_cons_zero,List.set_append_right _ _ (by omega),show L1.length + 1 + L2.length - L1.length = L2.length + 1 by omega,List.set_cons_succ,List.set_append_right _ _ (Nat.le_refl _),Nat.sub_self,List.set_cons_zero]
theorem K2 (xs : List Int) (i j : Nat) (h : i ≠ j) : swp xs i j = swp xs j i:=by
 unfold swp;exact List.set_comm _ _ h
def Gc (A P M Q B : List Int) (k : Nat) : List Int:=A ++ (Q.take k ++ (P.drop k ++ (M ++ (P.take k ++ (Q.drop k ++ B)))))
theorem K3 (A P M Q B : List Int) : Gc A P M Q B 0 = A ++ (P ++ (M ++ (Q ++ B))):=by simp [Gc]
theorem NO (A P M Q B : List Int) (h : P.length = Q.length) : Gc A P M Q B P.length = A ++ (Q ++ (M ++ (P ++ B))):=by simp [Gc,h ▸ List.take_length,h]
theorem K4 (A P M Q B : List Int) (h : P.length = Q.length) {k : Nat} (hk : k < P.length) : swp (Gc A P M Q B k) (A.length + k) (A.length + P.length + M.length + k) = Gc A P M Q B (k + 1):=by
 have hq : k < Q.length:=by omega
 have e1 : P.drop k = P[k] :: P.drop (k + 1):=List.drop_eq_getElem_cons hk;have e2 : Q.drop k = Q[k] :: Q.drop (k + 1):=List.drop_eq_getElem_cons hq;have e3 : P.take (k + 1) = P.take k ++ [P[k]]:=by simp
 have e4 : Q.take (k + 1) = Q.take k ++ [Q[k]]:=by simp
 have g:=zz (A ++ Q.take k) (P.drop (k + 1) ++ (M ++ P.take k)) (Q.drop (k + 1) ++ B) P[k] Q[k]
 have l1 : (A ++ Q.take k).length = A.length + k:=by rw [List.length_append,List.length_take];omega
 have l2 : (P.drop (k + 1) ++ (M ++ P.take k)).length = P.length - (k + 1) + (M.length + k):=by rw [List.length_append,List.length_append,List.length_drop,List.length_take];omega
 rw [l1,l2] at g;unfold Gc;rw [e1,e2,e3,e4];rw [show A.length + P.length + M.length + k = A.length + k + 1 + (P.length - (k + 1) + (M.length + k)) by omega]
 simp only [List.append_assoc,List.cons_append,List.nil_append] at g ⊢
 exact g
structure Ep (A U V B : List Int) (m i j : Nat) (xs : List Int) : Prop where
 ex : ∃ X1 P Q X2 : List Int,xs = A ++ (X1 ++ (P ++ (Q ++ (X2 ++ B)))) ∧ P.length = i ∧ Q.length = j ∧ A.length + X1.length + i = m ∧ A ++ (X1 ++ (Q ++ (P ++ (X2 ++ B)))) = A ++ (V ++ (U ++ B))
theorem Ep.start (A U V B : List Int) : Ep A U V B (A.length + U.length) U.length V.length (A ++ (U ++ (V ++ B))):=⟨[],U,V,[],by simp,rfl,rfl,by simp,by simp⟩
abbrev iO (K : Int → Int) (l : List Int) : Prop:=l.Pairwise (fun x y => K x ≤ K y)
structure Yj (K : Int → Int) (U1 U2 V1 V2 : List Int) : Prop where
 u : ∀ x ∈ U1,∀ y ∈ U2,K x ≤ K y
 v : ∀ x ∈ V1,∀ y ∈ V2,K x ≤ K y
 uv : ∀ x ∈ U1,∀ y ∈ V2,K x ≤ K y
 vu : ∀ x ∈ V1,∀ y ∈ U2,K x ≤ K y
theorem K5 {K : Int → Int} {a b : List Int} (ha : iO K a) (hb : iO K b) (h : ∀ x ∈ a,∀ y ∈ b,K x ≤ K y) : iO K (a ++ b):=List.pairwise_append.2 ⟨ha,hb,h⟩
theorem vE {K : Int → Int} {l : List Int} (h : iO K l) {k : Nat} (hk : k < l.length) (x : Int) (hx : x ∈ l.take (k + 1)) : K x ≤ K l[k]:=by
 obtain ⟨i,hi,rfl⟩:=List.mem_iff_getElem.1 hx;rw [List.length_take] at hi;rw [List.getElem_take];rcases Nat.lt_or_eq_of_le (show i ≤ k by omega) with h1 | h1
 ·exact List.pairwise_iff_getElem.1 h i k (by omega) hk h1
 ·subst h1;exact Int.le_refl _
theorem rR {K : Int → Int} {l : List Int} (h : iO K l) {k : Nat} (hk : k < l.length) (x : Int) (hx : x ∈ l.drop k) : K l[k] ≤ K x:=by
 obtain ⟨i,hi,rfl⟩:=List.mem_iff_getElem.1 hx;rw [List.length_drop] at hi;rw [List.getElem_drop];rcases Nat.eq_zero_or_pos i with h1 | h1
 ·subst h1;exact Int.le_refl _
 ·exact List.pairwise_iff_getElem.1 h k (k + i) hk (by omega) (by omega)
theorem zC {K : Int → Int} {l : List Int} (h : iO K l) (k : Nat) : ∀ x ∈ l.take k,∀ y ∈ l.drop k,K x ≤ K y:=by
 rw [← List.take_append_drop k l] at h;exact (List.pairwise_append.1 h).2.2
theorem Ro {K : Int → Int} {U V : List Int} (hU : iO K U) (hV : iO K V) {s e : Nat} (hs : s ≤ U.length) (he : e ≤ V.length)
  (h1 : s = 0 ∨ e = V.length ∨ ∃ (a : s - 1 < U.length) (b : e < V.length),K U[s - 1] ≤ K V[e])
  (h2 : s = U.length ∨ e = 0 ∨ ∃ (a : s < U.length) (b : e - 1 < V.length),K V[e - 1] ≤ K U[s]) :
  Yj K (U.take s) (U.drop s) (V.take e) (V.drop e):=by
 refine ⟨zC hU s,zC hV e,fun x hx y hy => ?_,fun x hx y hy => ?_⟩
 ·rcases h1 with h | h | ⟨a,b,h⟩
  ·subst h;simp at hx
  ·subst h;simp at hy
  ·rcases Nat.eq_zero_or_pos s with h0 | h0
   ·subst h0;simp at hx
   ·have g1:=vE hU a x (by rwa [show s - 1 + 1 = s by omega])
    have g2:=rR hV b y hy;omega
 ·rcases h2 with h | h | ⟨a,b,h⟩
  ·subst h;simp at hy
  ·subst h;simp at hx
  ·rcases Nat.eq_zero_or_pos e with h0 | h0
   ·subst h0;simp at hx
   ·have g1:=vE hV b x (by rwa [show e - 1 + 1 = e by omega])
    have g2:=rR hU a y hy;omega
theorem jJ {K : Int → Int} {U1 U2 V1 V2 W1 W2 : List Int} (h : Yj K U1 U2 V1 V2) (p1 : W1.Perm (U1 ++ V1)) (p2 : W2.Perm (U2 ++ V2)) (s1 : iO K W1) (s2 : iO K W2) :
  iO K (W1 ++ W2) ∧ (W1 ++ W2).Perm ((U1 ++ U2) ++ (V1 ++ V2)):=by
 refine ⟨K5 s1 s2 fun x hx y hy => ?_,(p1.append p2).trans ?_⟩
 ·rcases List.mem_append.1 (p1.mem_iff.1 hx) with a | a <;> rcases List.mem_append.1 (p2.mem_iff.1 hy) with b | b
  ·exact h.u x a y b
  ·exact h.uv x a y b
  ·exact h.vu x a y b
  ·exact h.v x a y b
 ·rw [List.append_assoc,List.append_assoc];refine List.Perm.append_left U1 ?_;rw [← List.append_assoc,← List.append_assoc];exact List.Perm.append_right V2 List.perm_append_comm
def eu (A : List Int) (x : Int) (V B : List Int) (t : Nat) : List Int:=A ++ (V.take t ++ (x :: (V.drop t ++ B)))
theorem Iw (A : List Int) (x : Int) (V B : List Int) : eu A x V B 0 = A ++ ([x] ++ (V ++ B)):=by simp [eu]
theorem Ix (A : List Int) (x : Int) (V B : List Int) {t : Nat} (ht : t < V.length) : swp (eu A x V B t) (A.length + t) (A.length + t + 1) = eu A x V B (t + 1):=by
 have e1 : V.drop t = V[t] :: V.drop (t + 1):=List.drop_eq_getElem_cons ht;have e2 : V.take (t + 1) = V.take t ++ [V[t]]:=by simp
 have g:=zz (A ++ V.take t) [] (V.drop (t + 1) ++ B) x V[t]
 have l1 : (A ++ V.take t).length = A.length + t:=by rw [List.length_append,List.length_take];omega
 rw [l1] at g;unfold eu;rw [e1,e2];simp only [List.append_assoc,List.cons_append,List.nil_append,List.length_nil,Nat.add_zero] at g ⊢
 exact g
theorem rS (A : List Int) (x : Int) (V B : List Int) {t : Nat} (ht : t < V.length) : swp (eu A x V B (t + 1)) (A.length + t + 1) (A.length + t) = eu A x V B t:=by
 have e1 : V.drop t = V[t] :: V.drop (t + 1):=List.drop_eq_getElem_cons ht;have e2 : V.take (t + 1) = V.take t ++ [V[t]]:=by simp
 have g:=zz (A ++ V.take t) [] (V.drop (t + 1) ++ B) V[t] x
 have l1 : (A ++ V.take t).length = A.length + t:=by rw [List.length_append,List.length_take];omega
 rw [l1] at g;rw [K2 _ _ _ (by omega)];unfold eu;rw [e1,e2];simp only [List.append_assoc,List.cons_append,List.nil_append,List.length_nil,Nat.add_zero] at g ⊢
 exact g
theorem Ce (A : List Int) (x : Int) (V B : List Int) : eu A x V B V.length = A ++ (V ++ ([x] ++ B)):=by simp [eu]
theorem vF (x : Int) (V : List Int) (t : Nat) : (V.take t ++ x :: V.drop t).Perm ([x] ++ V):=by
 refine List.perm_middle.trans ?_;rw [List.take_append_drop];exact List.Perm.refl _
theorem zE {K : Int → Int} {x : Int} {V : List Int} (h : iO K V) {t : Nat} (ht : t ≤ V.length) (h1 : t = 0 ∨ ∃ a : t - 1 < V.length,K V[t - 1] ≤ K x) (h2 : t = V.length ∨ ∃ a : t < V.length,K x ≤ K V[t]) : iO K (V.take t ++ x :: V.drop t):=by
 have c:=zC h t;have h0:=h;rw [← List.take_append_drop t V] at h0;obtain ⟨a1,a2,-⟩:=List.pairwise_append.1 h0
 have b1 : ∀ y ∈ V.take t,K y ≤ K x:=fun y hy => by
  rcases h1 with e | ⟨a,e⟩
  ·subst e;simp at hy
  ·rcases Nat.eq_zero_or_pos t with h0 | h0
   ·subst h0;simp at hy
   ·have:=vE h a y (by rwa [show t - 1 + 1 = t by omega])
    omega
 have b2 : ∀ y ∈ V.drop t,K x ≤ K y:=fun y hy => by
  rcases h2 with e | ⟨a,e⟩
  ·subst e;simp at hy
  ·have:=rR h a y hy
   omega
 refine List.pairwise_append.2 ⟨a1,List.pairwise_cons.2 ⟨b2,a2⟩,fun y hy z hz => ?_⟩
 rcases List.mem_cons.1 hz with e | e
 ·rw [e];exact b1 y hy
 ·exact c y hy z e
theorem Ep.big {A U V B : List Int} {m i j : Nat} {xs : List Int} (h : Ep A U V B m i j xs) (Aw : j < i) :
  ∃ A' P' M' Q' B',xs = A' ++ (P' ++ (M' ++ (Q' ++ B'))) ∧ A'.length + i = m ∧ P'.length = j ∧ Q'.length = j ∧ A'.length + P'.length + M'.length = m ∧ Ep A U V B m (i - j) j (A' ++ (Q' ++ (M' ++ (P' ++ B')))):=by
 obtain ⟨X1,P,Q,X2,rfl,hp,hq,hm,ht⟩:=h.ex;have hc:=List.take_append_drop j P;obtain ⟨P1,hP1⟩ : ∃ z,z = P.take j:=⟨_,rfl⟩
 obtain ⟨P2,Pn⟩ : ∃ z,z = P.drop j:=⟨_,rfl⟩
 have l1 : P1.length = j:=by rw [hP1,List.length_take];omega
 have l2 : P2.length = i - j:=by rw [Pn,List.length_drop];omega
 rw [← hP1,← Pn] at hc;clear hP1 Pn;subst hc
 refine ⟨A ++ X1,P1,P2,Q,X2 ++ B,by simp only [List.append_assoc],by rw [List.length_append];omega,l1,hq,by rw [List.length_append];omega,⟨X1 ++ Q,P2,P1,X2,by simp only [List.append_assoc],l2,l1,by rw [List.length_append];omega,?_⟩⟩
 rw [← ht];simp only [List.append_assoc]
theorem Ep.less {A U V B : List Int} {m i j : Nat} {xs : List Int} (h : Ep A U V B m i j xs) (Aw : i < j) :
  ∃ A' P' M' Q' B',xs = A' ++ (P' ++ (M' ++ (Q' ++ B'))) ∧ A'.length + i = m ∧ P'.length = i ∧ Q'.length = i ∧ A'.length + P'.length + M'.length = m + j - i ∧ Ep A U V B m i (j - i) (A' ++ (Q' ++ (M' ++ (P' ++ B')))):=by
 obtain ⟨X1,P,Q,X2,rfl,hp,hq,hm,ht⟩:=h.ex;have hc:=List.take_append_drop (j - i) Q;obtain ⟨Q1,hQ1⟩ : ∃ z,z = Q.take (j - i):=⟨_,rfl⟩
 obtain ⟨Q2,hQ2⟩ : ∃ z,z = Q.drop (j - i):=⟨_,rfl⟩
 have l1 : Q1.length = j - i:=by rw [hQ1,List.length_take];omega
 have l2 : Q2.length = i:=by rw [hQ2,List.length_drop];omega
 rw [← hQ1,← hQ2] at hc;clear hQ1 hQ2;subst hc
 refine ⟨A ++ X1,P,Q1,Q2,X2 ++ B,by simp only [List.append_assoc],by rw [List.length_append];omega,hp,l2,by rw [List.length_append];omega,⟨X1,Q2,Q1,P ++ X2,by simp only [List.append_assoc],l2,l1,by omega,?_⟩⟩
 rw [← ht];simp only [List.append_assoc]
theorem Ep.same {A U V B : List Int} {m i : Nat} {xs : List Int} (h : Ep A U V B m i i xs) :
  ∃ A' P' Q' B',xs = A' ++ (P' ++ ([] ++ (Q' ++ B'))) ∧ A'.length + i = m ∧ P'.length = i ∧ Q'.length = i ∧ A' ++ (Q' ++ ([] ++ (P' ++ B'))) = A ++ (V ++ (U ++ B)):=by
 obtain ⟨X1,P,Q,X2,rfl,hp,hq,hm,ht⟩:=h.ex
 refine ⟨A ++ X1,P,Q,X2 ++ B,by simp only [List.append_assoc,List.nil_append],by rw [List.length_append];omega,hp,hq,?_⟩
 rw [← ht];simp only [List.append_assoc,List.nil_append]
theorem Ep.len {A U V B : List Int} {m i j : Nat} {xs : List Int} (h : Ep A U V B m i j xs) : xs.length = A.length + U.length + V.length + B.length ∧ i ≤ m ∧ m + j ≤ xs.length:=by
 obtain ⟨X1,P,Q,X2,rfl,hp,hq,hm,ht⟩:=h.ex
 have:=congrArg List.length ht
 simp only [List.length_append] at this ⊢
 omega
structure Cf (a m b mid n s0 r0 : Nat) : Prop where
 Iy : mid = (a + b) / 2
 hn : n = mid + m
 Er : a + 2 ≤ m
 hmb : m + 2 ≤ b
 lo : (mid < m ∧ s0 = n - b ∧ r0 = mid) ∨ (m ≤ mid ∧ s0 = a ∧ r0 = m)
theorem Cf.rng {a m b mid n s0 r0 : Nat} (h : Cf a m b mid n s0 r0) : a ≤ s0 ∧ s0 ≤ r0 ∧ r0 ≤ m ∧ a < mid ∧ mid < b:=by
 obtain ⟨h1,h2,h3,h4,h5⟩:=h
 rcases h5 with ⟨h6,h7,h8⟩ | ⟨h6,h7,h8⟩ <;> omega
theorem Cf.at_ {a m b mid n s0 r0 c : Nat} (h : Cf a m b mid n s0 r0) (h1 : s0 ≤ c) (h2 : c < r0) : a ≤ c ∧ c < m ∧ m ≤ n - 1 - c ∧ n - 1 - c < b ∧ c + 1 ≤ n:=by
 obtain ⟨e1,e2,h3,h4,h5⟩:=h
 rcases h5 with ⟨h6,h7,h8⟩ | ⟨h6,h7,h8⟩ <;> omega
theorem Cf.end_ {a m b mid n s0 r0 s : Nat} (h : Cf a m b mid n s0 r0) (h1 : s0 ≤ s) (h2 : s ≤ r0) : a ≤ s ∧ s ≤ m ∧ m ≤ n - s ∧ n - s ≤ b ∧ s ≤ n ∧ (s - a) + (n - s - m) = mid - a ∧ mid ≤ n - s + (m - s) ∧ n - s = mid + (m - s):=by
 obtain ⟨e1,e2,h3,h4,h5⟩:=h
 rcases h5 with ⟨h6,h7,h8⟩ | ⟨h6,h7,h8⟩ <;> omega
theorem NP {K : Int → Int} {U V : List Int} {a m b mid n s0 r0 s : Nat} (h : Cf a m b mid n s0 r0) (hU : iO K U) (hV : iO K V) (hul : U.length = m - a) (hvl : V.length = b - m) (h1 : s0 ≤ s) (h2 : s ≤ r0)
  (hI : s = s0 ∨ K (U.getD (s - 1 - a) 0) ≤ K (V.getD (n - s - m) 0)) (hJ : s = r0 ∨ K (V.getD (n - 1 - s - m) 0) < K (U.getD (s - a) 0)) :
  Yj K (U.take (s - a)) (U.drop (s - a)) (V.take (n - s - m)) (V.drop (n - s - m)):=by
 have he:=h.end_ h1 h2
 have hd : ∀ (l : List Int) (k : Nat) (hk : k < l.length),l.getD k 0 = l[k]:=fun l k hk => by rw [zDd,List.getElem?_eq_getElem hk];rfl
 refine Ro hU hV (by omega) (by omega) ?_ ?_
 ·by_cases e0 : s = a
  ·exact .inl (by omega)
  ·by_cases e1 : n - s = b
   ·exact .inr (.inl (by omega))
   ·right;right
    rcases hI with hI | hI
    ·exfalso
     obtain ⟨-,-,-,-,h5⟩:=h
     rcases h5 with ⟨h6,h7,h8⟩ | ⟨h6,h7,h8⟩ <;> omega
    ·refine ⟨by omega,by omega,?_⟩
     rw [hd _ _ (by omega),hd _ _ (by omega)] at hI
     have : s - a - 1 = s - 1 - a:=by omega
     simp only [this];exact hI
 ·by_cases e0 : s = m
  ·exact .inl (by omega)
  ·by_cases e1 : n - s = m
   ·exact .inr (.inl (by omega))
   ·right;right
    rcases hJ with hJ | hJ
    ·exfalso
     obtain ⟨-,-,-,-,h5⟩:=h
     rcases h5 with ⟨h6,h7,h8⟩ | ⟨h6,h7,h8⟩ <;> omega
    ·refine ⟨by omega,by omega,?_⟩
     rw [hd _ _ (by omega),hd _ _ (by omega)] at hJ
     have : n - s - m - 1 = n - 1 - s - m:=by omega
     simp only [this];omega
def Ab (f : Nat → Nat) : Nat → Nat → Nat
 | 0,x => x
 | k + 1,x => Ab f k (f x)
theorem zF (f : Nat → Nat) : ∀ (a b x : Nat),Ab f (a + b) x = Ab f b (Ab f a x)
 | 0,b,x => by simp [Ab]
 | a + 1,b,x => by rw [Nat.succ_add];exact zF f a b (f x)
def lg (s : Nat) : Nat:=s * 6364136223846793005 + 1442695040888963407
theorem Vp (P u v x : Nat) : (x * (1 + 4 * P * u) + P * (1 + 2 * v)) * (1 + 4 * P * u) + P * (1 + 2 * v) = x * (1 + 4 * (P + P) * (u + 2 * P * u * u)) + (P + P) * (1 + 2 * (v + P * u * (1 + 2 * v))):=by grind
theorem K6 : ∀ k : Nat,∃ u v : Nat,∀ x,Ab lg (2 ^ k) x = x * (1 + 4 * 2 ^ k * u) + 2 ^ k * (1 + 2 * v)
 | 0 => ⟨1591034055961698251,721347520444481703,fun x => by simp [Ab,lg]⟩
 | k + 1 => by
  obtain ⟨u,v,h⟩:=K6 k;refine ⟨u + 2 * 2 ^ k * u * u,v + 2 ^ k * u * (1 + 2 * v),fun x => ?_⟩
  have e : 2 ^ (k + 1) = 2 ^ k + 2 ^ k:=by rw [Nat.pow_succ];omega
  rw [e,zF,h,h];exact Vp _ _ _ _
theorem NQ (P u v z : Nat) : (z * (1 + 4 * P * u) + P * (1 + 2 * v)) % (2 * P) = (z + P) % (2 * P):=by
 have e : z * (1 + 4 * P * u) + P * (1 + 2 * v) = z + P + 2 * P * (2 * z * u + v):=by grind
 rw [e,Nat.add_mul_mod_self_left]
theorem NR (P a b : Nat) (hP : 0 < P) (h : a % P = b % P) : a % (2 * P) = b % (2 * P) ∨ (a + P) % (2 * P) = b % (2 * P):=by
 have e1 : a = P * (a / P) + b % P:=by rw [← h];exact (Nat.div_add_mod a P).symm
 have e2 : b = P * (b / P) + b % P:=(Nat.div_add_mod b P).symm;have lt : b % P < P:=Nat.mod_lt _ hP
 generalize b % P = r at *
 generalize a / P = q1 at *
 generalize b / P = q2 at *
 subst e1
 have n8 : ∀ q : Nat,(P * q + r) % (2 * P) = P * (q % 2) + r:=fun q => by
  have e3 : P * q + r = P * (q % 2) + r + 2 * P * (q / 2):=by
   have h9 : P * q = P * (2 * (q / 2) + q % 2):=by rw [Nat.div_add_mod]
   rw [h9]
   grind
  rw [e3,Nat.add_mul_mod_self_left];apply Nat.mod_eq_of_lt
  rcases Nat.mod_two_eq_zero_or_one q with h0 | h0 <;> rw [h0] <;> omega
 have e4 : P * q1 + r + P = P * (q1 + 1) + r:=by grind
 rw [e2,e4,n8,n8,n8]
 rcases Nat.mod_two_eq_zero_or_one q1 with h0 | h0 <;> rcases Nat.mod_two_eq_zero_or_one q2 with h1 | h1
 ·exact .inl (by rw [h0,h1])
 ·exact .inr (by rw [h1,show (q1 + 1) % 2 = 1 by omega])
 ·exact .inr (by rw [h1,show (q1 + 1) % 2 = 0 by omega])
 ·exact .inl (by rw [h0,h1])
theorem Cg : ∀ (k x y : Nat),∃ t,t < 2 ^ k ∧ Ab lg t x % 2 ^ k = y % 2 ^ k
 | 0,x,y => ⟨0,by simp,by simp [Nat.mod_one]⟩
 | k + 1,x,y => by
  obtain ⟨t,h1,h2⟩:=Cg k x y;obtain ⟨u,v,h⟩:=K6 k
  have e : 2 ^ (k + 1) = 2 * 2 ^ k:=by rw [Nat.pow_succ];omega
  have hP : 0 < 2 ^ k:=Nat.pow_pos (by omega);have h3:=h (Ab lg t x);rw [← zF] at h3;rw [e];rcases NR _ _ _ hP h2 with hc | hc
  ·exact ⟨t,by omega,hc⟩
  ·exact ⟨t + 2 ^ k,by omega,by rw [h3,NQ _ _ _ _];exact hc⟩
def byteOf (s : Nat) : Nat:=s / 1099511627776 % 256
theorem Es (x b : Nat) (hb : b < 256) : ∃ t,t < 281474976710656 ∧ byteOf (Ab lg t x) = b:=by
 obtain ⟨t,h1,h2⟩:=Cg 48 x (b * 1099511627776);refine ⟨t,by simpa using h1,?_⟩
 unfold byteOf
 generalize Ab lg t x = z at *
 simp only [Nat.reducePow] at h2;omega
def nx (s b : Nat) : Nat:=(s * 6364136223846793005 + b + 1442695040888963407) % 18446744073709551616
theorem vG (f : Nat → Nat) (k x : Nat) : Ab f (k + 1) x = Ab f k (f x):=rfl
theorem Vq (s : Nat) : nx (s % 18446744073709551616) 0 = lg s % 18446744073709551616:=by
 unfold nx lg
 omega
theorem K7 : ∀ (t s : Nat),Ab (fun s => nx s 0) t (s % 18446744073709551616) = Ab lg t s % 18446744073709551616
 | 0,s => rfl
 | t + 1,s => by
  rw [vG,vG,← K7 t (lg s),Vq]
theorem K8 (z : Nat) : byteOf (z % 18446744073709551616) = byteOf z:=by unfold byteOf;omega
theorem K9 (s b : Nat) (hs : s < 18446744073709551616) (hb : b < 256) : ∃ t,t < 281474976710656 ∧ byteOf (Ab (fun s => nx s 0) t s) = b:=by
 obtain ⟨t,h1,h2⟩:=Es s b hb
 refine ⟨t,h1,?_⟩
 have:=K7 t s
 rw [Nat.mod_eq_of_lt hs] at this;rw [this,K8]
 exact h2
section
variable {ops : Array Oper} {rest : List Oper} {o : Oper} {a : Act} {Q : Exit → Act → World → Prop}
end
section
variable {ops : Array Oper} {rest : List Oper} {o : Oper} {a : Act} {Q : Exit → Act → World → Prop}
end
section
variable {ops : Array Oper} {rest : List Oper} {o : Oper} {a : Act} {Q : Exit → Act → World → Prop}
end
section
open Go.ChangeShapes Go.WideShapes Go.ChangeAt Go.Joins Go.Deep
variable {H : Type} {enc : TypeId × Value → H} {W : World}
end
structure ASt where
 rounds : List Int
 before : List Int
 now : List Int
 slots : List (List Int)
 flight : List (List (List (Int × Int)))
end Go.Proofs.YtgmdpppljkmabaaGreat
