/- Parts of the proof: walks of functions and plain laws. -/
import Derived.Test.YtgmdpppljkmabaaGreatP0
import Derived.Test.YtgmdpppljkmabaaGreatP13
import Derived.Test.YtgmdpppljkmabaaGreatP1
import Derived.Test.YtgmdpppljkmabaaGreatP12
import Derived.Test.YtgmdpppljkmabaaGreatP6
import Derived.Test.YtgmdpppljkmabaaGreatP5
set_option maxRecDepth 100000
set_option maxHeartbeats 16000000
namespace Go.Proofs.YtgmdpppljkmabaaGreat
open Go Go.RowKit
structure Kids (n : am) (dep : Nat → Int) (par : Nat → Option Nat) (zo : Nat → Nat → Bool) : Prop where
 iff_ : ∀ v i,i < (n.ends.getD v []).length → zo v i = true → par (aP n v i) = some v ∧ dep (aP n v i) = dep v + 1 ∧ aP n v i < n.ends.length
 of_ : ∀ v c,c < n.ends.length → par c = some v → ∃ i,i < (n.ends.getD v []).length ∧ zo v i = true ∧ aP n v i = c
 one : ∀ v i j,i < (n.ends.getD v []).length → j < (n.ends.getD v []).length → zo v i = true → zo v j = true → aP n v i = aP n v j → i = j
def eP (n : am) (dep : Nat → Int) (par : Nat → Option Nat) (zo : Nat → Nat → Bool) (v j w : Nat) : Bool:=(List.range j).any fun i => zo v i && rI dep par w (aP n v i)
theorem Kids.step {n : am} {dep : Nat → Int} {par : Nat → Option Nat} {zo : Nat → Nat → Bool} (hT : Tr n.ends.length dep par) (h : Kids n dep par zo) {v j : Nat} (hj : j < (n.ends.getD v []).length) :
  (List.range n.ends.length).countP (eP n dep par zo v (j + 1)) = (List.range n.ends.length).countP (eP n dep par zo v j) + (if zo v j = true then lA n.ends.length dep par (aP n v j) else 0):=by
 have fI : ∀ w,eP n dep par zo v (j + 1) w = (eP n dep par zo v j w || (zo v j && rI dep par w (aP n v j))):=fun w => by
  unfold eP;rw [List.range_succ,List.any_append];simp
 by_cases hk : zo v j = true
 ·rw [if_pos hk];unfold lA;refine ko (fun w _ => by rw [fI,hk,Bool.true_and]) fun w hw hb => ?_
  have sd:=List.mem_range.1 hw;rw [Bool.eq_false_iff];intro ha;unfold eP at hb;rw [List.any_eq_true] at hb;obtain ⟨i,hi,hb⟩:=hb;have hi:=List.mem_range.1 hi;rw [Bool.and_eq_true] at hb;have q1:=(h.iff_ v i (by omega) hb.1).2.1;have q2:=(h.iff_ v j hj hk).2.1
  have:=s9 hT _ w _ _ sd (Nat.le_refl _) hb.2 ha (by omega)
  have:=h.one v i j (by omega) hj hb.1 hk this
  omega
 ·rw [if_neg hk,Nat.add_zero]
  exact List.countP_congr fun w _ => by rw [fI,Bool.eq_false_iff.2 hk];simp
theorem Kids.sub {n : am} {dep : Nat → Int} {par : Nat → Option Nat} {zo : Nat → Nat → Bool} (hT : Tr n.ends.length dep par) (h : Kids n dep par zo) {v : Nat} (hv : v < n.ends.length) : lA n.ends.length dep par v = 1 + (List.range n.ends.length).countP (eP n dep par zo v (n.ends.getD v []).length):=by
 unfold lA
 have h1 : (List.range n.ends.length).countP (fun w => w == v) = 1:=by
  have h2 : (List.range n.ends.length).count v = 1:=by rw [List.Nodup.count List.nodup_range,if_pos (List.mem_range.2 hv)]
  rw [← h2];rfl
 have h2:=ko (p:=fun w => w == v) (q:=eP n dep par zo v (n.ends.getD v []).length) (r:=fun w => rI dep par w v) (l:=List.range n.ends.length) (fun w hw => ?_) (fun w hw hb => ?_)
 ·rw [h2,h1]
 ·have sd:=List.mem_range.1 hw;rw [Bool.eq_iff_iff,Bool.or_eq_true,beq_iff_eq];constructor
  ·intro ha
   by_cases e : w = v
   ·exact .inl e
   ·obtain ⟨c,hc,c1,c2⟩:=ow hT _ w v sd (Nat.le_refl _) ha e;obtain ⟨i,i1,i2,i3⟩:=h.of_ v c hc c1
    right
    unfold eP;rw [List.any_eq_true]
    exact ⟨i,List.mem_range.2 i1,by rw [i2,i3,c2];rfl⟩
  ·rintro (rfl | hb)
   ·exact jG hT sd
   ·unfold eP at hb;rw [List.any_eq_true] at hb;obtain ⟨i,hi,hb⟩:=hb;rw [Bool.and_eq_true] at hb;exact zj hT _ w _ v sd (Nat.le_refl _) hb.2 (h.iff_ v i (List.mem_range.1 hi) hb.1).1
 ·have e:=eq_of_beq hb;subst e;rw [Bool.eq_false_iff];intro hb;unfold eP at hb;rw [List.any_eq_true] at hb;obtain ⟨i,hi,hb⟩:=hb;rw [Bool.and_eq_true] at hb;have h3:=(h.iff_ _ i (List.mem_range.1 hi) hb.1).2.1;have h4:=(ou hT _ w _ hv (Nat.le_refl _) hb.2).2;rcases h4 with h4 | h4
  ·rw [h4] at h3;omega
  ·omega
def zq (n : am) (v i : Nat) : Bool:=decide (((n.ends.getD v []).getD i (0,0)).2 = jH n (aP n v i)) && decide (dZ n (aP n v i) = dZ n v + 1)
theorem Nu {n : am} (hn : an n = true) {c v : Nat} (hc : c < n.ends.length) (hp : kF n c = some v) : ∃ q : Nat,jH n c = (q : Int) ∧ q < (n.ends.getD c []).length ∧ aP n c q = v ∧ dZ n v + 1 = dZ n c:=by
 have hT:=(Mt hn).some_ c v hc hp;unfold kF at hp
 by_cases h : 0 ≤ jH n c
 ·rw [if_pos h] at hp;have hp:=Option.some.inj hp;obtain ⟨-,-,-,-,-,h6⟩:=im hn (cK hn hc) (r:=al n c) (v:=c) h;refine ⟨(jH n c).toNat,by omega,h6,?_,hT.2⟩
  unfold eE at hp;exact hp
 ·rw [if_neg h] at hp;cases hp
theorem Nv {n : am} (hn : an n = true) : Kids n (dZ n) (kF n) (zq n):=by
 refine ⟨fun v i hi hk => ?_,fun v c hc hp => ?_,fun v i j hi hj ki kj he => ?_⟩
 ·unfold zq at hk;rw [Bool.and_eq_true,decide_eq_true_eq,decide_eq_true_eq] at hk;obtain ⟨h1,h2,h3,j,h4,h5,h6⟩:=gV hn hi;refine ⟨?_,hk.2,h1⟩;unfold kF;rw [← hk.1,h4,if_pos (by omega)];unfold eE;rw [Int.toNat_natCast,h6];simp
 ·obtain ⟨q,h1,h2,h3,h4⟩:=Nu hn hc hp;obtain ⟨g1,g2,g3,j,g4,g5,g6⟩:=gV hn h2;rw [h3] at g5 g6
  have ef : aP n v j = c:=by unfold aP;rw [g6];simp
  refine ⟨j,g5,?_,ef⟩;unfold zq;rw [ef,g6,Bool.and_eq_true,decide_eq_true_eq,decide_eq_true_eq];exact ⟨h1.symm,by omega⟩
 ·obtain ⟨-,-,-,a,a4,a5,a6⟩:=gV hn hi;obtain ⟨-,-,-,b,b4,b5,b6⟩:=gV hn hj;unfold zq at ki kj;rw [Bool.and_eq_true,decide_eq_true_eq,decide_eq_true_eq] at ki kj;rw [a4] at ki;rw [b4,← he] at kj;have pt : a = b:=by omega
  subst pt;rw [← he,a6] at b6
  have:=congrArg Prod.snd b6
  simp only at this
  omega
theorem ip {n : am} (hn : an n = true) (h0 : n.ids.length ≠ 0) {v : Nat} (hv : v < n.ends.length) :
  r9 (io n v) = n.ids.getD (al n v) 0 ∧ jS (io n v) = dZ n v ∧ rm (io n v) = (if jH n v < 0 then 9 else jH n v) ∧ sE (io n v) = ((lA n.ends.length (dZ n) (kF n) v % 2 : Nat) : Int) ∧ 0 ≤ io n v ∧ io n v ≤ 2000000000 ∧ (0 ≤ jH n v → jH n v < 6):=by
 have hl:=cK hn hv;have hN:=aN hn;have h1:=(rL hn h0).2 _ hl;have h2 : 0 ≤ dZ n v:=(Mt hn).pos v hv;have h3 : dZ n v < n.ends.length:=(nK hn hl hv).2
 have h4 : 0 ≤ jH n v → jH n v < 6:=fun h => by
  obtain ⟨a,-,-,-,-,b⟩:=im hn hl (r:=al n v) (v:=v) h
  have h5 : n.ends[v]? = some (n.ends.getD v []):=by rw [zDd,List.getElem?_eq_getElem hv];rfl
  have h6:=(df hn h5).1;have h7 : (jH n v).toNat < (n.ends.getD v []).length:=b;omega
 obtain ⟨q,hq⟩ : ∃ q,(if jH n v < 0 then 9 else jH n v) = q:=⟨_,rfl⟩
 have hqb : 0 ≤ q ∧ q ≤ 9:=by
  rw [← hq]
  split
  ·omega
  ·have:=h4 (by omega);omega
 obtain ⟨b,hb⟩ : ∃ b : Int,((lA n.ends.length (dZ n) (kF n) v % 2 : Nat) : Int) = b:=⟨_,rfl⟩
 have rq : 0 ≤ b ∧ b ≤ 1:=by omega
 unfold io r9 jS rm sE
 rw [hq,hb];refine ⟨by omega,by omega,by omega,by omega,by omega,by omega,h4⟩
theorem Kv {n : am} (hn : an n = true) {r : Nat} (hr : r < n.ends.length) (h : al n r = r) : lA n.ends.length (dZ n) (kF n) r = li n r:=by
 have hT:=Mt hn
 have n8 : ∀ (f w : Nat),w < n.ends.length → (dZ n w).toNat ≤ f → al n w = r → rI (dZ n) (kF n) w r = true:=by
  intro f
  induction f with
  | zero =>
   intro w hw hf he;have h1:=hT.pos w hw
   by_cases e : w = r
   ·rw [e];exact jG hT hr
   ·have h2:=qQ hn hw;have h3 : ¬ jH n w < 0:=fun h => e (by rw [h2.1 h,he])
    obtain ⟨-,-,h4,-⟩:=im hn (cK hn hw) (r:=al n w) (v:=w) (by unfold jH at h3;omega)
    have : dZ n w = aK n (al n w) w:=rfl
    omega
  | succ f ih =>
   intro w hw hf he;have h1:=hT.pos w hw
   by_cases e : w = r
   ·rw [e];exact jG hT hr
   ·have h2:=qQ hn hw;have h3 : ¬ jH n w < 0:=fun h => e (by rw [h2.1 h,he])
    have hp : kF n w = some (eE n w (jH n w)):=if_pos (by omega);obtain ⟨p1,p2⟩:=hT.some_ w _ hw hp
    obtain ⟨-,-,-,-,h5,-⟩:=im hn (cK hn hw) (r:=al n w) (v:=w) (by unfold jH at h3;omega)
    have h5 : fH n w (eE n w (jH n w)):=h5;rw [jV hT hw,hp,Bool.or_eq_true]
    exact .inr (ih _ p1 (by omega) (by rw [← fK hn hw h5];exact he))
 unfold lA li jU
 rw [← List.countP_eq_length_filter];refine List.countP_congr fun w hw => ?_
 have sd:=List.mem_range.1 hw;rw [decide_eq_true_eq];constructor
 ·intro ha;rw [yo hn _ w r sd (Nat.le_refl _) ha,h]
 ·intro he;exact n8 _ w sd (Nat.le_refl _) he
theorem Kw {n : am} (hn : an n = true) (h0 : n.ids.length ≠ 0) (h : kc n = true) : cY n 5 ((List.range n.ends.length).map (io n)):=by
 intro v hv;have hT:=Mt hn;have hK:=Nv hn;obtain ⟨p0,p1,p2,p3,p4,p5,p6⟩:=ip hn h0 hv
 have co : ∀ i,i < (n.ends.getD v []).length → aP n v i < n.ends.length ∧ lab ((List.range n.ends.length).map (io n)) ((n.ends.getD v []).getD i (0,0)) = io n (aP n v i) ∧ al n (aP n v i) = al n v:=fun i hi => by
  have jy:=(getD_in (d:=(0,0)) hi).1;have dG:=et hn jy;have hs:=kG jy dG.2.1
  have hl : aP n v i < n.ends.length:=by unfold aP;omega
  exact ⟨hl,lX hl,(fK hn hv (fH.refl.step hs)).symm⟩
 unfold fi fU
 rw [if_neg (by decide),if_neg (by decide),if_neg (by decide),if_neg (by decide),Bool.and_eq_true,decide_eq_true_eq,lX hv];refine ⟨h0,?_⟩
 have ZZ : ∀ j,j ≤ (n.ends.getD v []).length → fN ((List.range n.ends.length).map (io n)) (io n v) (n.ends.getD v []) j % 2 = (1 + (((List.range n.ends.length).countP (eP n (dZ n) (kF n) (zq n) v j) : Nat) : Int)) % 2:=by
  intro j
  induction j with
  | zero =>
   intro _
   have : (List.range n.ends.length).countP (eP n (dZ n) (kF n) (zq n) v 0) = 0:=List.countP_eq_zero.2 fun w _ => by simp [eP]
   rw [this];simp [fN]
  | succ j ih =>
   intro hj;have ih:=ih (by omega);have wG : j < (n.ends.getD v []).length:=by omega
   obtain ⟨f1,f2,f3⟩:=co j wG;obtain ⟨q0,q1,q2,q3,q4,q5,q6⟩:=ip hn h0 f1
   have hk : lU (io n v) ((n.ends.getD v []).getD j (0,0)) (lab ((List.range n.ends.length).map (io n)) ((n.ends.getD v []).getD j (0,0))) = zq n v j:=by
    rw [f2,Bool.eq_iff_iff]
    unfold lU zq
    rw [Bool.and_eq_true,Bool.and_eq_true,beq_iff_eq,beq_iff_eq,decide_eq_true_eq,decide_eq_true_eq,p1,q1,q2];obtain ⟨g1,g2,g3,q,g4,g5,g6⟩:=gV hn wG
    have h5 : n.ends[aP n v j]? = some (n.ends.getD (aP n v j) []):=by rw [zDd,List.getElem?_eq_getElem f1];rfl
    have h6:=(df hn h5).1;constructor
    ·rintro ⟨a,b⟩;refine ⟨?_,b⟩
     split at a
     ·rw [g4] at a;omega
     ·exact a
    ·rintro ⟨a,b⟩;refine ⟨?_,b⟩
     rw [if_neg (by rw [← a,g4];omega)]
     exact a
   unfold fN;rw [hk,hK.step hT wG,f2]
   by_cases Qe : zq n v j = true
   ·rw [if_pos Qe,if_pos Qe,q3];omega
   ·rw [if_neg Qe,if_neg Qe];simpa using ih
 unfold jF nC nB
 rw [Bool.and_eq_true,Bool.and_eq_true,List.all_eq_true,Bool.or_eq_true,beq_iff_eq,p0,p1,p2,p3];refine ⟨⟨fun i hi => ?_,?_⟩,?_⟩
 ·obtain ⟨f1,f2,f3⟩:=co i (List.mem_range.1 hi);rw [f2,(ip hn h0 f1).1,f3];simp
 ·rw [ZZ _ (Nat.le_refl _),hK.sub hT hv];omega
 ·by_cases e : v = al n v
  ·left
   have hr : al n v < n.ends.length:=cK hn hv;have Td : jH n v < 0:=(qQ hn hv).2 e
   have hz : dZ n v = 0:=by
    unfold dZ
    have:=uY hn hr
    rw [← e] at this ⊢;exact this
   have Nn:=List.all_eq_true.1 h v (List.mem_range.2 hv);unfold nD at Nn;rw [Bool.not_eq_true',beq_eq_false_iff_ne,← e] at Nn;rw [hz,if_pos Td,Kv hn hv e.symm,← e]
   have : li n v % 2 = 0:=by omega
   rw [this];simp
  ·right
   have Td : ¬ jH n v < 0:=fun hc => e ((qQ hn hv).1 hc)
   obtain ⟨s1,s2,s3,s4,s5,s6⟩:=im hn (cK hn hv) (r:=al n v) (v:=v) (by unfold jH at Td;omega)
   have s7 : dZ n v = aK n (al n v) v:=rfl;rw [Bool.and_eq_true,decide_eq_true_eq,List.any_eq_true];refine ⟨by omega,(jH n v).toNat,List.mem_range.2 s6,?_⟩;have s6 : (jH n v).toNat < (n.ends.getD v []).length:=s6;obtain ⟨f1,f2,f3⟩:=co _ s6;rw [if_neg Td,f2,(ip hn h0 f1).2.1,Bool.and_eq_true,beq_iff_eq,beq_iff_eq];refine ⟨by omega,?_⟩;have e2 : aP n v (jH n v).toNat = eE n v (ke n (al n v) v):=rfl
   have e3 : dZ n (aP n v (jH n v).toNat) = aK n (al n v) (aP n v (jH n v).toNat):=by unfold dZ;rw [f3]
   rw [e3,e2,s4,s7]
theorem Nw {n : am} {s : Int} {ls : List Int} (hl : eL n s ls = true) (h : cY n s ls) (hk : qN n s = true) : ik n s = true:=by
 obtain ⟨hn,hs,-,-⟩:=gA.1 hl;unfold ik
 by_cases e1 : s = 1
 ·subst e1;rw [if_pos rfl];exact Nr hl h
 ·rw [if_neg e1]
  by_cases e2 : s = 2
  ·subst e2;rw [if_pos rfl];have h1:=BF hn (aN hn).1 (H6 hl h);unfold qN at hk;rw [if_pos rfl] at hk
   cases hR : ii n with
   | none => rw [hR] at hk;cases hk
   | some R =>
    cases R with
    | none => exact absurd hR h1
    | some l => rfl
  ·rw [if_neg e2]
   by_cases e3 : s = 3
   ·subst e3;rw [if_pos rfl];exact DZ hl h
   ·rw [if_neg e3]
    by_cases e4 : s = 4
    ·subst e4;obtain ⟨a,b⟩:=Ko hl h
     rw [if_neg a,if_pos rfl];exact b
    ·obtain rfl : s = 5:=by omega
     obtain ⟨a,b⟩:=Kq hl h
     rw [if_neg a,if_neg e4];exact b
structure Z0 (n : am) (s : Int) : Prop where
 len : (sI n s).length = n.ends.length
 acc : cY n s (sI n s)
 rng : ∀ x ∈ sI n s,0 ≤ x ∧ x ≤ 2000000000 ∧ (s = 1 → x ≤ 1) ∧ (s = 2 → x ≤ 2)
theorem ju {N : Nat} {f : Nat → Int} {P : Int → Prop} (h : ∀ v,v < N → P (f v)) : ∀ x ∈ (List.range N).map f,P x:=fun x hx => by
 obtain ⟨v,hv,rfl⟩:=List.mem_map.1 hx;exact h v (List.mem_range.1 hv)
theorem O_ {n : am} {s : Int} (hn : an n = true) (hs : 1 ≤ s ∧ s ≤ 5) (h : ik n s = true) : Z0 n s:=by
 have hN:=aN hn;unfold ik at h
 by_cases e1 : s = 1
 ·subst e1;rw [if_pos rfl] at h
  have e : sI n 1 = pG n:=by unfold sI;rw [if_pos rfl,if_pos h]
  refine ⟨by rw [e];exact JT n,by rw [e];exact Nt hn h,?_⟩
  rw [e];unfold pG
  exact ju fun v _ => by unfold gS;omega
 ·rw [if_neg e1] at h
  by_cases e2 : s = 2
  ·subst e2;rw [if_pos rfl] at h
   cases hR : ii n with
   | none => rw [hR] at h;cases h
   | some R =>
    cases R with
    | none => rw [hR] at h;cases h
    | some l =>
     have e : sI n 2 = l:=by unfold sI;rw [if_neg e1,if_pos rfl,hR]
     obtain ⟨a,b⟩:=DU hn hR
     refine ⟨by rw [e];exact b,by rw [e];exact H_ a,?_⟩
     rw [e];intro x hx;obtain ⟨k,hk⟩:=List.getElem?_of_mem hx;have lq:=aq hk
     have:=(a k (by omega)).1
     rw [aH hk] at this;omega
  ·rw [if_neg e2] at h
   by_cases e3 : s = 3
   ·subst e3;rw [if_pos rfl] at h
    have e : sI n 3 = (List.range n.ends.length).map (dZ n):=by unfold sI;rw [if_neg e1,if_neg e2,if_pos rfl]
    refine ⟨by rw [e];simp,by rw [e];exact D5 hn h,?_⟩
    rw [e]
    exact ju fun v hv => by
     have h1:=(Mt hn).pos v hv;have h2 : dZ n v < n.ends.length:=(nK hn (cK hn hv) hv).2;omega
   ·rw [if_neg e3] at h
    by_cases e0 : n.ids.length = 0
    ·rw [if_pos e0] at h;cases h
    ·rw [if_neg e0] at h
     by_cases e4 : s = 4
     ·subst e4;rw [if_pos rfl] at h
      have e : sI n 4 = (List.range n.ends.length).map (nG n):=by unfold sI;rw [if_neg e1,if_neg e2,if_neg e3,if_pos rfl]
      refine ⟨by rw [e];simp,by rw [e];exact Ku hn e0 h,?_⟩
      rw [e]
      exact ju fun v hv => by
       obtain ⟨r,hr,rp,-,-,-,FN⟩:=oz hn h hv;have h1:=(rL hn e0).2 r rp;have h2:=(rJ hn rp hv).2 FN;have h3:=(nK hn rp hv).2;unfold nG;rw [hr,Int.toNat_natCast];omega
     ·obtain rfl : s = 5:=by omega
      rw [if_neg e4] at h
      have e : sI n 5 = (List.range n.ends.length).map (io n):=by unfold sI;rw [if_neg e1,if_neg e2,if_neg e3,if_neg e4]
      refine ⟨by rw [e];simp,by rw [e];exact Kw hn e0 h,?_⟩
      rw [e]
      exact ju fun v hv => by
       have:=ip hn e0 hv
       omega
def rM (B : Nat) : Nat → Nat → List Nat
 | 0,_ => []
 | n + 1,k => k % B :: rM B n (k / B)
def vc (B : Nat) : List Nat → List Nat
 | [] => []
 | x :: xs => if x + 1 < B then (x + 1) :: xs else 0 :: vc B xs
theorem BQ (B n k : Nat) : (rM B n k).length = n:=by
 induction n generalizing k with
 | zero => rfl
 | succ n ih => simp [rM,ih]
theorem Ia {B : Nat} (hB : 0 < B) (n k : Nat) : vc B (rM B n k) = rM B n (k + 1):=by
 induction n generalizing k with
 | zero => rfl
 | succ n ih =>
  have hk:=Nat.div_add_mod k B;have hl:=Nat.mod_lt k hB;simp only [rM,vc]
  split
  ·rename_i h
   have e : k + 1 = (k % B + 1) + B * (k / B):=by omega
   rw [e,Nat.add_mul_mod_self_left,Nat.add_mul_div_left _ _ hB,Nat.mod_eq_of_lt h,Nat.div_eq_of_lt h,Nat.zero_add]
  ·rename_i h
   have e : k + 1 = 0 + B * (k / B + 1):=by rw [Nat.mul_add];omega
   rw [e,Nat.add_mul_mod_self_left,Nat.add_mul_div_left _ _ hB,Nat.zero_mod,Nat.zero_div,Nat.zero_add,ih]
theorem Ib (B n : Nat) : rM B n 0 = List.replicate n 0:=by
 induction n with
 | zero => rfl
 | succ n ih => simp [rM,ih,List.replicate_succ]
theorem FY {B : Nat} (hB : 0 < B) (n k : Nat) : ∀ x ∈ rM B n k,x < B:=by
 induction n generalizing k with
 | zero => simp [rM]
 | succ n ih =>
  intro x hx;rcases List.mem_cons.1 hx with h | h
  ·rw [h];exact Nat.mod_lt _ hB
  ·exact ih _ x h
def mX (ds : List Nat) : List Int:=(ds.map fun (x : Nat) => (x : Int)).reverse
def dp (B n k : Nat) : List Int:=mX (rM B n k)
theorem Kx (ds : List Nat) : (mX ds).length = ds.length:=by simp [mX]
theorem dS (B n k : Nat) : (dp B n k).length = n:=by rw [dp,Kx,BQ]
theorem Nx {ds : List Nat} {i x : Nat} (h : ds[i]? = some x) : (mX ds)[ds.length - 1 - i]? = some (x : Int):=by
 have hi : i < ds.length:=(List.getElem?_eq_some_iff.1 h).1;unfold mX;rw [List.getElem?_reverse (by simp;omega)];simp only [List.length_map,List.getElem?_map];rw [show ds.length - 1 - (ds.length - 1 - i) = i by omega,h]
 rfl
theorem Ky (ds : List Nat) (i x : Nat) (h : i < ds.length) : (mX ds).set (ds.length - 1 - i) (x : Int) = mX (ds.set i x):=by
 apply List.ext_getElem?
 intro j;unfold mX;rw [List.getElem?_set]
 by_cases hj : j < ds.length
 ·rw [List.getElem?_reverse (by simp;omega),List.getElem?_reverse (by simp;omega)];simp only [List.length_reverse,List.length_map,List.length_set,List.getElem?_map,List.getElem?_set]
  by_cases e : ds.length - 1 - i = j
  ·rw [if_pos e,if_pos (by omega),if_pos (by omega : i = ds.length - 1 - j),if_pos (by omega)];rfl
  ·rw [if_neg e,if_neg (by omega : ¬ i = ds.length - 1 - j)]
 ·rw [if_neg (by omega),List.getElem?_eq_none (by simp;omega),List.getElem?_eq_none (by simp;omega)]
theorem BS {B : Nat} (hB : 0 < B) (n k : Nat) : ∀ x ∈ dp B n k,0 ≤ x ∧ x < B:=by
 intro x hx
 unfold dp mX at hx
 rw [List.mem_reverse,List.mem_map] at hx;obtain ⟨y,hy,rfl⟩:=hx
 have:=FY hB n k y hy
 omega
def lB (ds : List Nat) (i : Nat) : List Nat:=List.replicate i 0 ++ ds.drop i
theorem Ic (ds : List Nat) : lB ds 0 = ds:=by simp [lB]
theorem vd {ds : List Nat} {i : Nat} (h : i ≤ ds.length) : (lB ds i).length = ds.length:=by simp [lB];omega
theorem Ny {ds : List Nat} {i x : Nat} (h : ds[i]? = some x) : (lB ds i)[i]? = some x:=by simp [lB,List.getElem?_append_right,h]
theorem BU {ds : List Nat} {i x : Nat} (h : ds[i]? = some x) (y : Nat) : (lB ds i).set i y = List.replicate i 0 ++ y :: ds.drop (i + 1):=by
 have hi : i < ds.length:=(List.getElem?_eq_some_iff.1 h).1;unfold lB;rw [List.set_append_right _ _ (by simp),List.drop_eq_getElem_cons hi];simp only [List.length_replicate,Nat.sub_self,List.set_cons_zero]
theorem Ie {ds : List Nat} {i x : Nat} (h : ds[i]? = some x) : (lB ds i).set i 0 = lB ds (i + 1):=by
 rw [BU h,lB,List.replicate_succ',List.append_assoc];rfl
theorem yw {B : Nat} {ds : List Nat} {i : Nat} (hi : i ≤ ds.length) (h : ∀ j x,j < i → ds[j]? = some x → ¬ x + 1 < B) : vc B ds = List.replicate i 0 ++ vc B (ds.drop i):=by
 induction i with
 | zero => simp
 | succ i ih =>
  rw [ih (by omega) (fun j x hj => h j x (by omega)),List.drop_eq_getElem_cons (by omega : i < ds.length),vc,if_neg (h i _ (by omega) (List.getElem?_eq_getElem _)),List.replicate_succ',List.append_assoc]
  rfl
theorem If {B : Nat} {ds : List Nat} {i x : Nat} (h : ∀ j x,j < i → ds[j]? = some x → ¬ x + 1 < B) (hx : ds[i]? = some x) (hlt : x + 1 < B) : (lB ds i).set i (x + 1) = vc B ds:=by
 have hi : i < ds.length:=(List.getElem?_eq_some_iff.1 hx).1;rw [BU hx,yw (by omega) h,List.drop_eq_getElem_cons hi,vc]
 have : ds[i] = x:=(List.getElem?_eq_some_iff.1 hx).2
 rw [this,if_pos hlt]
theorem Kz {B : Nat} {ds : List Nat} (h : ∀ j x,j < ds.length → ds[j]? = some x → ¬ x + 1 < B) : lB ds ds.length = vc B ds:=by
 rw [yw (Nat.le_refl _) h];simp [lB,vc]
def dy (most : Int) : Nat → Option Int
 | 0 => some 1
 | n + 1 => match dy most n with
  | none => none
  | some c => if 20000 ≤ most ∨ 20000 < c * (most + 1) then none else some (c * (most + 1))
theorem vf {most : Int} {i n : Nat} (h : dy most i = none) (hn : i ≤ n) : dy most n = none:=by
 induction n with
 | zero => obtain rfl : i = 0 := by omega
           exact h
 | succ n ih =>
  by_cases e : i = n + 1
  ·rw [← e];exact h
  ·rw [dy,ih (by omega)]
theorem jI {most : Int} (h0 : 0 ≤ most) (n : Nat) {c : Int} (h : dy most n = some c) : 1 ≤ c ∧ c ≤ 20000 ∧ (n ≠ 0 → most < 20000):=by
 induction n generalizing c with
 | zero => simp [dy] at h;subst h;simp
 | succ n ih =>
  rw [dy] at h
  split at h
  ·cases h
  ·rename_i c' DA
   obtain ⟨a1,-,-⟩:=ih DA
   split at h
   ·cases h
   ·rename_i hn
    injection h with h
    subst h;refine ⟨?_,by omega,fun _ => by omega⟩
    have : 1 * 1 ≤ c' * (most + 1):=Int.mul_le_mul a1 (by omega) (by omega) (by omega)
    omega
theorem aU.since {S : List Nat} {w0 W W' : World} (h : aa w0 W) (ho : aU S W W') (hs : ∀ k ∈ S,w0.heap.size ≤ k) : aa w0 W':=Below.trans h (ho.below _ h.below.size hs)
theorem nL {base : Nat} {u : Value} {xs : List Int} {W W' : World} {S : List Nat} (h : Own W base u xs) (ho : aU S W W') (hd : ∀ k ∈ S,u.ownBlock ≠ some k) : Own W' base u xs:=
 aO h fun j hj => ho.block j (World.ownsRow.lt h j (by simpa using hj)).2 fun hs => hd j hs (by simpa using hj)
theorem QL {c m : Int} (hc : 1 ≤ c ∧ c ≤ 20000) (h0 : 0 ≤ m) (h1 : m < 20000) : 0 ≤ c * (m + 1) ∧ c * (m + 1) ≤ 400000000:=by
 have h2 : c * (m + 1) ≤ 20000 * 20000:=Int.mul_le_mul (by omega) (by omega) (by omega) (by omega);have h3 : 0 ≤ c * (m + 1):=Int.mul_nonneg (by omega) (by omega);omega
def QM (w0 : World) (dR : FuncId) (cS : Array Value) (B n : Nat) (c : Nat) (J : Nat → Nat → World → Prop) : Prop:=
 ∀ g k W vl,k < c → w0.heap.size ≤ g → J g k W → Own W w0.heap.size vl (dp B n k) → vl.ownBlock = some g → Calls Tryz.prog dR (#[vl] ++ cS) W fun e W' => ∃ u,e = .returned u ∧ J g (k + 1) W' ∧ (∃ S,aU S W W' ∧ ∀ j ∈ S,j < w0.heap.size)
theorem lY (ve vi vn : Value) (n : am) (most : Int) (dR : FuncId) (cS : Array Value) (w : World) (J : Nat → Nat → World → Prop) (h : aT w ve vi vn n) (mK : 1 ≤ n.ends.length) (lh : n.ends.length ≤ 40) (kW : 0 ≤ most) (k9 : most ≤ 9223372036854775807)
  (d9 : ∀ args w,(callFunc dR args).run Tryz.prog w = .ok (.enter dR args) w) (hJ0 : ∀ g W,w.heap.size ≤ g → Below w.heap.size w W → J g 0 W) (hJk : ∀ g k W W',w.heap.size ≤ g → J g k W → aU [g] W W' → J g k W')
  (hf : ∀ c,dy most n.ends.length = some c → QM w dR cS (most.toNat + 1) n.ends.length c.toNat J) :
  Calls Tryz.prog 88 #[.agg #[ve,vi,vn],.int .i64 most,.func (.func dR) #[] cS] w fun e w' => e = .returned (.bool (dy most n.ends.length).isSome) ∧
   (∀ c,dy most n.ends.length = some c → ∃ g,w.heap.size ≤ g ∧ J g c.toNat w') ∧ (dy most n.ends.length = none → Below w.heap.size w w'):=by
 obtain ⟨w0,A,c,A2,c2,A3,c3,rfl,rfl,rfl,ft,hm,f6,gF,HA,dh,bv,H,eG,eX,fb⟩:=zB h;clear h
 have HJ0:=zh hJ0;have Z1:=zh hJk;have Hf:=zh hf;have eg:=d9;have cX : aa w0 w0:=ad _;clear hJ0 hJk hf d9;obtain ⟨lim,QN⟩ : ∃ x,dy most n.ends.length = x:=⟨_,rfl⟩
 have Nz:=zh QN;rw [QN];clear QN
 go_enter Tryz.func88,Tryz.ntmps88
 go_upto_region 1 with (fail);rw [← dh.out];go_wp2
 go_loopw [7,13] (fun c i wr => ∃ (k : Nat) (cc : Int),k ≤ n.ends.length ∧ i = .int .i64 k ∧ c = .int .i64 cc ∧ dy most k = some cc ∧ wr = w0) (fun _ i _ => n.ends.length - (intOf i).toNat)
 case atStart => exact ⟨0,1,Nat.zero_le _,rfl,rfl,rfl,rfl⟩
 case round =>
  obtain ⟨k,cc,hk,rfl,rfl,zV,hww⟩:=hrel;obtain rfl:=hww.symm
  clear hww;have iw:=jI kW k zV;have X7:=zh zV;clear zV
  by_cases hlt : k < n.ends.length
  ·by_cases hbig : 20000 ≤ most
   ·have px : Hid (lim = none):=by
     rw [← Nz.out]
     exact vf (i:=k + 1) (by rw [dy,X7.out];simp [hbig]) (by omega)
    have hg : decide (20000 ≤ most) = true:=by simpa using hbig
    clear iw;go_wp2;go_ret
    exact ⟨by rw [px.out];rfl,fun c hc => (by rw [px.out] at hc;cases hc),fun _ => bv.out⟩
   ·have hmb:=QL ⟨iw.1,iw.2.1⟩ kW (by omega);have hg : decide (20000 ≤ most) = false:=by simpa using hbig
    have m1 : IntKind.i64.wrap (most + 1) = most + 1:=aL _ (by omega) (by omega);have m2 : IntKind.i64.wrap (cc * (most + 1)) = cc * (most + 1):=aL _ (by omega) (by omega);have Hb:=zh hbig
    generalize X8 : cc * (most + 1) = pr at m2 hmb
    have US:=zh X8;clear iw hbig
    by_cases hp : 20000 < pr
    ·have px : Hid (lim = none):=by
      rw [← Nz.out]
      exact vf (i:=k + 1) (by rw [dy,X7.out];simp only;rw [US.out,if_pos (.inr hp)]) (by omega)
     go_wp2;go_ret
     exact ⟨by rw [px.out];rfl,fun c hc => (by rw [px.out] at hc;cases hc),fun _ => bv.out⟩
    ·have pE : Hid (dy most (k + 1) = some pr):=by
      show _ = _
      rw [dy,X7.out];simp only
      rw [US.out,if_neg (by have:=Hb.out;omega)]
     go_wp2;go_roundw
     case rel => exact ⟨k + 1,pr,by omega,by go_num,rfl,pE.out,(by first | rfl | trivial)⟩
     case measure => simp [intOf];omega
  ·obtain rfl : k = n.ends.length:=by omega
   obtain rfl : lim = some cc:=by rw [← Nz.out,X7.out]
   have abd : most < 20000:=iw.2.2 (by omega);obtain ⟨cn,rfl⟩:=Int.eq_ofNat_of_zero_le (show 0 ≤ cc by omega)
   have Te : cn ≤ 20000:=by omega
   have Hf1:=zh (Hf.out _ Nz.out);have hB : 0 < most.toNat + 1:=by omega
   have HB:=zh hB;clear iw hB
   go_wp2_with (at_make;refine k6 _ rfl _ _ rfl _ _ n.ends.length rfl rfl rfl rfl (by omega) ?_;intro w1 iu bj eF)
   obtain ⟨g,hg⟩ : ∃ g,g = w0.heap.size:=⟨_,rfl⟩
   rw [← hg] at iu eF ⊢
   have Pa : Hid (w.heap.size ≤ g):=by rw [hg];exact bv.out.size
   have HJs : Hid (J g 0 w1):=HJ0.out g w1 Pa.out (bv.out.trans (bj.mono bv.out.size));have dm : aa w0 w1:=bj
   have wI : Hid (Own w1 w.heap.size (.slice (some ⟨g,0,none⟩) n.ends.length n.ends.length) (dp (most.toNat + 1) n.ends.length 0)):=by
    show Own _ _ _ _
    have e : dp (most.toNat + 1) n.ends.length 0 = List.replicate n.ends.length 0:=by simp [dp,Ib,mX]
    rw [e];exact iu.mono Pa.out
   clear iu bj eF hg dm;go_wp2
   go_loopw [29] (fun i wr => ∃ k : Nat,k ≤ cn ∧ i = .int .i64 k ∧ J g k wr ∧ Own wr w.heap.size (.slice (some ⟨g,0,none⟩) n.ends.length n.ends.length) (dp (most.toNat + 1) n.ends.length k)) (fun i _ => cn - (intOf i).toNat)
   case atStart => exact ⟨0,Nat.zero_le _,rfl,HJs.out,wI.out⟩
   case round =>
    obtain ⟨k,hk,rfl,hJ,ho⟩:=hrel;have Ho:=zh ho;have HJ:=zh hJ;clear ho hJ
    by_cases hlt : k < cn
    ·go_wp2_with fail;refine (Hf1.out g k _ _ (by omega) Pa.out HJ.out Ho.out rfl).mono ?_;rintro e W2 ⟨uu,rfl,hJ2,S,fm,hSl⟩;have HJ2:=zh hJ2
     have iU:=zh (nL Ho.out fm (fun j hj e => by have:=hSl j hj;simp [Value.ownBlock] at e;have:=Pa.out;omega))
     obtain ⟨ds,CX⟩ : ∃ ds,ds = rM (most.toNat + 1) n.ends.length k:=⟨_,rfl⟩
     have BV : Hid (ds.length = n.ends.length):=by rw [CX];exact BQ _ _ _
     have Hdb : Hid (∀ x ∈ ds,x < most.toNat + 1):=by rw [CX];exact FY HB.out _ _
     have pE : Hid (dp (most.toNat + 1) n.ends.length (k + 1) = mX (vc (most.toNat + 1) ds)):=by rw [CX,Ia HB.out];rfl
     have ms : Hid (Own W2 w.heap.size (.slice (some ⟨g,0,none⟩) n.ends.length n.ends.length) (mX (lB ds 0))):=by rw [Ic,CX];exact iU.out
     clear hJ2 fm hSl CX;have m1 : IntKind.i64.wrap ((n.ends.length : Int) - 1) = n.ends.length - 1:=aL _ (by omega) (by omega);go_wp2
     go_loopw [9] (fun v wr => ∃ i : Nat,i ≤ n.ends.length ∧ v = .int .i64 ((n.ends.length : Int) - 1 - i) ∧ J g (k + 1) wr ∧ Own wr w.heap.size (.slice (some ⟨g,0,none⟩) n.ends.length n.ends.length) (mX (lB ds i)) ∧ (∀ j x,j < i → ds[j]? = some x → ¬ x + 1 < most.toNat + 1)) (fun v _ => ((intOf v) + 1).toNat)
     case atStart => exact ⟨0,Nat.zero_le _,by simp,HJ2.out,ms.out,fun j _ hj => by omega⟩
     case round =>
      obtain ⟨i,hi,rfl,hJ,ho,lN⟩:=hrel;have px:=zh lN;have Ho:=zh ho;have HJ:=zh hJ;clear lN hJ ho
      by_cases zZ : i < n.ends.length
      ·obtain ⟨x,hx⟩:=aW ds i (by rw [BV.out];exact zZ)
       have FK : x < most.toNat + 1:=Hdb.out x (List.mem_of_getElem? hx)
       have I9 : (mX (lB ds i))[n.ends.length - 1 - i]? = some (x : Int):=by
        have:=Nx (Ny hx)
        rwa [vd (by rw [BV.out];exact hi),BV.out] at this
       have gH : ∀ y : Nat,(mX (lB ds i)).set (n.ends.length - 1 - i) (y : Int) = mX ((lB ds i).set i y):=fun y => by
        have:=Ky (lB ds i) i y (by rw [vd (by rw [BV.out];exact hi),BV.out];exact zZ)
        rwa [vd (by rw [BV.out];exact hi),BV.out] at this
       have xl:=zh gH;have Hx:=zh hx;obtain ⟨p,hp⟩ : ∃ p,p = n.ends.length - 1 - i:=⟨_,rfl⟩
       have ep : (n.ends.length : Int) - 1 - i = (p : Int):=by omega
       rw [ep]
       have cz:=Ho.out.cell I9
       have fz:=Ho.out.free p;rw [← hp] at cz;have IZ : p < n.ends.length:=by omega
       have m2 : IntKind.i64.wrap ((x : Int) + 1) = x + 1:=aL _ (by omega) (by omega);have m3 : IntKind.i64.wrap ((p : Int) - 1) = p - 1:=aL _ (by omega) (by omega);have Hp:=zh hp;clear I9 gH hx hp ep
       by_cases gE : x + 1 < most.toNat + 1
       ·have n9 : decide ((x : Int) + 1 ≤ most) = true:=by simp;omega
        go_wp2;go_roundw
        case rel =>
         refine ⟨k + 1,by omega,by go_num,Z1.out g _ _ _ Pa.out HJ.out ((aU.refl _ _).setCell (.inl (by simp)) _),?_⟩
         rw [pE.out,← If px.out Hx.out gE,← xl.out,← Hp.out]
         have:=Ho.out.set (k:=p) ((x : Int) + 1)
         simpa using this
        case measure => simp [intOf];omega
       ·have n9 : decide ((x : Int) + 1 ≤ most) = false:=by simp;omega
        go_wp2;go_roundw
        case rel =>
         refine ⟨i + 1,by omega,?_,Z1.out g _ _ _ Pa.out (Z1.out g _ _ _ Pa.out HJ.out ((aU.refl _ _).setCell (.inl (by simp)) _)) ((aU.refl _ _).setCell (.inl (by simp)) _),?_,?_⟩
         ·have:=Hp.out;congr 1 <;> omega
         ·rw [← Ie Hx.out,← xl.out 0,← Hp.out]
          have:=(Ho.out.set (k:=p) ((x : Int) + 1)).set (k:=p) 0
          rw [List.set_set] at this;simpa using this
         ·intro j y hj hy
          by_cases e : j = i
          ·subst e;rw [Hx.out] at hy;cases hy;exact gE
          ·exact px.out j y (by omega) hy
        case measure => have:=Hp.out;simp [intOf] <;> omega
      ·obtain rfl : i = n.ends.length:=by omega
       have ep : (n.ends.length : Int) - 1 - (n.ends.length : Nat) = -1:=by omega
       rw [ep]
       have Z2 : Hid (mX (lB ds n.ends.length) = dp (most.toNat + 1) n.ends.length (k + 1)):=by
        rw [pE.out,← BV.out,Kz (by rw [BV.out];exact px.out)]
        exact rfl
       go_wp2;go_roundw
       case rel => exact ⟨k + 1,by omega,by go_num,HJ.out,by rw [← Z2.out];exact Ho.out⟩
       case measure => simp [intOf];omega
    ·obtain rfl : k = cn:=by omega
     go_wp2;go_ret
     exact ⟨rfl,fun c hc => (by cases hc;exact ⟨g,Pa.out,HJ.out⟩),fun hc => (by cases hc)⟩
def D6 (n : am) (s most : Int) : Bool:=an n && ee 1 5 s && ee 0 999999999999 most
theorem BW (ve vi vn : Value) (n : am) (s most : Int) (w : World) (h : aT w ve vi vn n) :
  Calls Tryz.prog 74 #[.agg #[ve,vi,vn],.int .i64 s,.int .i64 most] w fun e w' => e = .returned (.bool (D6 n s most)) ∧ Below w.heap.size w w':=by
 obtain ⟨w0,A,c,A2,c2,A3,c3,rfl,rfl,rfl,ft,hm,f6,gF,HA,dh,bv,H,eG,eX,fb⟩:=zB h;clear h
 go_enter Tryz.func74,Tryz.ntmps74
 go_upto_region 1 with (fail);rw [← dh.out];refine aB 11 (aa w0) (ad _) ?_;simp only [zT]
 apply ag rfl;(intro W hW;go_simp;with_reducible rfl);simp only [zA]
 refine dn ?_ rfl ?_ ?_;rotate_left;(intro W hW;unfold bG;go_simp;(with_reducible refine (tV _ _ _ n W (H.out.keep hW.below)).mono ?_);rintro e W' ⟨rfl,bg⟩;first | (refine ⟨?_,aa.trans hW bg⟩;with_reducible rfl) | (subst bg;refine ⟨?_,hW⟩;with_reducible rfl))
 simp only [zA]
 apply ag rfl;(intro W hW;go_simp;with_reducible rfl);simp only [zA]
 apply aj rfl rfl;(intro hb;intro W hW;go_simp;with_reducible rfl);simp only [zA]
 refine bC (v:=?_) rfl rfl ?_ ?_;rotate_left;(intro hb;intro W hW;unfold bG;go_simp;(with_reducible refine (C6 _ W).mono ?_);rintro e W' ⟨rfl,bg⟩;first | (refine ⟨?_,aa.trans hW bg⟩;with_reducible rfl) | (subst bg;refine ⟨?_,hW⟩;with_reducible rfl))
 simp only [zA]
 (first | refine bJ rfl rfl ?_ | (apply ag rfl;(intro W hW;go_simp;with_reducible rfl)));simp only [zA]
 apply ag rfl;(intro W hW;go_simp;with_reducible rfl);simp only [zA]
 apply aj rfl rfl;(intro hb;intro W hW;go_simp;with_reducible rfl);simp only [zA]
 refine bC (v:=?_) rfl rfl ?_ ?_;rotate_left;(intro hb;intro W hW;unfold bG;go_simp;(with_reducible refine (GQ _ W).mono ?_);rintro e W' ⟨rfl,bg⟩;first | (refine ⟨?_,aa.trans hW bg⟩;with_reducible rfl) | (subst bg;refine ⟨?_,hW⟩;with_reducible rfl))
 simp only [zA]
 (first | refine bJ rfl rfl ?_ | (apply ag rfl;(intro W hW;go_simp;with_reducible rfl)));simp only [zA]
 apply ag rfl;(intro W hW;go_simp;with_reducible rfl);simp only [zA]
 intro W hW;have HW:=zh hW;clear hW;go_wp2;go_ret;exact ⟨rfl,aa.after bv.out HW.out⟩
def nM (most : Int) (n : Nat) : Int:=(dy most n).getD (-1)
theorem si {n : am} {s : Int} {mo : Nat} (hn : an n = true) (hs : ee 1 5 s = true) (hm : mo < 20000) (k : Nat) : eL n s (dp (mo + 1) n.ends.length k) = true:=by
 unfold eL qK
 rw [hn,hs,dS];simp only [Bool.true_and,beq_self_eq_true];rw [List.all_eq_true];intro x hx
 have:=BS (B:=mo + 1) (by omega) n.ends.length k x hx
 exact aM.2 (by omega)
def iL (n : am) (s : Int) (B : Nat) : Nat → Nat
 | 0 => 0
 | k + 1 => iL n s B k + if (iT n s (dp B n.ends.length k)).length = 0 then 1 else 0
theorem Ig (n : am) (s : Int) (B k : Nat) : iL n s B k ≤ k:=by
 induction k with
 | zero => exact Nat.le_refl _
 | succ k ih => unfold iL;split <;> omega
def ax (n : am) (s most : Int) : Bool:=D6 n s most && (dy most n.ends.length).isSome
def aE (n : am) (s most : Int) : Int:=if ax n s most then (iL n s (most.toNat + 1) (nM most n.ends.length).toNat : Int) else 0
theorem QO {n : am} {s most : Int} (h : ax n s most = true) : an n = true ∧ ee 1 5 s = true ∧ ∃ mo c : Nat,most = mo ∧ mo < 20000 ∧ dy most n.ends.length = some (c : Int) ∧ 1 ≤ c ∧ c ≤ 20000 ∧ nM most n.ends.length = c:=by
 unfold ax D6 at h
 simp only [Bool.and_eq_true] at h;obtain ⟨⟨⟨h1,h2⟩,h3⟩,h4⟩:=h;have hm:=aM.1 h3;obtain ⟨mo,rfl⟩:=Int.eq_ofNat_of_zero_le hm.1;obtain ⟨c,hc⟩:=Option.isSome_iff_exists.1 h4;have hb:=jI (by omega) _ hc;obtain ⟨cn,rfl⟩:=Int.eq_ofNat_of_zero_le (show 0 ≤ c by omega)
 have:=(aN h1).1
 exact ⟨h1,h2,mo,cn,rfl,by have:=hb.2.2 (by omega);omega,hc,by omega,by omega,by simp [nM,hc]⟩
theorem KA {a b : Int} {c d : Bool} (h1 : a = b) (h2 : c = d) : Ending.returned (.tuple #[.int .i64 a,.bool c]) = .returned (.tuple #[.int .i64 b,.bool d]):=by rw [h1,h2]
theorem I1.only {W W' : World} {b : Nat} {x : Int} {S : List Nat} (h : I1 W b x) (ho : aU S W W') (hb : b ∉ S) : I1 W' b x:=(ho.block b h.lt hb).trans h
theorem NA (b : Bool) (d : Int) (hd : d = if b = true then 1 else 0) (w : World) : Calls Tryz.prog 90 #[.bool b] w fun e w' => e = .returned (.int .i64 d) ∧ w = w':=by rw [hd];exact oa b w
theorem D7 (ve vi vn vl : Value) (n : am) (s : Int) (ls : List Int) (q : Int) (bc bn bs : Nat) (w : World) (h : aT w ve vi vn n) (hl : bD w vl ls) (gD : eL n s ls = true) (hc : I1 w bc q) (na : 0 ≤ q) (o_ : q ≤ 20000) (d : Int) (hd : d = if (iT n s ls).length = 0 then 1 else 0)
  (c0 : w.cell? ⟨bn,0,none⟩ = some ve) (c1 : w.cell? ⟨bn,1,none⟩ = some vi) (c2 : w.cell? ⟨bn,2,none⟩ = some vn) (c3 : w.cell? ⟨bs,0,none⟩ = some (.int .i64 s)) :
  Calls Tryz.prog 89 #[vl,.pointer (some ⟨bc,0,none⟩),.pointer (some ⟨bn,0,none⟩),.pointer (some ⟨bs,0,none⟩)] w fun e w' => ∃ u,e = .returned u ∧ I1 w' bc (q + d) ∧ aU [bc] w w':=by
 have H:=zh h;have HL:=zh hl;have zl:=zh gD;have HC:=zh hc;obtain ⟨AL,cL,rfl,sA,mn,_⟩:=hl;obtain ⟨⟨A,c,rfl,ft,hm,_⟩,⟨A2,oK,rfl,_,ly,_⟩,⟨A3,pc,rfl,_,rF,_⟩⟩:=h;have p0:=ae c0;have p1:=ae c1;have p2:=ae c2;have p3:=ae c3;have p4:=ae hc.cells.1;clear gD hc c0 c1 c2 c3;obtain ⟨bz,Tf⟩ : ∃ b : Bool,(((iT n s ls).length : Int) == 0) = b:=⟨_,rfl⟩
 have Hbz:=zh Tf
 have iz : d = if bz = true then 1 else 0:=by
  rw [hd,← Tf]
  by_cases hz : (iT n s ls).length = 0 <;> simp [hz]
 have yQ : 0 ≤ d ∧ d ≤ 1:=by rw [hd];split <;> omega
 have Hd2:=zh iz;have m1 : IntKind.i64.wrap (q + d) = q + d:=aL _ (by omega) (by omega);clear hd iz yQ
 go_enter Tryz.func89,Tryz.ntmps89
 go_upto_region 0 with (fail);refine cm (w0:=w) 9 [false,false,false,false,true,true,true,true,true] (by kernel_rfl) (by kernel_rfl) (ad _) ?_;simp only [d_,dO,zT]
 iterate 4 (apply bB rfl;(intro W hW;go_simp;with_reducible rfl);simp only [zA])
 intro W hW;refine Or.inl ⟨rfl,?_⟩
 go_simp
 (with_reducible refine (jt _ _ _ _ n s ls W (H.out.keep hW.below) (HL.out.keep hW.below) zl.out).mono ?_)
 rintro e W' ⟨u,rfl,ho,hb⟩;refine ⟨_,rfl,hW.trans hb,?_⟩
 replace hW:=hW.trans hb
 obtain ⟨Bv,dv,rfl,_⟩:=id ho.ints;clear ho hb
 (try simp only [zA])
 refine dA (v:=?_) rfl ?_ hW ?_;rotate_left;(go_simp;with_reducible rfl)
 simp only [zA]
 refine dA (v:=?_) rfl ?_ hW ?_;rotate_left;(go_simp;with_reducible rfl)
 simp only [zA];refine Or.inl ⟨rfl,?_⟩
 go_simp
 (with_reducible refine (NA bz d Hd2.out _).mono ?_)
 rintro e W' ⟨rfl,hw⟩;refine ⟨_,rfl,hw ▸ hW,?_⟩
 replace hW:=hw ▸ hW
 clear hw
 (try simp only [zA])
 refine dA (v:=?_) rfl ?_ hW ?_;rotate_left;(go_simp;with_reducible rfl)
 simp only [zA];simp only [bA];have HW:=zh hW;have cz:=(HC.out.since hW).cells.1;have fz:=(HC.out.since hW).cells.2;clear p0 p1 p2 p3 p4 Tf hW;go_wp2
 first | go_end0 | refine bodyPost_ret (results_none rfl _ _ _) rfl ?_
 exact ⟨⟨_,rfl⟩,(HC.out.since HW.out).set (q + d),(aU.of_below HW.out.below).setCell (.inl (by simp)) _⟩
theorem xm : ∀ args w,(callFunc 89 args).run Tryz.prog w = .ok (.enter 89 args) w:=enters_of Tryz.func89 (by kernel_rfl) rfl
theorem qW (n : am) (s most : Int) : ax n s most = (an n && ee 1 5 s && !decide (most < 0) && (dy most n.ends.length).isSome):=by
 unfold ax D6
 cases h1 : an n
 ·simp
 ·by_cases h0 : most < 0
  ·have e1 : ee 0 999999999999 most = false:=MK.2 (by omega);have e2 : decide (most < 0) = true:=by simpa using h0
   rw [e1,e2];simp
  ·have e2 : decide (most < 0) = false:=by simpa using h0
   rw [e2]
   cases h2 : dy most n.ends.length with
   | none => simp
   | some c =>
    have:=(jI (by omega) _ h2).2.2 (by have:=(aN h1).1;omega)
    have e1 : ee 0 999999999999 most = true:=aM.2 (by omega);rw [e1];simp
theorem kX (ve vi vn : Value) (n : am) (s most : Int) (w : World) (h : aT w ve vi vn n) (_ : -9223372036854775808 ≤ s ∧ s ≤ 9223372036854775807) (hmb : -9223372036854775808 ≤ most ∧ most ≤ 9223372036854775807) (ed : f_ n ≤ 1048576) :
  Calls Tryz.prog 26 #[.agg #[ve,vi,vn],.int .i64 s,.int .i64 most] w fun e w' => e = .returned (.tuple #[.int .i64 (aE n s most),.bool (ax n s most)]) ∧ Below w.heap.size w w':=by
 obtain ⟨w0,ck⟩ : ∃ w0,w0 = ((w).alloc (.cells #[ve,vi,vn] 27)).alloc (.cells #[.int .i64 s] 3):=⟨_,rfl⟩
 have jL : Below w.heap.size w w0:=by rw [ck];exact (((Below.refl _ _).alloc (by simp <;> omega) _).alloc (by simp <;> omega) _)
 have H:=zh (h.keep jL);obtain ⟨h1,h2,h3⟩:=h.keep jL;obtain ⟨A,c,rfl,ft,hm,hA⟩:=h1;obtain ⟨A2,c2,rfl,_,f6,_⟩:=h2;obtain ⟨A3,c3,rfl,_,gF,_⟩:=h3;unfold maxLen at hm f6 gF
 have eG : ∀ W,aa w0 W → W.cell? ⟨w.heap.size,0,none⟩ = some (.slice A n.ends.length c):=ae (by rw [ck];simp)
 have eX : ∀ W,aa w0 W → W.cell? ⟨w.heap.size,1,none⟩ = some (.slice A2 n.ids.length c2):=ae (by rw [ck];simp)
 have fb : ∀ W,aa w0 W → W.cell? ⟨w.heap.size,2,none⟩ = some (.slice A3 n.inputs.length c3):=ae (by rw [ck];simp)
 have O8 : ∀ W,aa w0 W → W.cell? ⟨w.heap.size + 1,0,none⟩ = some (.int .i64 s):=ae (by rw [ck];simp)
 have bv:=zh jL;have dh:=zh ck;have HA:=zh hA;clear hA h;clear jL ck
 go_enter Tryz.func26,Tryz.ntmps26
 go_upto_region 1 with (fail);rw [← dh.out];refine aB 12 (aa w0) (ad _) ?_;simp only [zT]
 apply ag rfl;(intro W hW;go_simp;with_reducible rfl);simp only [zA]
 refine dn ?_ rfl ?_ ?_;rotate_left;(intro W hW;unfold bG;go_simp;(with_reducible refine (dF _ _ _ n W (H.out.keep hW.below) (kn ed)).mono ?_);rintro e W' ⟨rfl,bg⟩;first | (refine ⟨?_,aa.trans hW bg⟩;with_reducible rfl) | (subst bg;refine ⟨?_,hW⟩;with_reducible rfl))
 simp only [zA]
 iterate 2 (apply ag rfl;(intro W hW;go_simp;with_reducible rfl);simp only [zA])
 apply aj rfl rfl;(intro hb;intro W hW;go_simp;with_reducible rfl);simp only [zA]
 refine bC (v:=?_) rfl rfl ?_ ?_;rotate_left;(intro hb;intro W hW;unfold bG;go_simp;(with_reducible refine (kt _ W).mono ?_);rintro e W' ⟨rfl,bg⟩;first | (refine ⟨?_,aa.trans hW bg⟩;with_reducible rfl) | (subst bg;refine ⟨?_,hW⟩;with_reducible rfl))
 simp only [zA]
 apply aj rfl rfl;(intro hb;intro W hW;go_simp;with_reducible rfl);simp only [zA]
 (first | refine bu rfl rfl ?_ | (apply ag rfl;(intro W hW;go_simp;with_reducible rfl)));simp only [zA]
 apply ag rfl;(intro W hW;go_simp;with_reducible rfl);simp only [zA]
 iterate 2 (apply aj rfl rfl;(intro hb;intro W hW;go_simp;with_reducible rfl);simp only [zA])
 (first | refine bu rfl rfl ?_ | (apply ag rfl;(intro W hW;go_simp;with_reducible rfl)));simp only [zA]
 intro W hW
 cases hg : (!an n || !ee 1 5 s || decide (most < 0))
 ·simp only [Bool.or_eq_false_iff,Bool.not_eq_false'] at hg;have lh : 1 ≤ n.ends.length ∧ n.ends.length ≤ 40:=aN hg.1.1
  have kW : 0 ≤ most:=by have:=hg.2;simp at this;exact this
  have e1 : ax n s most = (dy most n.ends.length).isSome:=by rw [qW,hg.1.1,hg.1.2,hg.2];simp
  have Hg:=zh hg;have E1:=zh e1;obtain ⟨mo,rfl⟩:=Int.eq_ofNat_of_zero_le kW;have k9:=hmb.2;obtain ⟨bc,X9⟩ : ∃ bc,bc = W.heap.size:=⟨_,rfl⟩
  obtain ⟨w2,dK⟩ : ∃ w2,w2 = W.alloc (.cells #[.int .i64 0] 3):=⟨_,rfl⟩
  have Hi : Hid (I1 w2 bc 0):=by rw [dK,X9];exact I1.new W 0
  have tQ : w0.heap.size ≤ bc:=by rw [X9];exact (aa.below hW).size
  have dE : aa w0 w2:=by rw [dK];exact ah _ hW
  have hlt : bc < w2.heap.size:=Hi.out.lt;have cw:=zh dE;have xN:=zh tQ;have QP:=lh.1;have j7:=zh dK;have Hbc:=zh X9;clear hg e1 kW hmb lh tQ dK X9;go_upto_region 4 with (fail);rw [← Hbc.out,← j7.out];clear hW;go_wp2_with fail
  refine (lY _ _ _ n mo 89 #[.pointer (some ⟨bc,0,none⟩),.pointer (some ⟨w.heap.size,0,none⟩),.pointer (some ⟨w.heap.size + 1,0,none⟩)] w2 (fun g k X => aa w0 X ∧ I1 X bc (iL n s (mo + 1) k)) (H.out.keep cw.out.below) QP (aN Hg.out.1.1).2 (by omega) k9 xm
   (fun g X hg hb => ⟨cw.out.trans hb,Hi.out.since hb⟩)
   (fun g k X X' hg hJ ho => ⟨aU.since hJ.1 ho (fun j hj => by simp at hj;subst hj;have:=cw.out.below.size;omega),hJ.2.only ho (by simp;omega)⟩)
   (fun c hc g k X vl hk hg hJ ho Kh => ?_)).mono ?_
  ·have hb:=jI (by omega) _ hc
   have tg : mo < 20000:=by have:=hb.2.2 (by omega);omega
   have hs:=hJ.1;have kh:=Ig n s (mo + 1) k;rw [Int.toNat_natCast] at ho;refine (D7 _ _ _ _ n s (dp (mo + 1) n.ends.length k) (iL n s (mo + 1) k) bc w.heap.size (w.heap.size + 1) X (H.out.keep hs.below) ho.ints (si Hg.out.1.1 Hg.out.1.2 tg k) hJ.2 (by omega) (by omega) _ rfl (eG X hs) (eX X hs) (fb X hs) (O8 X hs)).mono ?_;rintro e X' ⟨u,rfl,hi,fm⟩
   refine ⟨u,rfl,⟨aU.since hs fm (fun j hj => by simp at hj;subst hj;exact xN.out),?_⟩,[bc],fm,fun j hj => by simp at hj;subst hj;exact hlt⟩
   have e : iL n s (mo + 1) (k + 1) = iL n s (mo + 1) k + if (iT n s (dp (mo + 1) n.ends.length k)).length = 0 then 1 else 0:=rfl;rw [e]
   split at hi <;> rename_i hz
   ·rw [if_pos hz];simpa using hi
   ·rw [if_neg hz];simpa using hi
  ·rintro e W3 ⟨rfl,vg,vh⟩
   cases hL : dy (mo : Int) n.ends.length with
   | none =>
    have Hr:=zh (show ax n s mo = false by rw [E1.out,hL];rfl)
    have Hd:=zh (show aE n s mo = 0 by unfold aE;rw [if_neg (by rw [Hr.out];simp)])
    have Hb:=zh (vh hL);clear vg vh hL;go_wp2
    go_ret2
    exact ⟨KA Hd.out.symm Hr.out.symm,aa.after bv.out (cw.out.trans Hb.out)⟩
   | some c =>
    obtain ⟨g,-,iB,Mk⟩:=vg c hL;have hb:=jI (by omega) _ hL;obtain ⟨cn,rfl⟩:=Int.eq_ofNat_of_zero_le (show 0 ≤ c by omega)
    have Hr:=zh (show ax n s mo = true by rw [E1.out,hL];rfl)
    have Hd:=zh (show aE n s mo = (iL n s (mo + 1) cn : Int) by unfold aE;rw [if_pos Hr.out];simp [nM,hL])
    have eY:=zh iB;have cz:=Mk.cells.1;rw [Int.toNat_natCast] at cz;clear vg vh hL Mk iB;go_wp2
    go_ret2
    exact ⟨KA Hd.out.symm Hr.out.symm,aa.after bv.out eY.out⟩
 ·have hr : ax n s most = false:=by
   rw [qW]
   revert hg
   cases an n <;> cases ee 1 5 s <;> cases decide (most < 0) <;> simp
  have Hr:=zh hr
  have Hd:=zh (show aE n s most = 0 by unfold aE;rw [if_neg (by rw [hr];simp)])
  have HW:=zh hW;clear hg hr hW;go_wp2
  go_ret2
  exact ⟨KA Hd.out.symm Hr.out.symm,aa.after bv.out HW.out⟩
end Go.Proofs.YtgmdpppljkmabaaGreat
