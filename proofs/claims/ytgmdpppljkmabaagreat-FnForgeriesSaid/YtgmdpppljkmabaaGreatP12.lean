/- Parts of the proof: walks of functions and plain laws. -/
import Derived.Test.YtgmdpppljkmabaaGreatP0
import Derived.Test.YtgmdpppljkmabaaGreatP11
import Derived.Test.YtgmdpppljkmabaaGreatP7
import Derived.Test.YtgmdpppljkmabaaGreatP5
import Derived.Test.YtgmdpppljkmabaaGreatP2
import Derived.Test.YtgmdpppljkmabaaGreatP6
import Derived.WalkSpells
import Derived.Test.YtgmdpppljkmabaaGreatP1
import Derived.Test.YtgmdpppljkmabaaGreatP3
import Derived.Test.YtgmdpppljkmabaaGreatP10
set_option maxRecDepth 100000
set_option maxHeartbeats 16000000
namespace Go.Proofs.YtgmdpppljkmabaaGreat
open Go Go.RowKit
def aK (n : am) (r v : Nat) : Int:=(dM n r).getD v 0
def ke (n : am) (r v : Nat) : Int:=match (n.ends.getD v []).findIdx? (fun e => decide (0 < aK n r v) && decide (aK n r e.1.toNat = aK n r v - 1)) with | some k => (k : Int) | none => -1
def BC (n : am) (r : Nat) : List Int:=(List.range n.ends.length).map (ke n r)
def jH (n : am) (v : Nat) : Int:=ke n (al n v) v
def eE (n : am) (v : Nat) (q : Int) : Nat:=((n.ends.getD v []).getD q.toNat (0,0)).1.toNat
def dZ (n : am) (v : Nat) : Int:=aK n (al n v) v
def kF (n : am) (v : Nat) : Option Nat:=if 0 ≤ jH n v then some (eE n v (jH n v)) else none
theorem mA (n : am) (r v : Nat) : (ke n r v = -1 ∧ ∀ e ∈ n.ends.getD v [],¬ (0 < aK n r v ∧ aK n r e.1.toNat = aK n r v - 1)) ∨ (∃ k : Nat,ke n r v = (k : Int) ∧ k < (n.ends.getD v []).length ∧ 0 < aK n r v ∧ aK n r (eE n v k) = aK n r v - 1 ∧ ((n.ends.getD v []).getD k (0,0)) ∈ n.ends.getD v []):=by
 unfold ke
 cases h : (n.ends.getD v []).findIdx? (fun e => decide (0 < aK n r v) && decide (aK n r e.1.toNat = aK n r v - 1)) with
 | none =>
  left
  rw [List.findIdx?_eq_none_iff] at h;refine ⟨rfl,fun e he hc => ?_⟩
  have:=h e he
  rw [decide_eq_true hc.1,decide_eq_true hc.2] at this;cases this
 | some k =>
  right
  rw [List.findIdx?_eq_some_iff_getElem] at h;obtain ⟨hk,h1,-⟩:=h;rw [Bool.and_eq_true] at h1
  have e : (n.ends.getD v []).getD k (0,0) = (n.ends.getD v [])[k]:=by rw [zDd,List.getElem?_eq_getElem hk];rfl
  refine ⟨k,rfl,hk,of_decide_eq_true h1.1,?_,?_⟩
  ·unfold eE;rw [Int.toNat_natCast,e];exact of_decide_eq_true h1.2
  ·rw [e];exact List.getElem_mem hk
theorem et {n : am} (hn : an n = true) {v : Nat} {e : Int × Int} (he : e ∈ n.ends.getD v []) : v < n.ends.length ∧ 0 ≤ e.1 ∧ e.1 < n.ends.length:=by
 rcases Nat.lt_or_ge v n.ends.length with h | h
 ·have h1 : n.ends[v]? = some (n.ends.getD v []):=by rw [zDd,List.getElem?_eq_getElem h];rfl
  exact ⟨h,(df hn h1).2 e he⟩
 ·rw [zDd,List.getElem?_eq_none h] at he;simp at he
theorem kG {n : am} {v : Nat} {e : Int × Int} (he : e ∈ n.ends.getD v []) (h0 : 0 ≤ e.1) : ((e.1.toNat : Nat) : Int) ∈ eJ n (v : Int):=by
 unfold eJ;rw [Int.toNat_natCast,Int.toNat_of_nonneg h0];exact List.mem_map.2 ⟨e,he,rfl⟩
theorem rJ {n : am} (hn : an n = true) {r v : Nat} (hr : r < n.ends.length) (hv : v < n.ends.length) : 0 ≤ aK n r v ↔ fH n r v:=iG hn hr hv
theorem im {n : am} (hn : an n = true) {r v : Nat} (_ : r < n.ends.length) (h0 : 0 ≤ ke n r v) : v < n.ends.length ∧ eE n v (ke n r v) < n.ends.length ∧ 0 < aK n r v ∧ aK n r (eE n v (ke n r v)) = aK n r v - 1 ∧ fH n v (eE n v (ke n r v)) ∧ (ke n r v).toNat < (n.ends.getD v []).length:=by
 rcases mA n r v with ⟨h1,-⟩ | ⟨k,h1,h2,h3,h4,h5⟩
 ·omega
 ·rw [h1];obtain ⟨a,b,c⟩:=et hn h5;refine ⟨a,?_,h3,h4,?_,by simpa using h2⟩
  ·unfold eE;rw [Int.toNat_natCast];omega
  ·refine fH.refl.step ?_
   have:=kG h5 b
   unfold eE;rw [Int.toNat_natCast];exact this
theorem Mt {n : am} (hn : an n = true) : Tr n.ends.length (dZ n) (kF n):=by
 refine ⟨fun v p hv hp => ?_,fun v hv => ?_⟩
 ·unfold kF jH at hp
  have hr:=(bK hn hv).2.1
  by_cases h : 0 ≤ ke n (al n v) v
  ·rw [if_pos h] at hp;cases hp;obtain ⟨h1,h2,h3,h4,h5,-⟩:=im hn hr h;refine ⟨h2,?_⟩;unfold dZ;rw [← fK hn hv h5,h4];omega
  ·rw [if_neg h] at hp;cases hp
 ·exact (rJ hn (bK hn hv).2.1 hv).2 ((bK hn hv).1.symm hn hv)
theorem yo {n : am} (hn : an n = true) : ∀ (f w v : Nat),w < n.ends.length → (dZ n w).toNat ≤ f → rI (dZ n) (kF n) w v = true → al n w = al n v
 | f,w,v,hw,hf,ha => by
  have hT:=Mt hn;rw [jV hT hw,Bool.or_eq_true] at ha;rcases ha with ha | ha
  ·rw [eq_of_beq ha]
  ·cases hp : kF n w with
   | none => rw [hp] at ha;simp at ha
   | some y =>
    rw [hp] at ha;obtain ⟨h1,h2⟩:=hT.some_ w y hw hp;have h3:=hT.pos y h1
    have hy : al n w = al n y:=by
     unfold kF jH at hp
     by_cases h : 0 ≤ ke n (al n w) w
     ·rw [if_pos h] at hp;cases hp;obtain ⟨-,-,-,-,h5,-⟩:=im hn (bK hn hw).2.1 h;exact fK hn hw h5
     ·rw [if_neg h] at hp;cases hp
    cases f with
    | zero => omega
    | succ f => rw [hy];exact yo hn f y v h1 (by omega) ha
theorem qQ {n : am} (hn : an n = true) {v : Nat} (hv : v < n.ends.length) : jH n v < 0 ↔ v = al n v:=by
 have hs:=bK hn hv;have FN : fH n (al n v) v:=hs.1.symm hn hv;unfold jH;have hd:=ox hn hs.2.1;constructor
 ·intro h;rcases mA n (al n v) v with ⟨h1,h2⟩ | ⟨k,h1,-⟩
  ·refine Decidable.byContradiction fun fS => ?_
   obtain ⟨y,O3,O4,hy3⟩:=hd.par v FN fS;have IT:=lv hn hs.2.1 O3;have h4:=sT hn IT O4;obtain ⟨j,q,h5⟩:=mp.1 h4;have yW:=hd.pos y O3;refine h2 _ (List.mem_of_getElem? h5) ⟨?_,?_⟩
   ·unfold aK;omega
   ·show aK n (al n v) ((y : Int)).toNat = _
    rw [Int.toNat_natCast]
    unfold aK;omega
  ·omega
 ·intro h;rcases mA n (al n v) v with ⟨h1,-⟩ | ⟨k,h1,h2,h3,-⟩
  ·omega
  ·exfalso
   have h4:=hd.zero;rw [← h] at h3 h4;unfold aK at h3;omega
def io (n : am) (v : Nat) : Int:=((n.ids.getD (al n v) 0 * 100 + dZ n v) * 10 + (if jH n v < 0 then 9 else jH n v)) * 2 + ((lA n.ends.length (dZ n) (kF n) v % 2 : Nat) : Int)
def nG (n : am) (v : Nat) : Int:=n.ids.getD (iK n v).toNat 0 * 100 + aK n (iK n v).toNat v
def sI (n : am) (s : Int) : List Int:=
 if s = 1 then (if pH n = true then pG n else [])
 else if s = 2 then (match ii n with | some (some l) => l | _ => [])
 else if s = 3 then (List.range n.ends.length).map (dZ n)
 else if s = 4 then (List.range n.ends.length).map (nG n)
 else (List.range n.ends.length).map (io n)
theorem BE {N : Nat} {dep : Nat → Int} {par : Nat → Option Nat} (h : Tr N dep par) {l : List Nat} (hp : l.Perm (List.range N)) (hs : l.Pairwise (fun a b => dep b ≤ dep a)) {k : Nat} (hk : k < l.length) :
  (∀ c,c < N → par c = some l[k] → c ∈ l.take k) ∧ (∀ c ∈ l.take k,c < N) ∧ l[k] ∉ l.take k ∧ l[k] < N:=by
 have hm : ∀ c,c ∈ l ↔ c < N:=fun c => by rw [hp.mem_iff,List.mem_range]
 have hnd : l.Nodup:=hp.nodup_iff.2 List.nodup_range;refine ⟨fun c hc DT => ?_,fun c hc => (hm c).1 (List.mem_of_mem_take hc),fun hc => ?_,(hm _).1 (List.getElem_mem hk)⟩
 ·obtain ⟨j,hj,UB⟩:=List.mem_iff_getElem.1 ((hm c).2 hc);obtain ⟨-,hd⟩:=h.some_ c _ hc DT;rcases Nat.lt_or_ge j k with h1 | h1
  ·rw [← UB];exact List.mem_take_iff_getElem.2 ⟨j,by omega,rfl⟩
  ·exfalso
   rcases Nat.lt_or_eq_of_le h1 with h2 | h2
   ·have:=List.pairwise_iff_getElem.1 hs k j hk hj h2
    rw [UB] at this;omega
   ·subst h2;rw [UB] at hd;omega
 ·obtain ⟨j,hj,UB⟩:=List.mem_take_iff_getElem.1 hc;exact List.pairwise_iff_getElem.1 hnd j k (by omega) hk (by omega) UB
def FO (n : am) (v i : Nat) : Int × Int:=(n.ends.getD v []).getD i (0,0)
theorem uL {n : am} {v i : Nat} {f : Int × Int} : bU n v i f ↔ i < (n.ends.getD v []).length ∧ FO n v i = f:=by
 unfold bU FO
 rw [List.getElem?_eq_some_iff];constructor
 ·rintro ⟨h,rfl⟩;exact ⟨h,aH (List.getElem?_eq_getElem h)⟩
 ·rintro ⟨h,rfl⟩;exact ⟨h,(aH (List.getElem?_eq_getElem h)).symm⟩
def Kg (n : am) : Bool:=(List.range n.ends.length).any fun v => (List.range (n.ends.getD v []).length).any fun i => decide (FO n v i = ((v : Int),(i : Int)))
theorem Nl {n : am} (hn : an n = true) : yl n = Kg n:=by
 rw [Bool.eq_iff_iff]
 unfold yl Kg
 simp only [List.any_eq_true,List.mem_range,decide_eq_true_eq,Bool.and_eq_true];constructor
 ·rintro ⟨e,he,h1,h2⟩;obtain ⟨v,i,f,hv,hp,hk,rfl⟩:=bZ.1 he;obtain ⟨h3,h4⟩:=uL.1 hp;refine ⟨v,hv,i,h3,?_⟩;rw [h4];exact Prod.ext h1.symm h2.symm
 ·rintro ⟨v,hv,i,hi,h⟩;refine ⟨_,bZ.2 ⟨v,i,_,hv,uL.2 ⟨hi,h⟩,?_,rfl⟩,rfl,rfl⟩;unfold iV;simp
def SY (n : am) (l : List Int) : Prop:=∀ v,v < n.ends.length → (0 ≤ l.getD v 0 ∧ l.getD v 0 ≤ 2) ∧ ∀ e ∈ n.ends.getD v [],l.getD e.1.toNat 0 ≠ l.getD v 0
def gT (N : Nat) (l t : List Int) (v : Nat) : Prop:=(∃ i,i ≤ v ∧ i < N ∧ (∀ j,j < i → t.getD j 0 = l.getD j 0) ∧ l.getD i 0 < t.getD i 0) ∨ (N ≤ v ∧ ∀ j,j < N → t.getD j 0 = l.getD j 0)
theorem gT.start {N : Nat} {t : List Int} (h0 : 0 < N) (h : 0 ≤ t.getD 0 0) : gT N (List.replicate N (-1)) t 0:=by
 refine .inl ⟨0,Nat.le_refl _,h0,fun j hj => by omega,?_⟩
 simp [zDd,List.getElem?_replicate,h0]
 rw [zDd] at h;omega
theorem getD_set_ne {l : List Int} {v j : Nat} {x : Int} (h : j ≠ v) : (l.set v x).getD j 0 = l.getD j 0:=by
 rw [zDd,List.getElem?_set_ne (Ne.symm h),← zDd]
theorem se {l : List Int} {v : Nat} {x : Int} (h : v < l.length) : (l.set v x).getD v 0 = x:=by
 rw [zDd,List.getElem?_set_self h];rfl
theorem gT.back {N : Nat} {l t : List Int} {v : Nat} (h : gT N l t v) (hv : v < N) (hm : t.getD v 0 ≤ l.getD v 0) : v ≠ 0 ∧ gT N (l.set v (-1)) t (v - 1):=by
 rcases h with ⟨i,h1,h2,h3,h4⟩ | ⟨h1,-⟩
 ·have fS : i ≠ v:=fun e => by subst e;omega
  refine ⟨by omega,.inl ⟨i,by omega,h2,fun j hj => ?_,?_⟩⟩
  ·rw [getD_set_ne (by omega)];exact h3 j hj
  ·rw [getD_set_ne fS];exact h4
 ·omega
theorem gT.go {N : Nat} {l t : List Int} {v : Nat} (h : gT N l t v) (hv : v < N) (hl : l.length = N) : gT N (l.set v (l.getD v 0 + 1)) t v ∨ (∀ j,j ≤ v → t.getD j 0 = (l.set v (l.getD v 0 + 1)).getD j 0):=by
 rcases h with ⟨i,h1,h2,h3,h4⟩ | ⟨h1,-⟩
 ·by_cases e : i = v
  ·subst e
   by_cases e2 : t.getD i 0 = l.getD i 0 + 1
   ·right
    intro j hj;rcases Nat.lt_or_eq_of_le hj with hj | hj
    ·rw [getD_set_ne (by omega)];exact h3 j hj
    ·subst hj;rw [se (by omega)];exact e2
   ·left
    refine .inl ⟨i,Nat.le_refl _,h2,fun j hj => ?_,?_⟩
    ·rw [getD_set_ne (by omega)];exact h3 j hj
    ·rw [se (by omega)];omega
  ·left
   refine .inl ⟨i,h1,h2,fun j hj => ?_,?_⟩
   ·rw [getD_set_ne (by omega)];exact h3 j hj
   ·rw [getD_set_ne e];exact h4
 ·omega
theorem gT.up {N : Nat} {l t : List Int} {v : Nat} (h : gT N l t v) (hv : v < N) : gT N l t (v + 1):=by
 rcases h with ⟨i,h1,h2,h3,h4⟩ | ⟨h1,h2⟩
 ·exact .inl ⟨i,by omega,h2,h3,h4⟩
 ·omega
theorem gT.same {N : Nat} {l t : List Int} {v : Nat} (h : ∀ j,j ≤ v → t.getD j 0 = l.getD j 0) (hl : v + 1 < N → l.getD (v + 1) 0 < t.getD (v + 1) 0) : gT N l t (v + 1):=by
 by_cases e : v + 1 < N
 ·exact .inl ⟨v + 1,Nat.le_refl _,e,fun j hj => h j (by omega),hl e⟩
 ·exact .inr ⟨by omega,fun j hj => h j (by omega)⟩
structure pO (n : am) (l : List Int) (v : Nat) : Prop where
 st : St n.ends.length 2 l v
 good : ∀ a,a < v → a < n.ends.length → ∀ e ∈ n.ends.getD a [],e.1.toNat < v → l.getD e.1.toNat 0 ≠ l.getD a 0
theorem nH {l : List Int} {es : List (Int × Int)} {x : Int} : x ∈ aw l es ↔ ∃ e ∈ es,l.getD e.1.toNat 0 = x:=by
 unfold aw;rw [List.mem_map]
theorem uM {n : am} {l : List Int} {v : Nat} : gK n l v = true ↔ ∀ e ∈ n.ends.getD v [],l.getD e.1.toNat 0 ≠ l.getD v 0:=by
 unfold gK;rw [Bool.not_eq_true',List.contains_eq_mem,decide_eq_false_iff_not,nH];constructor
 ·intro h e he hc;exact h ⟨e,he,hc⟩
 ·rintro h ⟨e,he,hc⟩;exact h e he hc
theorem lV {n : am} (hn : an n = true) {a : Nat} {e : Int × Int} (he : e ∈ n.ends.getD a []) : ∃ f ∈ n.ends.getD e.1.toNat [],f.1.toNat = a ∧ e.1.toNat < n.ends.length ∧ a < n.ends.length:=by
 obtain ⟨i,hi⟩:=List.getElem?_of_mem he;have h:=dD hn (v:=a) (i:=i) (f:=e) hi;refine ⟨_,List.mem_of_getElem? h.2.2.2.2,by simp,by omega,h.1⟩
theorem pO.back {n : am} {l : List Int} {v : Nat} (h : pO n l v) (h0 : v ≠ 0) : pO n (l.set v (-1)) (v - 1):=by
 refine ⟨h.st.back h0,fun a ha s_ e he Nn => ?_⟩
 rw [getD_set_ne (by omega),getD_set_ne (by omega)];exact h.good a (by omega) s_ e he (by omega)
theorem pO.stay {n : am} {l : List Int} {v : Nat} (h : pO n l v) (hv : v < n.ends.length) (hm : l.getD v 0 ≠ 2) : pO n (l.set v (l.getD v 0 + 1)) v:=by
 refine ⟨(h.st.up hv hm).stay,fun a ha s_ e he Nn => ?_⟩
 rw [getD_set_ne (by omega),getD_set_ne (by omega)];exact h.good a ha s_ e he Nn
theorem pO.on {n : am} (hn : an n = true) {l : List Int} {v : Nat} (h : pO n l v) (hv : v < n.ends.length) (hm : l.getD v 0 ≠ 2) (hg : gK n (l.set v (l.getD v 0 + 1)) v = true) : pO n (l.set v (l.getD v 0 + 1)) (v + 1):=by
 refine ⟨(h.st.up hv hm).on (by omega),fun a ha s_ e he Nn => ?_⟩
 have hg:=uM.1 hg
 by_cases e1 : a = v
 ·subst e1;exact hg e he
 ·by_cases e2 : e.1.toNat = v
  ·obtain ⟨f,hf,h1,-,-⟩:=lV hn he
   have:=hg f (by rw [← e2];exact hf)
   rw [h1] at this;rw [e2];exact Ne.symm this
  ·rw [getD_set_ne e2,getD_set_ne e1];exact h.good a (by omega) s_ e he (by omega)
theorem qR {n : am} (hn : an n = true) (t : List Int) (ht : SY n t) : ∀ (f : Nat) (l : List Int) (v s : Nat),pO n l v → v ≤ n.ends.length → gT n.ends.length l t v → fM n f l v s ≠ some none
 | 0,l,v,s,_,_,_ => by simp [fM]
 | f + 1,l,v,s,h,hv,hL => by
  have hlen:=h.st.len;unfold fM
  by_cases h1 : (l.length : Int) ≤ (v : Int)
  ·rw [if_pos h1];simp
  ·rw [if_neg h1,if_neg (by omega)];rw [Int.toNat_natCast];have iY : v < n.ends.length:=by omega
   by_cases h2 : l.getD v 0 = 2
   ·rw [if_pos h2]
    obtain ⟨h0,ZN⟩:=hL.back iY (by rw [h2];exact (ht v iY).1.2)
    rw [show (v : Int) - 1 = ((v - 1 : Nat) : Int) by omega]
    exact qR hn t ht f _ _ s (h.back h0) (by omega) ZN
   ·rw [if_neg h2]
    by_cases h3 : s = 200000
    ·rw [if_pos h3];simp
    ·rw [if_neg h3];cases hg : gK n (l.set v (l.getD v 0 + 1)) v
     ·rw [if_neg (by simp)];refine qR hn t ht f _ _ _ (h.stay iY h2) hv ?_;rcases hL.go iY hlen with h4 | h4
      ·exact h4
      ·exfalso
       rw [Bool.eq_false_iff] at hg;refine hg (uM.2 fun e he hc => ?_)
       have hti:=(ht v iY).2 e he;obtain ⟨-,-,-,GK,-⟩:=lV hn he;have mB:=h.st.up iY h2;rcases Nat.lt_or_ge v e.1.toNat with h5 | h5
       ·have h6:=mB.hi _ h5 GK;have h7:=(mB.lo v (Nat.le_refl _) iY).1;omega
       ·rw [← h4 _ h5,← h4 _ (Nat.le_refl _)] at hc;exact hti hc
     ·rw [if_pos rfl];rw [show (v : Int) + 1 = ((v + 1 : Nat) : Int) by omega]
      refine qR hn t ht f _ _ _ (h.on hn iY h2 hg) (by omega) ?_;rcases hL.go iY hlen with h4 | h4
      ·exact h4.up iY
      ·refine gT.same h4 fun hlt => ?_
       have mB:=h.st.up iY h2;have h6:=mB.hi (v + 1) (by omega) hlt;have h7:=(ht (v + 1) hlt).1.1;omega
theorem tc {n : am} (hn : an n = true) : ∀ (f : Nat) (l : List Int) (v s : Nat) (r : List Int),pO n l v → v ≤ n.ends.length → fM n f l v s = some (some r) → SY n r ∧ r.length = n.ends.length
 | 0,l,v,s,r,_,_,hr => by simp [fM] at hr
 | f + 1,l,v,s,r,h,hv,hr => by
  have hlen:=h.st.len;unfold fM at hr
  by_cases h1 : (l.length : Int) ≤ (v : Int)
  ·rw [if_pos h1] at hr;cases hr;refine ⟨fun a ha => ⟨h.st.lo a (by omega) ha,fun e he => ?_⟩,hlen⟩
   obtain ⟨-,-,-,GK,-⟩:=lV hn he;exact h.good a (by omega) ha e he (by omega)
  ·rw [if_neg h1,if_neg (by omega)] at hr;rw [Int.toNat_natCast] at hr;have iY : v < n.ends.length:=by omega
   by_cases h2 : l.getD v 0 = 2
   ·rw [if_pos h2] at hr
    by_cases h0 : v = 0
    ·subst h0
     cases f with
     | zero => simp [fM] at hr
     | succ f =>
      unfold fM at hr;rw [if_neg (by omega),if_pos (by omega)] at hr;cases hr
    ·rw [show (v : Int) - 1 = ((v - 1 : Nat) : Int) by omega] at hr
     exact tc hn f _ _ s r (h.back h0) (by omega) hr
   ·rw [if_neg h2] at hr
    by_cases h3 : s = 200000
    ·rw [if_pos h3] at hr;cases hr
    ·rw [if_neg h3] at hr;cases hg : gK n (l.set v (l.getD v 0 + 1)) v
     ·rw [hg,if_neg (by simp)] at hr;exact tc hn f _ _ _ r (h.stay iY h2) hv hr
     ·rw [hg,if_pos rfl,show (v : Int) + 1 = ((v + 1 : Nat) : Int) by omega] at hr
      exact tc hn f _ _ _ r (h.on hn iY h2 hg) (by omega) hr
theorem pO.start (n : am) : pO n (List.replicate n.ends.length (-1)) 0:=⟨St.start _ _ (by omega),fun a ha => by omega⟩
theorem BF {n : am} (hn : an n = true) (h0 : 0 < n.ends.length) {t : List Int} (ht : SY n t) : ii n ≠ some none:=by
 unfold ii
 have:=qR hn t ht 400002 _ 0 0 (pO.start n) (Nat.zero_le _) (gT.start h0 (ht 0 h0).1.1)
 exact this
theorem DU {n : am} (hn : an n = true) {r : List Int} (h : ii n = some (some r)) : SY n r ∧ r.length = n.ends.length:=by
 unfold ii at h;exact tc hn 400002 _ 0 0 r (pO.start n) (Nat.zero_le _) h
theorem sf {P : Program} {ops : Array Oper} {w0 : World} {fin : Act → World → Prop} {o : Oper} {rest : List Oper} {A : Act} {W : World} {ob : Obj} {v : Value} (hw : Region.wanted o (yielded ops A.tmps) = true) (h : (execOp A.eval o).run P W = .ok (.value v) (W.alloc ob)) (hS : aa w0 W)
  (hr : ∀ W',W' = W.alloc ob → aa w0 W' → bA P ops (aa w0) fin rest (A.put o.dst v) W') : bA P ops (aa w0) fin (o :: rest) A W:=
 xT hw h (ah _ hS) (hr _ rfl (ah _ hS))
def lW (w : World) (k : Nat) : World:={ w with heap:=w.heap.extract 0 k }
theorem mC (w : World) {k : Nat} (hk : k ≤ w.heap.size) : (lW w k).heap.size = k:=by simp [lW];omega
theorem sg (w : World) {k : Nat} (hk : k ≤ w.heap.size) : aa (lW w k) w:=by
 refine ⟨rfl,rfl,rfl,by rw [mC w hk];exact hk,fun i hi => ?_⟩
 rw [mC w hk] at hi;simp [lW,Array.getElem?_extract]
 omega
theorem BG {w0 w : World} {k : Nat} (h : aa w0 w) (hk : k ≤ w.heap.size) (h0 : w0.heap.size ≤ k) : aa w0 (lW w k):=by
 refine ⟨h.os,h.tape,h.output,by rw [mC w hk];exact h0,fun i hi => ?_⟩
 have:=h.block i hi
 simp only [lW,Array.getElem?_extract];rw [if_pos (by omega)];simpa using this
def bQ (W : World) (b : Nat) (x y z : Value) : Prop:=W.heap[b]? = some (.cells #[x,y,z] 27)
theorem bQ.box {W : World} {b : Nat} {x y z : Value} (h : bQ W b x y z) : bH W b x y z:=⟨_,h⟩
theorem bQ.lt {W : World} {b : Nat} {x y z : Value} (h : bQ W b x y z) : b < W.heap.size:=(Array.getElem?_eq_some_iff.1 h).1
theorem bQ.since {W W' : World} {b : Nat} {x y z : Value} (h : bQ W b x y z) (hs : aa W W') : bQ W' b x y z:=(hs.block b h.lt).trans h
def zk (W : World) (B : Nat) (u : Value) : Prop:=∃ b,u = .pointer (some ⟨b,0,none⟩) ∧ B ≤ b ∧ bQ W b (.slice none 0 0) (.slice none 0 0) (.slice none 0 0)
theorem zk.keep {W W' : World} {B : Nat} {u : Value} (h : zk W B u) (hs : aa W W') : zk W' B u:=by
 obtain ⟨b,h1,h2,h3⟩:=h;exact ⟨b,h1,h2,h3.since hs⟩
theorem zk.new (W : World) {B : Nat} (h : B ≤ W.heap.size) : zk (W.alloc (.cells #[.slice none 0 0,.slice none 0 0,.slice none 0 0] 27)) B (.pointer (some ⟨W.heap.size,0,none⟩)):=
 ⟨_,rfl,h,by show (W.heap.push _)[W.heap.size]? = _;rw [Array.getElem?_push_size]⟩
theorem FP {W : World} {base b : Nat} {v x y z : Value} {xs : List Int} (h : Own W base v xs) (hb : bQ W b x y z) : v.ownBlock ≠ some b:=by
 rcases h.2 with ⟨rfl,_⟩ | ⟨g,cap,cur,rfl,_,hc,_⟩
 ·simp [Value.ownBlock]
 ·intro e;simp [Value.ownBlock] at e
  subst e;unfold bQ at hb;rw [hb] at hc;simp at hc
theorem HK {w w0 : World} {ops : Array Oper} {rest : List Oper} {o : Oper} {a : Act} {Q : Exit → Act → World → Prop} (iS : o.guard = none) (s x : Operand)
  (ho : o.op = .call { callee:=.builtin .append,args:=#[s,x],argTypes:=#[81,81] }) {v u : Value} {xs ys : List (Int × Int)} {T : List Nat} (hs : a.eval s = v) (h : eU w w0.heap.size v xs T) (hy : tJ w u ys)
  (hx : a.eval x = u) (hl : xs.length + ys.length ≤ 1000000) (ww : aa w0 w)
  (k : ∀ v' w' T',eU w' w0.heap.size v' (xs ++ ys) T' → (∀ j ∈ T',j ∈ T ∨ j = w.heap.size) → aU T w w' → aa w0 w' → wpList Tryz.prog ops Q rest (a.put o.dst v') w') : wpList Tryz.prog ops Q (o :: rest) a w:=by
 obtain ⟨i0,hi,kg,eF,eD⟩:=info_parts Az;obtain ⟨A,c,rfl,_,_,hA⟩:=hy;have hlt:=fun q hq => World.ownsRow.lt h.1 q hq
 rcases Nat.eq_zero_or_pos ys.length with h0 | h0
 ·have SZ : ys = []:=List.eq_nil_of_length_eq_zero h0;subst SZ;refine wpList_plain iS fun K hK => ?_
  have dt : (Builtin.append_ #[81,81] o.type #[v,.slice A 0 c]).run Tryz.prog w = .ok v w:=by
   rcases h.1.2 with ⟨rfl,xW⟩ | ⟨g,cap,cur,rfl,_,_,wN,_⟩
   ·cases A <;> simp [Builtin.append_,run_underlying Tryz.underlying81,sizeOf,typeInfo,hi,Builtin.lenOf,Builtin.firstCells,loadCells,loadCellsFrom,Result.andThen]
   ·cases A <;> simp [Builtin.append_,run_underlying Tryz.underlying81,sizeOf,typeInfo,hi,Builtin.lenOf,Builtin.firstCells,wN,storeCells,loadCells,loadCellsFrom,Result.andThen]
  simp only [List.length_nil] at hx;unfold Oper.wp;simp [execOp,ho,resolve,invoke,builtin,hs,hx,dt,Result.andThen]
  exact hK _ _ (k v w T (by simpa using h) (fun j hj => .inl hj) (aU.refl _ _) ww)
 ·obtain ⟨y0,yW⟩:=aW ys 0 h0;obtain ⟨b,off,rfl,_⟩:=hA 0 y0 yW
  refine wpList_append_lies w iS s x 81 ho w0.heap.size 83 i0 _ 2 16 Tryz.underlying81 hi kg eF eD rfl (by decide) v xs.length (xs.flatMap ni) hs h.1 ⟨b,off,none⟩ ys.length c (ys.flatMap ni) hx (Ay ys)
   (by
    intro j u hj;have xF:=aq hj;rw [Ay] at xF;obtain ⟨e,he⟩:=aW ys (j / 2) (by omega);obtain ⟨b',pl,e',c1,c2⟩:=hA (j / 2) e he;cases e';obtain ⟨g1,g2⟩:=nk he;rw [Go.Addr.add_lit];rcases Nat.mod_two_eq_zero_or_one j with hm | hm
    ·have e1 : j / 2 * 2 = j:=by omega
     rw [e1] at c1 g1;rw [g1] at hj
     rw [c1];exact hj
    ·have e1 : j / 2 * 2 + 1 = j:=by omega
     rw [e1] at g2;rw [show off + j / 2 * 2 + 1 = off + j by omega] at c2
     rw [g2] at hj
     rw [c2];exact hj) (by intro u hu;obtain ⟨x,_,hx⟩:=List.mem_flatMap.1 hu;simp [ni] at hx;rcases hx with rfl | rfl <;> rfl) h0 (by unfold maxLen;omega) (by omega) ww.below.size w.heap.size rfl ?_
  intro g cap w' q1 q2 q3 q4;have hT:=h.2
  refine k _ w' _ ⟨?_,rfl⟩ ?_ (by rw [hT];exact aU.of_grown q2) (Below.grown ww q2 ww.below.size (fun q hq => (hlt q hq).1))
  ·rw [List.flatMap_append,List.length_append];exact q1
  ·intro j hj;simp [Value.ownBlock] at hj
   subst hj;rcases q3 with q3 | q3
   ·left;rw [hT,q3];simp
   ·exact .inr q3
theorem de.snocC {β : Type} {R : World → Nat → Value → β → List Nat → Prop} {e : TypeId} (L : f8 R) {w w' : World} {base g cap : Nat} {v u : Value} {xs : List β} {x : β} {S T : List Nat} (h : de e R w base v xs S) (hu : R w base u x T) (hd : ∀ j ∈ T,j ∉ S)
  (vs : List Value) (Ss : List (List Nat)) (h1 : w.ownsRow base e 1 v xs.length vs) (h2 : Ss.length = xs.length) (h3 : ∀ (k : Nat) u x T,vs[k]? = some u → xs[k]? = some x → Ss[k]? = some T → R w base u x T) (h4 : S = v.ownBlock.toList ++ Ss.flatten) (h5 : S.Nodup)
  (q1 : w'.ownsRow base e 1 (.slice (some ⟨g,0,none⟩) (xs.length + 1) cap) (xs.length + 1) (vs ++ [u])) (q2 : w.grownBy w' v.ownBlock) (q3 : v.ownBlock = some g ∨ g = w.heap.size) :
  ∃ S',de e R w' base (.slice (some ⟨g,0,none⟩) (xs.length + 1) cap) (xs ++ [x]) S' ∧ (∀ j ∈ S',j ∈ S ∨ j ∈ T ∨ j = w.heap.size):=by
 have hS:=(qs e L).range h;have hTr:=L.range hu;have hvl : vs.length = xs.length:=by simpa using h1.1
 have rV:=h5;rw [h4,List.nodup_append] at rV
 have dC : ∀ j ∈ Ss.flatten,j ∈ S:=fun j hj => by rw [h4];exact List.mem_append_right _ hj
 have fm:=aU.of_grown q2;have hnv : ∀ j ∈ Ss.flatten,j ∉ v.ownBlock.toList:=fun j hj hv => rV.2.2 j hv j hj rfl
 have hTv : ∀ j ∈ T,j ∉ v.ownBlock.toList:=fun j hj hv => hd j hj (by rw [h4];exact List.mem_append_left _ hv)
 have hg : g ∉ Ss.flatten:=fun hg => by
  rcases q3 with q3 | q3
  ·exact hnv g hg (by rw [q3];simp)
  ·have:=(hS g (dC g hg)).2;omega
 have MQ : g ∉ T:=fun hg => by
  rcases q3 with q3 | q3
  ·exact hTv g hg (by rw [q3];simp)
  ·have:=(hTr g hg).2;omega
 refine ⟨[g] ++ (Ss ++ [T]).flatten,⟨vs ++ [u],Ss ++ [T],?_,by simp [h2],?_,by simp [Value.ownBlock],?_⟩,?_⟩
 ·rw [List.length_append];exact q1
 ·intro k u' x' T' IR MR xO;rcases Nat.lt_or_ge k xs.length with hk | hk
  ·rw [List.getElem?_append_left (by omega)] at IR MR xO;exact L.only (h3 k u' x' T' IR MR xO) fm (fun j hj => hnv j (List.mem_flatten.2 ⟨T',List.mem_of_getElem? xO,hj⟩))
  ·have j_ : k = xs.length:=by
    have:=aq MR
    simp at this;omega
   subst j_;rw [List.getElem?_append_right (Nat.le_refl _),Nat.sub_self] at MR;rw [← hvl,List.getElem?_append_right (Nat.le_refl _),Nat.sub_self] at IR;rw [← h2,List.getElem?_append_right (Nat.le_refl _),Nat.sub_self] at xO;simp at IR MR xO
   subst IR MR xO;exact L.only hu fm hTv
 ·rw [List.flatten_append,List.nodup_append];refine ⟨by simp,?_,?_⟩
  ·rw [List.nodup_append];refine ⟨rV.2.1,by simpa using L.nodup hu,?_⟩
   intro a ha b hb e;simp at hb
   subst e;exact hd a hb (dC a ha)
  ·intro a ha b hb e;simp at ha
   subst e ha;rcases List.mem_append.1 hb with hb | hb
   ·exact hg hb
   ·simp at hb;exact MQ hb
 ·intro j hj;rw [List.flatten_append] at hj;rcases List.mem_append.1 hj with hj | hj
  ·simp at hj
   subst hj;rcases q3 with q3 | q3
   ·left;rw [h4,q3];simp
   ·exact .inr (.inr q3)
  ·rcases List.mem_append.1 hj with hj | hj
   ·exact .inl (dC j hj)
   ·simp at hj;exact .inr (.inl hj)
theorem uN {w wT : World} {ops : Array Oper} {rest : List Oper} {o : Oper} {a : Act} {Q : Exit → Act → World → Prop} (iS : o.guard = none) (s x : Operand)
  (ho : o.op = .call { callee:=.builtin .append,args:=#[s,x],argTypes:=#[24,24] }) {base : Nat} {v ui un u : Value} {N : am} {S T : List Nat} {es : List (Int × Int)} (hs : a.eval s = v) (h : aA w base v ui un N S)
  (b : Nat) (hx : a.eval x = .slice (some ⟨b,0,none⟩) 1 1) (hc : w.cell? ⟨b,0,none⟩ = some u) (hu : eU w base u es T) (hd : ∀ j ∈ T,j ∉ S) (hl : N.ends.length + 1 ≤ 1000000) (ww : aa wT w) (I7 : base ≤ w.heap.size) (hvT : ∀ q,v.ownBlock = some q → wT.heap.size ≤ q)
  (k : ∀ v' w' S',(∀ q,v'.ownBlock = some q → v.ownBlock = some q ∨ q = w.heap.size) → aA w' base v' ui un { N with ends:=N.ends ++ [es] } S' → (∀ j ∈ S',j ∈ S ∨ j ∈ T ∨ j = w.heap.size) → aU S w w' → aa wT w' → wpList Tryz.prog ops Q rest (a.put o.dst v') w') : wpList Tryz.prog ops Q (o :: rest) a w:=by
 obtain ⟨i0,hi,kg,eF,eD⟩:=info_parts Fp;have wV:=h.range;obtain ⟨S1,S2,S3,h1,h2,h3,h4,h5⟩:=h;have h1b:=h1;obtain ⟨vs,Ss,r1,r2,r3,r4,r5⟩:=h1;obtain ⟨A,m,c,rfl⟩:=jA.one hu
 refine wpList_append_lies w iS s x 24 ho base 81 i0 _ 1 24 Tryz.underlying24 hi kg eF eD rfl (by decide) v N.ends.length vs hs r1 ⟨b,0,none⟩ 1 1 [.slice A m c] hx rfl
  (by intro j u hj;match j,hj with | 0,hj => (simp at hj;subst hj;simpa [Addr.add] using hc) | j + 1,hj => simp at hj) (by simp [Value.oneCell']) (by omega) (by unfold maxLen;omega) (by omega) I7 w.heap.size rfl ?_
 intro g cap w' q1 q2 q3 q4;rw [h4,List.nodup_append] at h5;obtain ⟨n1,n2,n3⟩:=h5
 have kV : ∀ j ∈ T,j ∉ S1:=fun j hj hS => hd j hj (by rw [h4];exact List.mem_append_left _ hS)
 obtain ⟨MS,o1,oL⟩:=de.snocC jA h1b hu kV vs Ss r1 r2 r3 r4 r5 q1 q2 q3;have fm:=aU.of_grown q2
 have hvS : ∀ j ∈ v.ownBlock.toList,j ∈ S1:=fun j hj => by rw [r4];exact List.mem_append_left _ hj
 have d : ∀ j ∈ S2 ++ S3,j ∉ v.ownBlock.toList:=fun j hj hv => n3 j (hvS j hv) j hj rfl
 refine k _ w' (MS ++ (S2 ++ S3)) (fun q hq => by simp [Value.ownBlock] at hq;subst hq;exact q3) ⟨MS,S2,S3,?_,gQ.only h2 fm (fun j hj => d j (List.mem_append_left _ hj)),gQ.only h3 fm (fun j hj => d j (List.mem_append_right _ hj)),rfl,?_⟩ ?_ (fm.mono fun j hj => by rw [h4];exact List.mem_append_left _ (hvS j hj)) (Below.grown ww q2 ww.below.size hvT)
 ·exact o1
 ·rw [List.nodup_append];refine ⟨kv.nodup o1,n2,fun a ha b hb pt => ?_⟩
  subst pt;rcases oL a ha with h | h | h
  ·exact n3 a h a hb rfl
  ·exact hd a h (by rw [h4];exact List.mem_append_right _ hb)
  ·have:=(wV a (by rw [h4];exact List.mem_append_right _ hb)).2
   omega
 ·intro j hj;rcases List.mem_append.1 hj with hj | hj
  ·rcases oL j hj with h | h | h
   ·exact .inl (by rw [h4];exact List.mem_append_left _ h)
   ·exact .inr (.inl h)
   ·exact .inr (.inr h)
  ·exact .inl (by rw [h4];exact List.mem_append_right _ hj)
theorem aA.setEnd {w : World} {base g c n : Nat} {vi vn : Value} {N : am} {S : List Nat} (h : aA w base (.slice (some ⟨g,0,none⟩) n c) vi vn N S) {k j : Nat} {es : List (Int × Int)} (hx : N.ends[k]? = some es) (hj : j < es.length) :
  ∃ gr cr,w.cell? ⟨g,k,none⟩ = some (.slice (some ⟨gr,0,none⟩) es.length cr) ∧ es.length ≤ cr ∧ cr ≤ maxLen ∧ g ∈ S ∧ gr ∈ S ∧ g ≠ gr ∧ (w.frozen? ⟨gr,j * 2,none⟩ = false ∧ w.frozen? ⟨gr,j * 2 + 1,none⟩ = false) ∧ (∃ z,w.cell? ⟨gr,j * 2,none⟩ = some z) ∧ (∃ z,w.cell? ⟨gr,j * 2 + 1,none⟩ = some z) ∧
   ∀ y : Int × Int,aA ((w.setCell ⟨gr,j * 2,none⟩ (.int .i64 y.1)).setCell ⟨gr,j * 2 + 1,none⟩ (.int .i64 y.2)) base (.slice (some ⟨g,0,none⟩) n c) vi vn { N with ends:=N.ends.set k (es.set j y) } S:=by
 obtain ⟨S1,S2,S3,h1,h2,h3,h4,h5⟩:=h;obtain ⟨u,T,hu,hR,hT,mB⟩:=de.touch jA h1 hx;have hnd:=(qs _ jA).nodup h1;obtain ⟨_,_,_,_,_,UC,_,ib⟩:=de.at_ h1 hx;rw [h4,List.nodup_append] at h5;obtain ⟨n1,n2,n3⟩:=h5;have Y9:=hR.1;rcases eT hR.1 with ⟨rfl,h0⟩ | ⟨gr,cr,rfl,bj,b_,bg,xV⟩
 ·omega
 ·have Qz : gr ∈ T:=by rw [hR.2];simp [Value.ownBlock]
  obtain ⟨y0,yW⟩:=aW es j hj;obtain ⟨c1,c2,ff⟩:=eU.cells hR yW
  have fS : g ≠ gr:=fun e => by
   subst e;obtain ⟨vs,Ss,e1,_⟩:=h1;rcases e1.2 with ⟨h0,_⟩ | ⟨q',wO,UD,h0,_,DA,_⟩
   ·cases h0
   ·cases h0;rcases Y9.2 with ⟨h0,_⟩ | ⟨q'',abb,abc,h0,_,UE,_⟩
    ·cases h0
    ·cases h0;rw [DA] at UE;simp at UE
  refine ⟨gr,cr,hu,bg,xV,by rw [h4];exact List.mem_append_left _ ib,by rw [h4];exact List.mem_append_left _ (hT gr Qz),fS,ff,⟨_,c1⟩,⟨_,c2⟩,fun y => ?_⟩
  have fm : aU T w ((w.setCell ⟨gr,j * 2,none⟩ (.int .i64 y.1)).setCell ⟨gr,j * 2 + 1,none⟩ (.int .i64 y.2)):=((aU.refl _ _).setCell (.inl Qz) _).setCell (.inl Qz) _;have d : ∀ q ∈ S2 ++ S3,q ∉ T:=fun q hq hqT => n3 q (hT q hqT) q hq rfl
  exact ⟨S1,S2,S3,mB _ _ (eU.set hR hj y) fm,gQ.only h2 fm (fun q hq => d q (List.mem_append_left _ hq)),gQ.only h3 fm (fun q hq => d q (List.mem_append_right _ hq)),h4,by rw [h4,List.nodup_append];exact ⟨n1,n2,n3⟩⟩
theorem HV {w : World} {b : Nat} {x y z : Value} (h : bQ w b x y z) : bQ (lW w (b + 1)) b x y z:=by
 have:=h.lt
 unfold bQ at h ⊢
 simp only [lW,Array.getElem?_extract];rw [if_pos (by omega)];simpa using h
theorem bQ.only {S : List Nat} {W W' : World} {b : Nat} {x y z : Value} (h : bQ W b x y z) (ho : aU S W W') (hb : b ∉ S) : bQ W' b x y z:=(ho.block b h.lt hb).trans h
theorem bQ.put0 {W : World} {b : Nat} {x y z : Value} (h : bQ W b x y z) (u : Value) : bQ (W.setCell ⟨b,0,none⟩ u) b u y z:=by
 unfold bQ at h ⊢
 simp [World.setCell,Array.getElem?_modify,h]
theorem bQ.put1 {W : World} {b : Nat} {x y z : Value} (h : bQ W b x y z) (u : Value) : bQ (W.setCell ⟨b,1,none⟩ u) b x u z:=by
 unfold bQ at h ⊢
 simp [World.setCell,Array.getElem?_modify,h]
theorem bQ.put2 {W : World} {b : Nat} {x y z : Value} (h : bQ W b x y z) (u : Value) : bQ (W.setCell ⟨b,2,none⟩ u) b x y u:=by
 unfold bQ at h ⊢
 simp [World.setCell,Array.getElem?_modify,h]
theorem bQ.other {W : World} {b : Nat} {x y z u : Value} {a : Addr} (h : bQ W b x y z) (ha : b ≠ a.block) : bQ (W.setCell a u) b x y z:=(Below.heap_setCell W a u b ha).trans h
theorem HX {w : World} {base : Nat} {v ui un : Value} {jO : List (List (Int × Int))} {ids ins : List Int} {S1 : List Nat} (hE : tS w base v jO S1) (h1 : Own w base ui ids) (h2 : Own w base un ins)
  (d1 : ∀ j ∈ S1,ui.ownBlock ≠ some j) (d2 : ∀ j ∈ S1,un.ownBlock ≠ some j) (d3 : ∀ j,ui.ownBlock = some j → un.ownBlock ≠ some j) :
  aA w base v ui un ⟨jO,ids,ins⟩ (S1 ++ (ui.ownBlock.toList ++ un.ownBlock.toList)):=by
 refine ⟨S1,_,_,hE,⟨h1,rfl⟩,⟨h2,rfl⟩,rfl,?_⟩;rw [List.nodup_append,List.nodup_append]
 refine ⟨kv.nodup hE,⟨by cases ui.ownBlock <;> simp,by cases un.ownBlock <;> simp,?_⟩,?_⟩
 ·intro a ha b hb e;subst e;exact d3 a (by simpa using ha) (by simpa using hb)
 ·intro a ha b hb e;subst e;rcases List.mem_append.1 hb with hb | hb
  ·exact d1 a ha (by simpa using hb)
  ·exact d2 a ha (by simpa using hb)
theorem rK {w : World} {ops : Array Oper} {rest : List Oper} {o : Oper} {a : Act} {Q : Exit → Act → World → Prop} (iS : o.guard = none) (s x : Operand)
  (ho : o.op = .call { callee:=.builtin .append,args:=#[s,x],argTypes:=#[25,25] }) {base : Nat} {v : Value} {xs : List Int} (hs : a.eval s = v) (h : Own w base v xs) (A : Option Addr) (c : Nat) (hx : a.eval x = .slice A 0 c)
  (k : wpList Tryz.prog ops Q rest (a.put o.dst v) w) : wpList Tryz.prog ops Q (o :: rest) a w:=by
 obtain ⟨i0,hi,kg,eF,eD⟩:=info_parts kr;refine wpList_plain iS fun K hK => ?_
 have dt : (Builtin.append_ #[25,25] o.type #[v,.slice A 0 c]).run Tryz.prog w = .ok v w:=by
  rcases h.2 with ⟨rfl,xW⟩ | ⟨g,cap,cur,rfl,_,_,wN,_⟩
  ·cases A <;> simp [Builtin.append_,run_underlying Tryz.underlying25,sizeOf,typeInfo,hi,Builtin.lenOf,Builtin.firstCells,loadCells,loadCellsFrom,Result.andThen]
  ·cases A <;> simp [Builtin.append_,run_underlying Tryz.underlying25,sizeOf,typeInfo,hi,Builtin.lenOf,Builtin.firstCells,wN,storeCells,loadCells,loadCellsFrom,Result.andThen]
 unfold Oper.wp;simp [execOp,ho,resolve,invoke,builtin,hs,hx,dt,Result.andThen]
 exact hK _ _ k
theorem HZ (w : World) : eU (w.alloc (.cells #[] 83)) w.heap.size (.slice (some ⟨w.heap.size,0,none⟩) 0 0) [] [w.heap.size]:=by
 have:=World.ownsRow_lit (base:=w.heap.size) (e:=83) (size:=2) w #[] 0 (Nat.le_refl _) (by simp [maxLen]) (by simp)
 exact ⟨this,rfl⟩
theorem yp (v : Value) (xs : List Int) (w : World) (h : bD w v xs) (hl : xs.length ≤ 17592186044416) :
  Calls Tryz.prog 179 #[v] w fun e w' => ∃ u,e = .returned u ∧ Own w' w.heap.size u xs ∧ Below w.heap.size w w':=by
 rcases Nat.eq_zero_or_pos xs.length with h0 | h0
 ·obtain rfl : xs = []:=List.eq_nil_of_length_eq_zero h0
  obtain ⟨A,c,rfl,ft,hm,_⟩:=h;have ho:=jk w [] (by simp [maxLen]);simp only [List.map_nil,List.length_nil] at ho;have Ho:=zh ho;clear ho
  go_enter Tryz.func179,Tryz.ntmps179
  go_wp2_with (at_builtin;refine rK rfl _ _ rfl rfl Ho.out A c rfl ?_)
  go_wp2;go_ret;exact ⟨_,rfl,Ho.out,au _ _⟩
 ·exact GC v xs w h h0 hl
theorem BH {P : Program} {ops : Array Oper} {S : World → Prop} {fin : Act → World → Prop} {o : Oper} {rest : List Oper} {A : Act} {W W' : World} (hw : Region.wanted o (yielded ops A.tmps) = true) (h : (execOp A.eval o).run P W = .ok .skip W') (hS : S W')
  (hr : bA P ops S fin rest (A.put o.dst undef) W') : bA P ops S fin (o :: rest) A W:=.inl ⟨hw,by rw [h];exact ⟨hS,hr⟩⟩
theorem kp (ve vi vn : Value) (n : am) (w : World) (h : aT w ve vi vn n) (uh : n.ends.length ≤ 1000) (dG : ∀ (k : Nat) (es : List (Int × Int)),n.ends[k]? = some es → es.length ≤ 1000) (ed : f_ n ≤ 1048576) :
  Calls Tryz.prog 137 #[.agg #[ve,vi,vn]] w (pu w n):=by
 have zZ : n.ids.length ≤ 17592186044416:=by unfold f_ at ed;omega
 have kE : n.inputs.length ≤ 17592186044416:=by unfold f_ at ed;omega
 have Ke : Hid (∀ (k : Nat) (es : List (Int × Int)),n.ends[k]? = some es → es.length ≤ 1000):=dG;have DV:=zh zZ;have Uv:=zh kE;clear zZ kE dG ed
 obtain ⟨w0,A,c,A2,c2,A3,c3,rfl,rfl,rfl,ft,hm,f6,gF,HA,dh,bv,H,eG,eX,fb⟩:=zB h;clear h
 obtain ⟨wa,kH⟩ : ∃ wa,wa = w0.alloc (.cells #[.slice none 0 0,.slice none 0 0,.slice none 0 0] 27):=⟨_,rfl⟩
 have oy : aa w0 wa:=by rw [kH];exact ah _ (ad _)
 have H4 : Hid (wa.heap.size = w0.heap.size + 1):=by show _ = _;rw [kH];simp
 have Mu : Hid (∀ X,aa wa X → bQ X w0.heap.size (.slice none 0 0) (.slice none 0 0) (.slice none 0 0)):=fun X hX => by
  refine bQ.since (W:=wa) ?_ hX;rw [kH];show (w0.heap.push _)[w0.heap.size]? = _
  rw [Array.getElem?_push_size]
 have O5:=ai eG oy;have O6:=ai eX oy;have O7:=ai fb oy;have HNe:=zh (show ∀ X,aa wa X → oX X (.slice A n.ends.length c) n.ends from fun X hX => (H.out.keep (oy.after hX).below).es)
 have XV:=zh (show ∀ X,aa wa X → bD X (.slice A2 n.ids.length c2) n.ids from fun X hX => by have:=H.out.keep (oy.after hX).below;exact this.2.1)
 have HNn:=zh (show ∀ X,aa wa X → bD X (.slice A3 n.inputs.length c3) n.inputs from fun X hX => by have:=H.out.keep (oy.after hX).below;exact this.2.2)
 have DW:=zh kH;have CW:=zh oy;clear kH oy eG eX fb
 go_enter Tryz.func137,Tryz.ntmps137
 go_upto_region 1 with (fail);rw [← dh.out,← DW.out];refine nq (w0:=wa) 9 [0,0,1,0,0,1,1,2,3] (fun _ W u => zk W wa.heap.size u) (fun _ W W' u h hs => h.keep hs) (by kernel_rfl) (by kernel_rfl) (ad _) ?_
 rw [show rC 2 ([0,0,1,0,0,1,1,2,3] : List Nat) = [7] from by decide]
 simp only [jR,List.take_succ_cons,List.take_zero,List.drop_succ_cons,List.drop_zero,if_true,if_false,reduceCtorEq,Nat.reduceEqDiff,reduceIte,Nat.zero_ne_one,Nat.one_ne_zero]
 iterate 4 (apply bB rfl;(intro W hW;go_simp;with_reducible rfl);simp only [zA])
 refine ⟨?_,?_⟩
 ·intro j hj;obtain rfl:=List.mem_singleton.1 hj
  intro o ho;cases ho;refine ⟨rfl,fun W hW => ?_⟩
  unfold ku
  go_simp
  all_goals (first | exact zk.new _ hW.below.size | exact ⟨zk.new _ hW.below.size,ah _ (ad _)⟩)
 intro W hW;intro W1 h1;have DP:=aa.after hW h1;refine ⟨rfl,?_⟩
 go_simp
 (with_reducible refine (yp _ n.ids W1 (XV.out W1 DP) DV.out).mono ?_)
 rintro e W ⟨u1,rfl,ho,hb⟩;refine ⟨_,rfl,hb,?_⟩;have hW:=DP.after (hb)
 have HI:=zh (show ∀ X,aa W X → Own X wa.heap.size u1 n.ids from fun X hX => (ho.since hX).mono DP.below.size);clear ho hb
 (try simp only [zA])
 intro W1 h1;have DP:=aa.after hW h1;refine ⟨rfl,?_⟩
 go_simp
 (with_reducible refine (yp _ n.inputs W1 (HNn.out W1 DP) Uv.out).mono ?_)
 rintro e W ⟨u2,rfl,ho,hb⟩;refine ⟨_,rfl,hb,?_⟩;have hW:=DP.after (hb)
 have ZO:=zh (show ∀ X,aa W X → Own X wa.heap.size u1 n.ids from fun X hX => HI.out X ((h1.trans hb).after hX));have S_:=zh (show ∀ X,aa W X → Own X wa.heap.size u2 n.inputs from fun X hX => (ho.since hX).mono DP.below.size);have Hd3:=zh (show ∀ j,u1.ownBlock = some j → u2.ownBlock ≠ some j from fun j hj hk => by have:=(World.ownsRow.lt (HI.out W1 h1) j hj).2;have:=(World.ownsRow.lt ho j hk).1;omega);clear ho hb HI;obtain ⟨BI,dI,rfl,_⟩:=id (ZO.out W (ad _)).ints;obtain ⟨BN,dN,rfl,_⟩:=id (S_.out W (ad _)).ints
 (try simp only [zA])
 intro W1 h1;have DP:=aa.after hW h1;refine ⟨rfl,?_⟩
 go_simp
 have hq6:=h1;have hW:=DP
 (try simp only [zA])
 intro us W h1 hU;have hW:=aa.after hW h1;have ZP : (fun _ W u => zk W wa.heap.size u) 7 W (us 7):=by first | exact hU 7 (by simp) | exact hU
 (try simp only [] at ZP)
 simp only [cj,zG]
 (try simp only [zA])
 obtain ⟨u7,hu7⟩ : ∃ x,x = us 7:=⟨_,rfl⟩
 rw [← hu7] at ZP ⊢;clear hu7;clear hU us
 obtain ⟨ob,rfl,Kh,fO⟩:=ZP;have XW:=zh (ZO.out _ (hq6.after h1));have z_:=zh (S_.out _ (hq6.after h1));have XX:=zh fO;obtain ⟨c0,c1,oK,f0,f1,f2⟩:=fO.box.cells
 refine BH (W':=?_) rfl ?_ ?_ ?_;rotate_left
 (go_simp;with_reducible rfl)
 exact (((hW.setCell Kh _).setCell Kh _).setCell Kh _)
 (try simp only [zA])
 simp only [bA];have QC : bQ (((W.setCell ⟨ob,0,none⟩ (.slice none 0 0)).setCell ⟨ob,1,none⟩ (.slice BI n.ids.length dI)).setCell ⟨ob,2,none⟩ (.slice BN n.inputs.length dN)) ob (.slice none 0 0) (.slice BI n.ids.length dI) (.slice BN n.inputs.length dN):=((XX.out.put0 _).put1 _).put2 _;obtain ⟨w4,gZ⟩ : ∃ w4,w4 = ((W.setCell ⟨ob,0,none⟩ (.slice none 0 0)).setCell ⟨ob,1,none⟩ (.slice BI n.ids.length dI)).setCell ⟨ob,2,none⟩ (.slice BN n.inputs.length dN):=⟨_,rfl⟩
 rw [← gZ] at QC ⊢
 have HS4 : Hid (aa wa w4):=by show aa _ _;rw [gZ];exact (((hW.setCell Kh _).setCell Kh _).setCell Kh _)
 have QE : aU [ob] W w4:=by rw [gZ];exact ((((aU.refl _ _).setCell (.inl (by simp)) _).setCell (.inl (by simp)) _).setCell (.inl (by simp)) _)
 have GB:=FP XW.out XX.out;have No:=FP z_.out XX.out
 have UF : Hid (aA w4 wa.heap.size (.slice none 0 0) (.slice BI n.ids.length dI) (.slice BN n.inputs.length dN) ⟨[],n.ids,n.inputs⟩ ((Value.slice BI n.ids.length dI).ownBlock.toList ++ (Value.slice BN n.inputs.length dN).ownBlock.toList) ∧ ob ∉ (Value.slice BI n.ids.length dI).ownBlock.toList ++ (Value.slice BN n.inputs.length dN).ownBlock.toList):=by
  show _ ∧ _
  refine ⟨?_,fun hm => (List.mem_append.1 hm).elim (fun hm => GB (by simpa using hm)) (fun hm => No (by simpa using hm))⟩
  have h1 : Own w4 wa.heap.size (.slice BI n.ids.length dI) n.ids:=aO XW.out (fun j hj => QE.block j (World.ownsRow.lt XW.out j (by simpa using hj)).2 (fun e => GB (by simp at e;subst e;simpa using hj)))
  have h2 : Own w4 wa.heap.size (.slice BN n.inputs.length dN) n.inputs:=aO z_.out (fun j hj => QE.block j (World.ownsRow.lt z_.out j (by simpa using hj)).2 (fun e => No (by simp at e;subst e;simpa using hj)))
  exact HX (S1:=[]) ⟨[],[],World.ownsRow_nil _ _ _ _,rfl,fun k u x T h => by simp at h,rfl,by simp⟩ h1 h2 (by simp) (by simp) Hd3.out
 have M_:=zh QC;have Hob:=zh Kh;clear QC gZ QE GB No ZO S_ Hd3 XW z_ XX c0 c1 oK f0 f1 f2 hW Kh;have kD:=HS4.out;go_wp2
 go_loopw [16] (fun i wr => ∃ (k : Nat) (v : Value) (S : List Nat),k ≤ n.ends.length ∧ i = .int .i64 k ∧ aA wr wa.heap.size v (.slice BI n.ids.length dI) (.slice BN n.inputs.length dN) ⟨n.ends.take k,n.ids,n.inputs⟩ S ∧ ob ∉ S ∧ (∀ q,v.ownBlock = some q → ob + 1 ≤ q) ∧ bQ wr ob v (.slice BI n.ids.length dI) (.slice BN n.inputs.length dN) ∧ aa wa wr) (fun i _ => n.ends.length - (intOf i).toNat)
 case atStart => exact ⟨0,_,_,Nat.zero_le _,rfl,by simpa using UF.out.1,UF.out.2,by simp [Value.ownBlock],M_.out,HS4.out⟩
 case round =>
  obtain ⟨k,v,S,hk,rfl,fm,UG,XY,fO,cJ⟩:=hrel;obtain ⟨AV,cV,hV,_⟩:=id fm.read.1;obtain ⟨mV,ZQ⟩ : ∃ m,m = (n.ends.take k).length:=⟨_,rfl⟩
  simp only [← ZQ] at hV;have HmV:=zh ZQ;clear ZQ;subst hV;have zY:=zh fm;have UH:=zh UG;have XZ:=zh XY;have Mv:=zh fO;clear kD fm UG XY
  by_cases hlt : k < n.ends.length
  ·obtain ⟨es,cM⟩:=aW n.ends k hlt;obtain ⟨b,Qc,cr,ur,lP,hkr,eS,dG⟩:=jQ (HNe.out wa (ad _)) cM;cases lP;have q5:=ae eS;have HE:=zh (show ∀ X,aa wa X → tJ X ur es from fun X hX => dG.keep hX.below)
   have ml:=zh cM;have SN:=zh (Ke.out k es cM);clear eS dG cM fO;go_upto_region 5 with (fail);obtain ⟨wT,UI⟩ : ∃ wT,wT = lW wr (ob + 1):=⟨_,rfl⟩
   have qy : ob + 1 ≤ wr.heap.size:=Mv.out.lt
   have hsT : aa wT wr:=by rw [UI];exact sg wr qy
   have ZR : wT.heap.size = ob + 1:=by rw [UI];exact mC wr qy
   have hTb : bQ wT ob (.slice AV mV cV) (.slice BI n.ids.length dI) (.slice BN n.inputs.length dN):=by rw [UI];exact HV Mv.out
   have ZS : aa wa wT:=by rw [UI];exact BG cJ qy (Nat.le_succ_of_le Hob.out)
   have t0:=ae hTb.box.cells.1;have q5T:=ai q5 ZS;have HTs:=zh ZR;have X3:=zh ZS;have lw:=zh cJ;have Mw:=zh qy
   have lH : Hid (wT.heap.size ≤ wr.heap.size):=by show _ ≤ _;rw [ZR];exact qy
   clear UI ZR hTb ZS cJ q5 O5 O6 O7 qy;refine ec (w0:=wT) 7 [false,false,true,false,true,true,true] (by kernel_rfl) (by kernel_rfl) (hsT) ?_;simp only [d_,dO,zT]
   iterate 3 (apply bB rfl;(intro W hW;go_simp;with_reducible rfl);simp only [zA])
   obtain ⟨W,dr⟩ : ∃ W,W = World.drew wr:=⟨_,rfl⟩
   rw [← dr]
   have hW : aa wT W:=by rw [dr];exact ak (hsT)
   (try have fV:=zh dr)
   (try clear dr)
   refine sf (v:=?_) (ob:=?_) rfl ?_ hW ?_;rotate_left 2
   (go_simp;first | with_reducible rfl | (refine ⟨?_,?_⟩ <;> with_reducible rfl))
   intro w2 QF UJ
   replace hW:=UJ
   clear UJ
   have iU : Hid (eU w2 wr.heap.size (.slice (some ⟨wr.heap.size,0,none⟩) 0 0) [] [wr.heap.size]):=by show eU _ _ _ _ _;rw [QF,fV.out];exact HZ wr.drew
   have j7 : Hid (aa wr w2):=by show aa _ _;rw [QF,fV.out];exact ah _ (ak (ad _))
   rw [show W.heap.size = wr.heap.size from by rw [fV.out];rfl]
   clear QF fV
   (try simp only [zA])
   refine dP (fun Q' HQ => ?_)
   (refine HK (w0:=wT) (v:=.slice (some ⟨wr.heap.size,0,none⟩) 0 0) (u:=ur) (xs:=[]) (ys:=es) (T:=[wr.heap.size]) rfl _ _ rfl rfl (jA.mono iU.out (lH.out)) (HE.out w2 (X3.out.after hW)) rfl (by have:=SN.out;simp;omega) hW ?_);intro v3 w3 T3 ie UK DX iB;refine HQ _ _ iB ?_;replace hW:=iB;have sG : Hid (aa wr w3):=(show aa _ _ from Below.trans j7.out (DX.below _ j7.out.below.size (by simp)));have HT3 : Hid (∀ j ∈ T3,wr.heap.size ≤ j):=(fun j hj => (UK j hj).elim (fun h => Nat.le_of_eq (List.mem_singleton.1 h).symm) (fun h => by have:=j7.out.below.size;omega));obtain ⟨AQ,mQ,cQ,hvQ⟩:=jA.one ie;subst hvQ;have ms:=zh ie;clear iB ie UK DX
   (try simp only [zA])
   (try have fV:=zh dr)
   (try clear dr)
   refine sf (v:=?_) (ob:=?_) rfl ?_ hW ?_;rotate_left 2
   (go_simp;first | with_reducible rfl | (refine ⟨?_,?_⟩ <;> with_reducible rfl))
   intro w5 oM uQ
   replace hW:=uQ
   clear uQ
   have HE5 : Hid (eU w5 wa.heap.size (.slice AQ mQ cQ) es T3):=by show eU _ _ _ _ _;rw [oM];have h5 : eU w3 wT.heap.size (.slice AQ mQ cQ) es T3:=(by simpa using ms.out);exact jA.mono (jA.keep h5 (au _ _)) X3.out.below.size
   have Hc5 : Hid (w5.cell? ⟨w3.heap.size,0,none⟩ = some (.slice AQ mQ cQ)):=by show _ = _;rw [oM];simp
   have X4 : Hid (aa wr w5):=by show aa _ _;rw [oM];exact ah _ sG.out
   have Ki:=zh (zY.out.keep X4.out.below)
   have Hd5:=zh (show ∀ j ∈ T3,j ∉ S from fun j hj hS => by have:=HT3.out j hj;have:=(zY.out.range j hS).2;omega)
   have Hl5 : Hid ((n.ends.take k).length + 1 ≤ 1000000):=(by show _ ≤ _;rw [List.length_take];omega)
   have FQ : Hid (wa.heap.size ≤ w5.heap.size):=(Nat.le_trans (X3.out.below.size) hW.below.size)
   have QG : Hid (∀ q,(Value.slice AV mV cV).ownBlock = some q → wT.heap.size ≤ q):=(fun q hq => by rw [HTs.out];exact XZ.out q hq)
   clear oM
   (try simp only [zA])
   refine dP (fun Q' HQ => ?_)
   (refine uN (wT:=wT) (v:=.slice AV mV cV) (u:=.slice AQ mQ cQ) rfl _ _ rfl rfl Ki.out w3.heap.size rfl Hc5.out HE5.out Hd5.out Hl5.out hW FQ.out QG.out ?_);intro v6 w6 S6 XR xi hS6 BJ yq;refine HQ _ _ yq ?_;have Hv6:=zh XR;have I8:=zh xi;have HS6:=zh hS6;have ZT:=zh BJ;replace hW:=yq;clear XR xi hS6 BJ yq
   (try simp only [zA])
   simp only [bA];obtain ⟨A6,c6,hV6,_⟩:=id I8.out.read.1
   have UL : (n.ends.take k ++ [es]).length = k + 1:=by simp;omega
   simp only [UL] at hV6;subst hV6;have UM:=zh ((Mv.out.since X4.out).only ZT.out UH.out);have ZU : Hid (aa wa w6):=(X3.out.after hW);obtain ⟨c0,_,_,f0,_,_⟩:=UM.out.box.cells;clear hW t0 q5T;go_wp2;go_roundw
   case rel =>
    have UN : ob ∉ S6:=fun hm => by
     rcases HS6.out ob hm with h | h | h
     ·exact UH.out h
     ·have:=HT3.out ob h;have:=Mw.out;omega
     ·have:=X4.out.below.size;have:=Mw.out;omega
    refine ⟨k + 1,.slice A6 (k + 1) c6,S6,by omega,by go_num,?_,UN,?_,UM.out.put0 _,ZU.out.setCell Hob.out _⟩
    ·have hx:=I8.out.stable (w':=w6.setCell ⟨ob,0,none⟩ (.slice A6 (k + 1) c6)) (fun j hj => Below.heap_setCell w6 _ _ j (fun e => UN (by have e' : j = ob:=e;exact e' ▸ hj)))
     rw [bk ml.out];exact hx
    ·intro q hq;rcases Hv6.out q hq with h | h
     ·exact XZ.out q h
     ·have:=X4.out.below.size;have:=Mw.out;omega
   case measure => simp [intOf];omega
  ·obtain rfl : k = n.ends.length:=by omega
   have qc : w0.heap.size = w.heap.size + 1:=by rw [dh.out];simp
   have HR:=Mu.out wr cJ;rw [qc] at HR
   have ZV : Hid (w.heap.size + 1 < wa.heap.size):=by show _ < _;rw [H4.out];omega
   obtain ⟨c0,c1,oK,_,_,_⟩:=Mv.out.box.cells;obtain ⟨d0,d1,d2,f0,f1,f2⟩:=HR.box.cells;have lw:=zh cJ;have I6:=zh HR;clear HR fO cJ hlt hk qc;go_wp2;refine bodyPost_ret (v:=.agg #[.slice AV mV cV,.slice BI n.ids.length dI,.slice BN n.inputs.length dN]) (by simp [results,Tryz.results137,go_sem, *]) rfl ?_;have hx:=zY.out;rw [List.take_length] at hx;refine ⟨_,_,_,S,rfl,?_,?_⟩
   ·refine (hx.stable (fun j hj => ?_)).mono (Nat.le_trans bv.out.size CW.out.below.size)
    have sD:=(zY.out.range j hj).1;have xF:=ZV.out;rw [Below.heap_setCell _ _ _ j (by simp;omega),Below.heap_setCell _ _ _ j (by simp;omega),Below.heap_setCell _ _ _ j (by simp;omega)]
   ·exact (((Below.trans bv.out ((CW.out.after lw.out).below.mono bv.out.size)).setCell (by simp) _).setCell (by simp) _).setCell (by simp) _
section
variable {P : Program} {ops : Array Oper}
def X5 (V : Nat → Value) (i : Nat) (u : Value) : Nat → Value:=fun j => if j = i then u else V j
theorem Kj (V : Nat → Value) {i j : Nat} (u : Value) (h : j ≠ i) : X5 V i u j = V j:=if_neg h
theorem BK (V : Nat → Value) (i : Nat) (u : Value) : X5 V i u i = u:=if_pos rfl
end
section
variable {P : Program} {ops : Array Oper}
end
structure Cr (wa W : World) (ob b1 b2 g c m : Nat) (vi vn : Value) (N : am) (S : List Nat) (a e : Int × Int) : Prop where
 own : aA W wa.heap.size (.slice (some ⟨g,0,none⟩) m c) vi vn N S
 len : N.ends.length = m
 box : bQ W ob (.slice (some ⟨g,0,none⟩) m c) vi vn
 e1 : E2 W 83 b1 a.1 a.2
 e2 : E2 W 83 b2 e.1 e.2
 nb : ob ∉ S ∧ b1 ∉ S ∧ b2 ∉ S
 since : aa wa W
def iT (n : am) (s : Int) (ls : List Int) : List Int:=gR (fun v => fi n s ls v.toNat) (gJ ls.length)
theorem FR (n : am) (s : Int) (ls : List Int) : (iT n s ls).length ≤ ls.length:=by
 have:=Fv (fun v => fi n s ls v.toNat) (gJ ls.length)
 rw [fe] at this;exact this
theorem Kk : ∀ args w,(callFunc 135 args).run Tryz.prog w = .ok (.enter 135 args) w:=enters_of Tryz.func135 (by kernel_rfl) rfl
theorem Kl (ve vi vn vl : Value) (n : am) (s : Int) (ls : List Int) (k b : Nat) (w : World) (h : aT w ve vi vn n) (hl : bD w vl ls) (gD : eL n s ls = true) (hk : k < n.ends.length)
  (c0 : w.cell? ⟨b,0,none⟩ = some ve) (c1 : w.cell? ⟨b,1,none⟩ = some vi) (c2 : w.cell? ⟨b,2,none⟩ = some vn) (c3 : w.cell? ⟨b + 1,0,none⟩ = some (.int .i64 s)) (c4 : w.cell? ⟨b + 1 + 1,0,none⟩ = some vl) :
  Calls Tryz.prog 135 #[.int .i64 k,.pointer (some ⟨b,0,none⟩),.pointer (some ⟨b + 1,0,none⟩),.pointer (some ⟨b + 1 + 1,0,none⟩)] w fun e w' => e = .returned (.bool (fi n s ls k)) ∧ Below w.heap.size w w':=by
 obtain ⟨es,l,gt,jp,a1,a2,a3,a4,a5,a6,a7,a8,a9,a10⟩:=Qm gD hk;have hc:=r_ ve vi vn vl n s ls k es l gt jp w h hl a1 a2 a3 a4 a5 a6 a7 a8 a9;rw [← a10] at hc;have Hc:=zh hc;obtain ⟨AL,cL,rfl,sA,mn,_⟩:=hl;obtain ⟨⟨A,c,rfl,ft,hm,_⟩,⟨A2,oK,rfl,_,ly,_⟩,⟨A3,pc,rfl,_,rF,_⟩⟩:=h;clear hc gD a3 a5 a6 a7 a8 a9 a10
 go_enter Tryz.func135,Tryz.ntmps135
 go_wp2_with fail;refine Hc.out.mono ?_;rintro e w2 ⟨rfl,hb⟩;have Hb:=zh hb;clear hb;go_wp2;go_ret;exact ⟨rfl,Hb.out⟩
theorem jt (ve vi vn vl : Value) (n : am) (s : Int) (ls : List Int) (w : World) (h : aT w ve vi vn n) (hl : bD w vl ls) (gD : eL n s ls = true) :
  Calls Tryz.prog 61 #[.agg #[ve,vi,vn],.int .i64 s,vl] w fun e w' => ∃ u,e = .returned u ∧ Own w' w.heap.size u (iT n s ls) ∧ Below w.heap.size w w':=by
 have QH:=zh hl;obtain ⟨AL,cL,rfl,sA,mn,_⟩:=hl;unfold maxLen at mn;obtain ⟨w0,ck⟩ : ∃ w0,w0 = (((w).alloc (.cells #[ve,vi,vn] 27)).alloc (.cells #[.int .i64 s] 3)).alloc (.cells #[.slice AL ls.length cL] 25):=⟨_,rfl⟩
 have jL : Below w.heap.size w w0:=by rw [ck];exact ((((Below.refl _ _).alloc (by simp <;> omega) _).alloc (by simp <;> omega) _).alloc (by simp <;> omega) _)
 have H:=zh (h.keep jL);obtain ⟨h1,h2,h3⟩:=h.keep jL;obtain ⟨A,c,rfl,ft,hm,hA⟩:=h1;obtain ⟨A2,c2,rfl,_,f6,_⟩:=h2;obtain ⟨A3,c3,rfl,_,gF,_⟩:=h3;unfold maxLen at hm f6 gF
 have eG : ∀ W,aa w0 W → W.cell? ⟨w.heap.size,0,none⟩ = some (.slice A n.ends.length c):=ae (by rw [ck];simp [go_sem])
 have eX : ∀ W,aa w0 W → W.cell? ⟨w.heap.size,1,none⟩ = some (.slice A2 n.ids.length c2):=ae (by rw [ck];simp [go_sem])
 have fb : ∀ W,aa w0 W → W.cell? ⟨w.heap.size,2,none⟩ = some (.slice A3 n.inputs.length c3):=ae (by rw [ck];simp [go_sem])
 have O8 : ∀ W,aa w0 W → W.cell? ⟨w.heap.size + 1,0,none⟩ = some (.int .i64 s):=ae (by rw [ck];simp [go_sem])
 have p20 : ∀ W,aa w0 W → W.cell? ⟨w.heap.size + 1 + 1,0,none⟩ = some (.slice AL ls.length cL):=ae (by rw [ck];simp [go_sem])
 have bv:=zh jL;have dh:=zh ck;have HA:=zh hA;clear hA h;clear jL ck;have HL:=zh (QH.out.keep bv.out)
 have n9 : n.ends.length ≤ 1000000:=by have:=yh gD;omega
 have Nj:=zh (yh gD).2.1
 have HP : Hid (mh w0 135 #[.pointer (some ⟨w.heap.size,0,none⟩),.pointer (some ⟨w.heap.size + 1,0,none⟩),.pointer (some ⟨w.heap.size + 1 + 1,0,none⟩)] (fun v => fi n s ls v.toNat) (gJ n.ends.length)):=by
  intro x hx X hX;obtain ⟨k,hk,rfl⟩:=List.mem_map.1 hx;have lu:=List.mem_range.1 hk;exact Kl (.slice A n.ends.length c) (.slice A2 n.ids.length c2) (.slice A3 n.inputs.length c3) (.slice AL ls.length cL) n s ls k w.heap.size X (H.out.keep hX) (HL.out.keep hX) gD lu (eG X hX) (eX X hX) (fb X hX) (O8 X hX) (p20 X hX)
 have cX : aa w0 w0:=ad _;clear gD
 go_enter Tryz.func61,Tryz.ntmps61
 go_upto_region 1 with (fail);rw [← dh.out];go_wp2_with fail;refine (jm n.ends.length n9 w0).mono ?_;rintro e W3 ⟨u3,rfl,ie,bg⟩;have ms:=zh ie;have eY : Hid (aa w0 W3):=bg;clear ie bg cX;go_wp2_with fail
 refine (nt _ (gJ n.ends.length) _ _ (fun v => fi n s ls v.toNat) _ w0 ms.out eY.out (by rw [fe];omega) Kk HP.out).mono ?_
 rintro e W4 ⟨u4,rfl,mf,kD⟩;have sH:=zh mf;have mg:=zh kD;clear mf kD;go_wp2;go_ret
 exact ⟨_,rfl,by unfold iT;rw [Nj.out];exact sH.out.mono bv.out.size,aa.after bv.out mg.out⟩
def dH (n : am) (s : Int) (ls : List Int) : Bool:=eL n s ls
def bM (n : am) (s : Int) (ls : List Int) : List Int:=if eL n s ls then iT n s ls else []
def eM (n : am) (s : Int) (ls : List Int) : Bool:=eL n s ls
def cC (n : am) (s : Int) (ls : List Int) : Bool:=eL n s ls && (iT n s ls).length == 0
theorem kJ (ve vi vn : Value) (n : am) (s : Int) (vl : Value) (ls : List Int) (w : World) (h : aT w ve vi vn n) (_ : -9223372036854775808 ≤ s ∧ s ≤ 9223372036854775807) (hl : bD w vl ls) (ed : f_ n ≤ 1048576) (hbig : ls.length ≤ 1048576) :
  Calls Tryz.prog 15 #[.agg #[ve,vi,vn],.int .i64 s,vl] w fun e w' => ∃ u,e = .returned (.tuple #[u,.bool (dH n s ls)]) ∧ Own w' w.heap.size u (bM n s ls) ∧ Below w.heap.size w w':=by
 obtain ⟨w0,A,c,A2,c2,A3,c3,rfl,rfl,rfl,ft,hm,f6,gF,HA,dh,bv,H,eG,eX,fb⟩:=zB h;clear h
 have HL:=zh (hl.keep bv.out);obtain ⟨AL,cL,rfl,sA,mn,_⟩:=hl;unfold maxLen at mn;have cX : aa w0 w0:=ad _;cases gD : eL n s ls
 ·have zl:=zh gD;clear gD
  go_enter Tryz.func15,Tryz.ntmps15
  go_upto_region 1 with (fail);rw [← dh.out];go_wp2_with fail;refine (kb _ _ _ _ n s ls _ H.out HL.out ed).mono ?_;rw [zl.out];rintro e W1 ⟨rfl,bj⟩;have gh : Hid (aa w0 W1):=bj;clear bj cX;go_wp2
  go_ret2
  exact ⟨_,congrArg (fun b => Ending.returned (.tuple #[_,.bool b])) (show false = dH n s ls from zl.out.symm),by rw [show bM n s ls = [] by simp [bM,zl.out]];exact cH _ _,aa.after bv.out gh.out⟩
 ·have zl:=zh gD;clear gD
  go_enter Tryz.func15,Tryz.ntmps15
  go_upto_region 1 with (fail);rw [← dh.out];go_wp2_with fail;refine (kb _ _ _ _ n s ls _ H.out HL.out ed).mono ?_;rw [zl.out];rintro e W1 ⟨rfl,bj⟩;have dm : aa w0 W1:=bj;clear bj cX;go_wp2_with fail;refine (jt _ _ _ _ n s ls _ (H.out.keep dm.below) (HL.out.keep dm.below) zl.out).mono ?_;rintro e W2 ⟨u,rfl,ho,hb⟩;have Ho:=zh ho;have cw:=zh (dm.trans hb);have lH:=zh (aa.below dm).size;clear ho hb dm;go_wp2
  go_ret2
  exact ⟨_,congrArg (fun b => Ending.returned (.tuple #[_,.bool b])) (show true = dH n s ls from zl.out.symm),by rw [show bM n s ls = iT n s ls by simp [bM,zl.out]];exact Ho.out.mono (Nat.le_trans bv.out.size lH.out),aa.after bv.out cw.out⟩
theorem mD (ve vi vn : Value) (n : am) (s : Int) (vl : Value) (ls : List Int) (w : World) (h : aT w ve vi vn n) (_ : -9223372036854775808 ≤ s ∧ s ≤ 9223372036854775807) (hl : bD w vl ls) (ed : f_ n ≤ 1048576) (hbig : ls.length ≤ 1048576) :
  Calls Tryz.prog 24 #[.agg #[ve,vi,vn],.int .i64 s,vl] w fun e w' => e = .returned (.tuple #[.bool (cC n s ls),.bool (eM n s ls)]) ∧ Below w.heap.size w w':=by
 obtain ⟨w0,A,c,A2,c2,A3,c3,rfl,rfl,rfl,ft,hm,f6,gF,HA,dh,bv,H,eG,eX,fb⟩:=zB h;clear h
 have HL:=zh (hl.keep bv.out);obtain ⟨AL,cL,rfl,sA,mn,_⟩:=hl;unfold maxLen at mn;have cX : aa w0 w0:=ad _;cases gD : eL n s ls
 ·have zl:=zh gD;clear gD
  go_enter Tryz.func24,Tryz.ntmps24
  go_upto_region 1 with (fail);rw [← dh.out];go_wp2_with fail;refine (kb _ _ _ _ n s ls _ H.out HL.out ed).mono ?_;rw [zl.out];rintro e W1 ⟨rfl,bj⟩;have gh : Hid (aa w0 W1):=bj;clear bj cX;go_wp2
  go_ret2
  exact ⟨Uo (show false = cC n s ls by simp [cC,zl.out]) (show false = eM n s ls from zl.out.symm),aa.after bv.out gh.out⟩
 ·have zl:=zh gD;clear gD
  go_enter Tryz.func24,Tryz.ntmps24
  go_upto_region 1 with (fail);rw [← dh.out];go_wp2_with fail;refine (kb _ _ _ _ n s ls _ H.out HL.out ed).mono ?_;rw [zl.out];rintro e W1 ⟨rfl,bj⟩;have dm : aa w0 W1:=bj;clear bj cX;go_wp2_with fail;refine (jt _ _ _ _ n s ls _ (H.out.keep dm.below) (HL.out.keep dm.below) zl.out).mono ?_;rintro e W2 ⟨u,rfl,ho,hb⟩;have Ho:=zh ho;have cw:=zh (dm.trans hb);have lH:=zh (aa.below dm).size;obtain ⟨Bu,du,rfl,_⟩:=id ho.ints;clear ho hb dm;go_wp2
  go_ret2
  exact ⟨Uo (show _ = cC n s ls by rw [cC,zl.out,Bool.true_and];first | rfl | (rw [Bool.eq_iff_iff];simp)) (show true = eM n s ls from zl.out.symm),aa.after bv.out cw.out⟩
end Go.Proofs.YtgmdpppljkmabaaGreat
