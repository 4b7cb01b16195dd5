/- Parts of the proof: walks of functions and plain laws. -/
import Derived.Test.YtgmdpppljkmabaaGreatP0
import Derived.Test.YtgmdpppljkmabaaGreatP4
import Derived.Test.YtgmdpppljkmabaaGreatP6
import Derived.Test.YtgmdpppljkmabaaGreatP3
import Derived.LoopN
set_option maxRecDepth 100000
set_option maxHeartbeats 16000000
namespace Go.Proofs.YtgmdpppljkmabaaGreat
open Go Go.RowKit
def JQ (n : am) : List (Nat × Nat):=(ca n).map fun e => (e.1.toNat,e.2.2.1.toNat)
def bU (n : am) (v i : Nat) (f : Int × Int) : Prop:=(n.ends.getD v [])[i]? = some f
theorem dD {n : am} (hn : an n = true) {v i : Nat} {f : Int × Int} (h : bU n v i f) : v < n.ends.length ∧ 0 ≤ f.1 ∧ f.1 < n.ends.length ∧ 0 ≤ f.2 ∧ bU n f.1.toNat f.2.toNat ((v : Int),(i : Int)):=by
 have hv : v < n.ends.length:=by
  rcases Nat.lt_or_ge v n.ends.length with h1 | h1
  ·exact h1
  ·unfold bU at h;rw [zDd,List.getElem?_eq_none h1] at h;simp at h
 have hi:=aq h
 have hp : cg n.ends (v : Int) (i : Int) = true:=by
  unfold cg;rw [Bool.and_eq_true,aM,aM];simp only [Int.toNat_natCast];omega
 have he : fg n.ends (v : Int) (i : Int) = f:=by
  unfold fg;simp only [Int.toNat_natCast];exact aH h
 obtain ⟨h1,h2⟩:=rx hn hp;rw [he] at h1 h2;unfold cg at h1;rw [Bool.and_eq_true,aM,aM] at h1;refine ⟨hv,h1.1.1,by omega,h1.2.1,?_⟩
 have hl : f.2.toNat < (n.ends.getD f.1.toNat []).length:=by omega
 obtain ⟨y,hy⟩:=aW _ _ hl;unfold fg at h2;rw [aH hy] at h2;unfold bU;rw [hy,h2]
theorem iI {n : am} {a b : Nat} : (b : Int) ∈ eJ n (a : Int) ↔ ∃ (i : Nat) (f : Int × Int),bU n a i f ∧ f.1 = (b : Int):=by
 rw [mp];constructor
 ·rintro ⟨j,q,h⟩;exact ⟨j,_,h,rfl⟩
 ·rintro ⟨i,f,h,e⟩;exact ⟨i,f.2,by rw [← e];exact h⟩
theorem bZ {n : am} {e : Ed} : e ∈ ca n ↔ ∃ (v i : Nat) (f : Int × Int),v < n.ends.length ∧ bU n v i f ∧ iV v i f = true ∧ e = ((v : Int),(i : Int),f.1,f.2):=by
 rw [GJ];constructor
 ·rintro ⟨v,i,hv,hi,hk,rfl⟩;obtain ⟨f,hf⟩:=aW _ _ hi;rw [aH hf] at hk ⊢;exact ⟨v,i,f,hv,hf,hk,rfl⟩
 ·rintro ⟨v,i,f,hv,hp,hk,rfl⟩;have x7 : (dX n v)[i]? = some f:=hp;refine ⟨v,i,hv,aq x7,?_,?_⟩
  ·rw [aH x7];exact hk
  ·rw [aH x7]
theorem y3 {v i : Nat} {f : Int × Int} (h1 : 0 ≤ f.1) (h2 : 0 ≤ f.2) (h : iV v i f = false) : iV f.1.toNat f.2.toNat ((v : Int),(i : Int)) = true ∧ iV v i f = false:=by
 refine ⟨?_,h⟩
 unfold iV at h ⊢
 simp only [Bool.or_eq_false_iff,Bool.and_eq_false_iff,decide_eq_false_iff_not,beq_eq_false_iff_ne,ne_eq] at h;simp only [Bool.or_eq_true,Bool.and_eq_true,decide_eq_true_eq,beq_iff_eq];rw [Int.toNat_of_nonneg h1,Int.toNat_of_nonneg h2];omega
theorem GM {v i : Nat} {f : Int × Int} (h1 : 0 ≤ f.1) (h2 : 0 ≤ f.2) (h : iV v i f = true) (h' : iV f.1.toNat f.2.toNat ((v : Int),(i : Int)) = true) : f = ((v : Int),(i : Int)):=by
 unfold iV at h h';simp only [Bool.or_eq_true,Bool.and_eq_true,decide_eq_true_eq,beq_iff_eq] at h h';rw [Int.toNat_of_nonneg h1,Int.toNat_of_nonneg h2] at h';obtain ⟨a,b⟩:=f;simp only at h h' h1 h2
 rw [Prod.mk.injEq];omega
theorem JR {n : am} (hn : an n = true) {F : List Ed} (keep : Nat → Nat → Bool) (hF : ∀ e,e ∈ F ↔ e ∈ ca n ∧ keep e.1.toNat e.2.1.toNat = true)
  (hk : ∀ v i f,bU n v i f → keep v i = keep f.1.toNat f.2.toNat) {a b : Nat} (R : Nat → Nat → Prop) (T7 : ∀ a,R a a) (fI : ∀ {a b c : Nat},R a b → (∃ i f,bU n b i f ∧ keep b i = true ∧ f.1 = (c : Int)) → R a c)
  (Zj : ∀ {a b : Nat},R a b → ∀ (M : Nat → Prop),M a → (∀ b c : Nat,M b → (∃ i f,bU n b i f ∧ keep b i = true ∧ f.1 = (c : Int)) → M c) → M b) :
  jM (F.map fun e => (e.1.toNat,e.2.2.1.toNat)) a b ↔ R a b:=by
 have one : ∀ {x y : Nat},(x,y) ∈ (F.map fun e => (e.1.toNat,e.2.2.1.toNat)) ↔ ∃ i f,bU n x i f ∧ keep x i = true ∧ f.1 = (y : Int) ∧ iV x i f = true:=by
  intro x y;rw [List.mem_map];constructor
  ·rintro ⟨e,he,Ml⟩;obtain ⟨h1,h2⟩:=(hF e).1 he;obtain ⟨v,i,f,hv,hp,Bf,rfl⟩:=bZ.1 h1;simp only [Int.toNat_natCast,Prod.mk.injEq] at Ml h2;obtain ⟨rfl,rfl⟩:=Ml;exact ⟨i,f,hp,h2,(Int.toNat_of_nonneg (dD hn hp).2.1).symm,Bf⟩
  ·rintro ⟨i,f,hp,h2,hf,Bf⟩;refine ⟨((x : Int),(i : Int),f.1,f.2),(hF _).2 ⟨bZ.2 ⟨x,i,f,(dD hn hp).1,hp,Bf,rfl⟩,by simpa using h2⟩,?_⟩
   simp [hf]
 constructor
 ·intro h
  induction h with
  | refl => exact T7 _
  | @step b c _ hs ih =>
   refine fI ih ?_;rcases hs with hs | hs
   ·obtain ⟨i,f,h1,h2,h3,_⟩:=one.1 hs;exact ⟨i,f,h1,h2,h3⟩
   ·obtain ⟨i,f,h1,h2,h3,_⟩:=one.1 hs;obtain ⟨g1,g2,g3,g4,g5⟩:=dD hn h1;rw [h3,Int.toNat_natCast] at g5;refine ⟨f.2.toNat,_,g5,?_,rfl⟩
    have:=hk _ _ _ h1
    rw [h3,Int.toNat_natCast] at this
    rw [← this];exact h2
 ·intro h;refine Zj h (fun z => jM _ a z) .refl ?_
  rintro x y hx ⟨i,f,h1,h2,h3⟩;refine hx.step ?_
  by_cases Bf : iV x i f = true
  ·exact .inl (one.2 ⟨i,f,h1,h2,h3,Bf⟩)
  ·obtain ⟨g1,g2,g3,g4,g5⟩:=dD hn h1;have JS:=(y3 g2 g4 (by simpa using Bf)).1;have Qe:=hk _ _ _ h1;rw [h3,Int.toNat_natCast] at g5 JS Qe
   exact .inr (one.2 ⟨f.2.toNat,_,g5,by rw [← Qe];exact h2,rfl,JS⟩)
theorem Fy {n : am} (hn : an n = true) {a b : Nat} : jM (JQ n) a b ↔ fH n a b:=by
 refine JR hn (F:=ca n) (fun _ _ => true) (by simp) (by simp) (fH n) (fun _ => .refl) ?_ ?_
 ·rintro a b c h ⟨i,f,h1,_,h3⟩;exact h.step (iI.2 ⟨i,f,h1,h3⟩)
 ·intro a b h M h0 hM
  induction h with
  | refl => exact h0
  | step _ hs ih =>
   obtain ⟨i,f,h1,h3⟩:=iI.1 hs;exact hM _ _ ih ⟨i,f,h1,rfl,h3⟩
theorem Dv {n : am} (hn : an n = true) : Ds (JQ n) n.ends.length:=by
 intro e he;obtain ⟨x,hx,rfl⟩:=List.mem_map.1 he;obtain ⟨v,i,f,hv,hp,_,rfl⟩:=bZ.1 hx
 have:=dD hn hp
 simp only [Int.toNat_natCast];omega
def ja (n : am) (k : Nat) : Nat:=(List.range k).countP fun v => al n v == v
open Classical in
theorem Bg {n : am} (hn : an n = true) : ja n n.ends.length = jC (JQ n) n.ends.length:=by
 unfold ja jC
 apply List.countP_congr
 intro v hv;have SR:=List.mem_range.1 hv;rw [decide_eq_true_eq];obtain ⟨l1,l2,l3⟩:=bK hn SR;constructor
 ·intro h u hu
  have:=l3 u ((Fy hn).1 hu)
  simp only [beq_iff_eq] at h;omega
 ·intro h;have h1:=h _ ((Fy hn).2 l1);have h2:=AH hn SR;simp only [beq_iff_eq];omega
theorem Bh (n : am) : (ca n).Nodup:=by
 unfold ca ea
 unfold List.Nodup;rw [List.pairwise_flatMap]
 have one : ∀ v es k e,e ∈ mW v es k → e.1 = (v : Int):=by
  intro v es k e he;unfold mW at he;obtain ⟨j,_,hj⟩:=List.mem_flatMap.1 he;unfold qC at hj
  split at hj
  ·rw [List.mem_singleton.1 hj]
  ·simp at hj
 constructor
 ·intro v _;unfold mW;rw [List.pairwise_flatMap];constructor
  ·intro j _;unfold qC
   split <;> simp
  ·refine List.Pairwise.imp ?_ (List.pairwise_lt_range (n:=(dX n v).length));intro i j Aw x hx y hy e;subst e;unfold qC at hx hy
   split at hx
   ·split at hy
    ·have a:=List.mem_singleton.1 hx;have b:=List.mem_singleton.1 hy;rw [a] at b;simp only [Prod.mk.injEq] at b;omega
    ·simp at hy
   ·simp at hx
 ·refine List.Pairwise.imp ?_ (List.pairwise_lt_range (n:=n.ends.length));intro u v huv x hx y hy e;subst e;have a:=one _ _ _ _ hx;have b:=one _ _ _ _ hy;omega
def kC (keep : Nat → Nat → Bool) (v k : Nat) : Nat:=((List.range k).filter (keep v)).length
def jo (n : am) (keep : Nat → Nat → Bool) (v k : Nat) : List (Int × Int):=((List.range k).filter (keep v)).map fun i => (((dX n v).getD i (0,0)).1,((kC keep ((dX n v).getD i (0,0)).1.toNat ((dX n v).getD i (0,0)).2.toNat : Nat) : Int))
def Dw (n : am) (keep : Nat → Nat → Bool) (v : Nat) : List (Int × Int):=jo n keep v (dX n v).length
def jb (n : am) (keep : Nat → Nat → Bool) : am:={ n with ends:=(List.range n.ends.length).map (Dw n keep) }
theorem x8 (keep : Nat → Nat → Bool) (v k : Nat) : kC keep v (k + 1) = kC keep v k + (if keep v k then 1 else 0):=by
 unfold kC;rw [List.range_succ,List.filter_append,List.length_append]
 cases h : keep v k <;> simp [h]
theorem qF (n : am) (keep : Nat → Nat → Bool) (v k : Nat) : jo n keep v (k + 1) = jo n keep v k ++ (if keep v k then [(((dX n v).getD k (0,0)).1,((kC keep ((dX n v).getD k (0,0)).1.toNat ((dX n v).getD k (0,0)).2.toNat : Nat) : Int))] else []):=by
 unfold jo;rw [List.range_succ,List.filter_append,List.map_append]
 cases h : keep v k <;> simp [h]
theorem jc (n : am) (keep : Nat → Nat → Bool) (v k : Nat) : (jo n keep v k).length = kC keep v k:=by simp [jo,kC]
theorem GN (keep : Nat → Nat → Bool) (v : Nat) {j k : Nat} (h : j ≤ k) : kC keep v j ≤ kC keep v k:=by
 induction k with
 | zero => obtain rfl : j = 0 := by omega
           exact Nat.le_refl _
 | succ k ih =>
  rcases Nat.lt_or_ge k j with h1 | h1
  ·obtain rfl : j = k + 1:=by omega
   exact Nat.le_refl _
  ·rw [x8];have:=ih h1;omega
theorem M2 (keep : Nat → Nat → Bool) (v : Nat) {j k : Nat} (h : j < k) (hk : keep v j = true) : kC keep v j < kC keep v k:=by
 have h1:=GN keep v (j:=j + 1) (k:=k) (by omega);rw [x8,hk] at h1;simp at h1
 omega
theorem M3 (keep : Nat → Nat → Bool) (v k : Nat) : kC keep v k ≤ k:=by
 unfold kC
 have:=List.length_filter_le (keep v) (List.range k)
 simpa using this
theorem GO (n : am) (keep : Nat → Nat → Bool) (v : Nat) : ∀ (k j : Nat),j < k → keep v j = true → (jo n keep v k)[kC keep v j]? = some (((dX n v).getD j (0,0)).1,((kC keep ((dX n v).getD j (0,0)).1.toNat ((dX n v).getD j (0,0)).2.toNat : Nat) : Int)):=by
 intro k
 induction k with
 | zero => intro j hj;omega
 | succ k ih =>
  intro j hj hk;rw [qF];rcases Nat.lt_or_ge j k with h | h
  ·rw [List.getElem?_append_left (by rw [jc];exact M2 keep v h hk)]
   exact ih j h hk
  ·obtain rfl : j = k:=by omega
   rw [List.getElem?_append_right (by rw [jc];exact Nat.le_refl _),jc,hk]
   simp
theorem Dx (n : am) (keep : Nat → Nat → Bool) (v : Nat) : ∀ (k m : Nat) (f : Int × Int),(jo n keep v k)[m]? = some f → ∃ j,j < k ∧ keep v j = true ∧ m = kC keep v j ∧ f = (((dX n v).getD j (0,0)).1,((kC keep ((dX n v).getD j (0,0)).1.toNat ((dX n v).getD j (0,0)).2.toNat : Nat) : Int)):=by
 intro k
 induction k with
 | zero => intro m f h;simp [jo] at h
 | succ k ih =>
  intro m f h;rw [qF] at h;rcases Nat.lt_or_ge m (jo n keep v k).length with hm | hm
  ·rw [List.getElem?_append_left hm] at h;obtain ⟨j,a,b⟩:=ih m f h;exact ⟨j,by omega,b⟩
  ·rw [List.getElem?_append_right hm] at h
   cases hk : keep v k with
   | false => rw [hk] at h;simp at h
   | true =>
    rw [hk] at h;simp only [if_true] at h
    have:=aq h
    simp only [List.length_cons,List.length_nil] at this;rw [jc] at hm this;have kW : m - kC keep v k = 0:=by omega
    rw [jc,kW] at h;simp only [List.getElem?_cons_zero,Option.some.injEq] at h;exact ⟨k,by omega,hk,by omega,h.symm⟩
theorem sY (n : am) (keep : Nat → Nat → Bool) {v : Nat} (hv : v < n.ends.length) : (jb n keep).ends.getD v [] = Dw n keep v:=by
 rw [zDd];simp [jb,hv]
theorem lR {n : am} (hn : an n = true) (keep : Nat → Nat → Bool) {v m : Nat} {g : Int × Int} : bU (jb n keep) v m g ↔ ∃ j f,bU n v j f ∧ keep v j = true ∧ m = kC keep v j ∧ g = (f.1,((kC keep f.1.toNat f.2.toNat : Nat) : Int)):=by
 constructor
 ·intro h
  have hv : v < n.ends.length:=by
   rcases Nat.lt_or_ge v n.ends.length with h1 | h1
   ·exact h1
   ·unfold bU at h;have hl : (jb n keep).ends.length = n.ends.length:=by simp [jb]
    rw [zDd,List.getElem?_eq_none (l:=(jb n keep).ends) (by rw [hl];exact h1)] at h
    simp at h
  unfold bU at h;rw [sY n keep hv] at h;obtain ⟨j,h1,h2,h3,h4⟩:=Dx n keep v _ m g h;obtain ⟨f,hf⟩:=aW _ _ h1;rw [aH hf] at h4;exact ⟨j,f,hf,h2,h3,h4⟩
 ·rintro ⟨j,f,hp,hk,rfl,rfl⟩;have hv:=(dD hn hp).1;have x7 : (dX n v)[j]? = some f:=hp;unfold bU;rw [sY n keep hv]
  have:=GO n keep v (dX n v).length j (aq x7) hk
  rw [aH x7] at this;exact this
theorem y4 {n : am} (hn : an n = true) (keep : Nat → Nat → Bool) (hk : ∀ v i f,bU n v i f → keep v i = keep f.1.toNat f.2.toNat) : an (jb n keep) = true:=by
 have hl : (jb n keep).ends.length = n.ends.length:=by simp [jb]
 have OT:=hn
 unfold an at hn ⊢
 rw [hl];simp only [Bool.and_eq_true] at hn ⊢
 refine ⟨hn.1,?_⟩;rw [List.all_eq_true];intro v hv;have SR:=List.mem_range.1 hv;have h0:=List.all_eq_true.1 hn.2 v hv
 unfold fT at h0 ⊢
 rw [sY n keep SR];simp only [Bool.and_eq_true,decide_eq_true_eq] at h0 ⊢
 constructor
 ·unfold Dw;rw [jc]
  have:=M3 keep v (dX n v).length
  have h1:=h0.1
  unfold dX at this ⊢
  omega
 ·rw [List.all_eq_true];intro m hm;have IW:=List.mem_range.1 hm;obtain ⟨g,hg⟩:=aW _ _ IW;rw [aH hg]
  have hpg : bU (jb n keep) v m g:=by unfold bU;rw [sY n keep SR];exact hg
  obtain ⟨j,f,hp,hkj,rfl,rfl⟩:=(lR OT keep).1 hpg;obtain ⟨g1,g2,g3,g4,g5⟩:=dD OT hp
  have hkf : keep f.1.toNat f.2.toNat = true:=by rw [← hk v j f hp];exact hkj
  have oY : bU (jb n keep) f.1.toNat (kC keep f.1.toNat f.2.toNat) ((v : Int),((kC keep v j : Nat) : Int)):=(lR OT keep).2 ⟨f.2.toNat,_,g5,hkf,rfl,by simp⟩
  have hlt:=aq oY
  unfold iF cg zR
  simp only [Int.toNat_natCast,Bool.and_eq_true,aM,decide_eq_true_eq];rw [hl];exact ⟨⟨by omega,by omega⟩,aH oY⟩
theorem M4 {n : am} (hn : an n = true) (keep : Nat → Nat → Bool) (hk : ∀ v i f,bU n v i f → keep v i = keep f.1.toNat f.2.toNat) {F : List Ed} (hF : ∀ e,e ∈ F ↔ e ∈ ca n ∧ keep e.1.toNat e.2.1.toNat = true) {a b : Nat} :
  jM (F.map fun e => (e.1.toNat,e.2.2.1.toNat)) a b ↔ fH (jb n keep) a b:=by
 refine JR hn keep hF hk (fH (jb n keep)) (fun _ => .refl) ?_ ?_
 ·rintro a b c h ⟨i,f,h1,h2,h3⟩;exact h.step (iI.2 ⟨_,_,(lR hn keep).2 ⟨i,f,h1,h2,rfl,rfl⟩,h3⟩)
 ·intro a b h M h0 hM
  induction h with
  | refl => exact h0
  | step _ hs ih =>
   obtain ⟨m,g,h1,h3⟩:=iI.1 hs;obtain ⟨i,f,k1,k2,k3,k4⟩:=(lR hn keep).1 h1;exact hM _ _ ih ⟨i,f,k1,k2,by rw [← h3,k4]⟩
def fY (v i : Nat) (f : Int × Int) (x j : Nat) : Bool:=!((x == v && j == i) || (x == f.1.toNat && j == f.2.toNat))
theorem nw {n : am} (hn : an n = true) {v i : Nat} {f : Int × Int} (hp : bU n v i f) : ∀ x j g,bU n x j g → fY v i f x j = fY v i f g.1.toNat g.2.toNat:=by
 intro x j g hg;obtain ⟨g1,g2,g3,g4,g5⟩:=dD hn hg;obtain ⟨f1,f2,f3,f4,f5⟩:=dD hn hp
 have T8 : x = v → j = i → g = f:=by
  rintro rfl rfl;unfold bU at hg hp;rw [hg] at hp;exact Option.some.inj hp
 have T_ : x = f.1.toNat → j = f.2.toNat → g = ((v : Int),(i : Int)):=by
  rintro rfl rfl;unfold bU at hg f5;rw [hg] at f5;exact Option.some.inj f5
 have Ua : g.1.toNat = v → g.2.toNat = i → x = f.1.toNat ∧ j = f.2.toNat:=by
  intro h1 h2;rw [h1,h2] at g5;unfold bU at g5 hp;rw [g5] at hp
  have:=Option.some.inj hp
  rw [← this];simp
 have Ub : g.1.toNat = f.1.toNat → g.2.toNat = f.2.toNat → x = v ∧ j = i:=by
  intro h1 h2;rw [h1,h2] at g5;unfold bU at g5 f5;rw [g5] at f5
  have:=Option.some.inj f5
  simp only [Prod.mk.injEq] at this;omega
 unfold fY;congr 1
 rw [Bool.eq_iff_iff];simp only [Bool.or_eq_true,Bool.and_eq_true,beq_iff_eq];constructor
 ·rintro (⟨h1,h2⟩ | ⟨h1,h2⟩)
  ·rw [T8 h1 h2];exact .inr ⟨rfl,rfl⟩
  ·rw [T_ h1 h2];exact .inl ⟨by simp,by simp⟩
 ·rintro (⟨h1,h2⟩ | ⟨h1,h2⟩)
  ·exact .inr (Ua h1 h2)
  ·exact .inl (Ub h1 h2)
theorem um {n : am} (hn : an n = true) : ((ca n).length + ja n n.ends.length = n.ends.length) ↔ ∀ v i f,bU n v i f → ¬ fH (jb n (fY v i f)) v f.1.toNat:=by
 have h0:=Du (Dv hn);have GK : (JQ n).length = (ca n).length:=by simp [JQ]
 rw [GK,← Bg hn] at h0;rw [Nat.add_comm,h0]
 have Qf : ∀ (k : Nat) (e : Ed),(ca n)[k]? = some e → ∀ x,x ∈ (ca n).eraseIdx k ↔ x ∈ ca n ∧ x ≠ e:=by
  intro k e he x;have hnd:=Bh n;have h1:=o8 he;obtain ⟨hl,hee⟩:=List.getElem?_eq_some_iff.1 he
  have h2 : e ∉ (ca n).eraseIdx k:=by
   rw [List.eraseIdx_eq_take_drop_succ];have e1 : ca n = (ca n).take k ++ e :: (ca n).drop (k + 1):=by rw [← hee,← List.drop_eq_getElem_cons hl,List.take_append_drop]
   rw [e1] at hnd;have h3:=List.nodup_append.1 hnd;have h4:=List.nodup_cons.1 h3.2.1;intro hm;rcases List.mem_append.1 hm with hm | hm
   ·exact h3.2.2 e hm e (by simp) rfl
   ·exact h4.1 hm
  constructor
  ·intro hx;exact ⟨(h1 x).2 (List.mem_cons_of_mem _ hx),fun e2 => h2 (e2 ▸ hx)⟩
  ·rintro ⟨hx,fS⟩;rcases List.mem_cons.1 ((h1 x).1 hx) with e2 | e2
   ·exact absurd e2 fS
   ·exact e2
 have n8 : ∀ (k v i : Nat) (f : Int × Int),bU n v i f → iV v i f = true → (ca n)[k]? = some ((v : Int),(i : Int),f.1,f.2) → ∀ a b,jM ((JQ n).eraseIdx k) a b ↔ fH (jb n (fY v i f)) a b:=by
  intro k v i f hp Bf he a b
  have : (JQ n).eraseIdx k = ((ca n).eraseIdx k).map fun e => (e.1.toNat,e.2.2.1.toNat):=by
   unfold JQ;rw [List.eraseIdx_eq_take_drop_succ,List.eraseIdx_eq_take_drop_succ,List.map_append,List.map_take,List.map_drop]
  rw [this];refine M4 hn _ (nw hn hp) ?_;intro e;rw [Qf k _ he e];apply and_congr_right
  intro hm;obtain ⟨x,j,g,hx,Ak,Zk,rfl⟩:=bZ.1 hm;obtain ⟨f1,f2,f3,f4,f5⟩:=dD hn hp;simp only [Int.toNat_natCast,fY,Bool.not_eq_true',Bool.or_eq_false_iff,Bool.and_eq_false_iff,beq_eq_false_iff_ne,ne_eq,Prod.mk.injEq];constructor
  ·intro fS;constructor
   ·rcases Nat.lt_trichotomy x v with h | h | h
    ·exact .inl (by omega)
    ·subst h;refine .inr fun m_ => ?_
     subst m_;unfold bU at Ak hp;rw [Ak] at hp;have hgf:=Option.some.inj hp;subst hgf;exact fS ⟨rfl,rfl,rfl,rfl⟩
    ·exact .inl (by omega)
   ·by_cases h1 : x = f.1.toNat
    ·refine .inr fun h2 => ?_
     subst h1 h2;unfold bU at Ak f5;rw [Ak] at f5;have hg:=Option.some.inj f5;subst hg;have XN:=GM f2 f4 Bf Zk;subst XN;simp at fS
    ·exact .inl h1
  ·rintro ⟨h1,_⟩ ⟨q1,q2,_⟩
   rcases h1 with h1 | h1 <;> omega
 constructor
 ·intro hb v i f hp hr;obtain ⟨f1,f2,f3,f4,f5⟩:=dD hn hp
  by_cases Bf : iV v i f = true
  ·obtain ⟨k,hk⟩:=List.mem_iff_getElem?.1 (bZ.2 ⟨v,i,f,f1,hp,Bf,rfl⟩);refine hb k (v,f.1.toNat) ?_ ((n8 k v i f hp Bf hk _ _).2 hr);unfold JQ;rw [List.getElem?_map,hk];simp
  ·have JS:=(y3 f2 f4 (by simpa using Bf)).1;obtain ⟨k,hk⟩:=List.mem_iff_getElem?.1 (bZ.2 ⟨f.1.toNat,f.2.toNat,_,by omega,f5,JS,rfl⟩)
   refine hb k (f.1.toNat,v) ?_ ((n8 k _ _ _ f5 JS hk _ _).2 ?_)
   ·unfold JQ;rw [List.getElem?_map,hk];simp only [Option.map_some,Int.toNat_natCast]
   ·have hx : fY f.1.toNat f.2.toNat ((v : Int),(i : Int)) = fY v i f:=by
     funext x j
     unfold fY;simp only [Int.toNat_natCast];rw [Bool.or_comm]
    rw [hx];exact fH.symm (y4 hn _ (nw hn hp)) (by simpa [jb] using f1) hr
 ·intro hb k e he hc;unfold JQ at he;rw [List.getElem?_map] at he
  cases hk : (ca n)[k]? with
  | none => rw [hk] at he;simp at he
  | some x =>
   rw [hk] at he;obtain ⟨v,i,f,hv,hp,Bf,rfl⟩:=bZ.1 (List.mem_of_getElem? hk);simp only [Option.map_some,Option.some.injEq,Int.toNat_natCast] at he;subst he;exact hb v i f hp ((n8 k v i f hp Bf hk _ _).1 hc)
theorem y5 {n : am} (hn : an n = true) {v w : Nat} (hv : v < n.ends.length) (hw : w < n.ends.length) : -1 ≤ (dM n v).getD w 0 ∧ (dM n v).getD w 0 < n.ends.length:=by
 have hl : (dM n v).length = n.ends.length:=oh hn _ _ _ (BI.start hv);refine JA hn (n.ends.length + 1) _ 0 (BI.start hv) _ ?_;show (dM n v).getD w 0 ∈ dM n v
 rw [zDd,List.getElem?_eq_getElem (by omega)];exact List.getElem_mem _
def gS (n : am) (v : Nat) : Int:=(dM n (al n v)).getD v 0 % 2
def pG (n : am) : List Int:=(List.range n.ends.length).map (gS n)
theorem JT (n : am) : (pG n).length = n.ends.length:=by simp [pG]
theorem ut {n : am} {v : Nat} (hv : v < n.ends.length) : (pG n)[v]? = some (gS n v):=by
 unfold pG;rw [List.getElem?_map,List.getElem?_range hv];rfl
theorem GP (n : am) (k : Nat) : (List.range (k + 1)).map (gS n) = (List.range k).map (gS n) ++ [gS n k]:=by rw [List.range_succ,List.map_append];rfl
theorem cK {n : am} (hn : an n = true) {v : Nat} (hv : v < n.ends.length) : al n v < n.ends.length:=(bK hn hv).2.1
theorem Bi {n : am} (hn : an n = true) {v : Nat} (hv : v < n.ends.length) : 0 ≤ (dM n (al n v)).getD v 0 ∧ (dM n (al n v)).getD v 0 < n.ends.length:=
 ⟨(iG hn (cK hn hv) hv).2 ((rz hn (cK hn hv) hv (pB hn hv)).2 rfl),(y5 hn (cK hn hv) hv).2⟩
theorem M5 {n : am} (hn : an n = true) {v : Nat} (hv : v < n.ends.length) {d : Int} (hd : (dM n (al n v))[v]? = some d) : Int.tmod d 2 = gS n v:=by
 have h:=Bi hn hv;unfold gS;rw [aH hd] at h ⊢;exact Int.tmod_eq_emod_of_nonneg h.1
def mu (n : am) : Ed → Bool:=fun e => (pG n).getD e.1.toNat 0 == (pG n).getD e.2.2.1.toNat 0
def uw (n : am) (v : Nat) : Int → Bool:=fun w => gS n v == (pG n).getD w.toNat 0
def pH (n : am) : Bool:=!(ca n).any (mu n)
theorem fL {n : am} {v : Nat} (hv : v < n.ends.length) : (pG n).getD v 0 = gS n v:=aH (ut hv)
theorem x9 {n : am} (hn : an n = true) : pH n = (List.range n.ends.length).all fun v => !(eJ n (v : Int)).any (uw n v):=by
 unfold pH;rw [Bool.eq_iff_iff];simp only [Bool.not_eq_true',List.any_eq_false,List.all_eq_true,List.mem_range];constructor
 ·intro h v hv x hx hc
  rw [show x = ((x.toNat : Nat) : Int) by have:=pA hn (cur:=(v : Int)) (by omega) x hx;omega] at hx
  obtain ⟨i,f,hp,hf⟩:=iI.1 hx;obtain ⟨p1,p2,p3,p4,p5⟩:=dD hn hp;have Zl : x.toNat = f.1.toNat:=by omega
  unfold uw at hc;rw [Zl,fL (by omega)] at hc
  by_cases hk : iV v i f = true
  ·refine h _ (bZ.2 ⟨v,i,f,hv,hp,hk,rfl⟩) ?_;unfold mu;simp only [Int.toNat_natCast];rw [fL hv,fL (by omega)];exact hc
  ·have mL:=(y3 p2 p4 (by simpa using hk)).1;refine h _ (bZ.2 ⟨f.1.toNat,f.2.toNat,((v : Int),(i : Int)),by omega,p5,mL,rfl⟩) ?_
   unfold mu;simp only [Int.toNat_natCast];rw [fL hv,fL (by omega)];simp only [beq_iff_eq] at hc ⊢
   exact hc.symm
 ·intro h e he hc;obtain ⟨v,i,f,hv,hp,_,rfl⟩:=bZ.1 he;obtain ⟨p1,p2,p3,p4,p5⟩:=dD hn hp;refine h v hv f.1 ?_ ?_
  ·rw [show f.1 = ((f.1.toNat : Nat) : Int) by omega]
   exact iI.2 ⟨i,f,hp,by omega⟩
  ·unfold uw;unfold mu at hc;simp only [Int.toNat_natCast] at hc;rw [fL hv] at hc;exact hc
def gK (n : am) (l : List Int) (v : Nat) : Bool:=!((aw l (n.ends.getD v [])).contains (l.getD v 0))
def fM (n : am) : Nat → List Int → Int → Nat → Option (Option (List Int))
 | 0,_,_,_ => none
 | f + 1,l,v,s =>
  if (l.length : Int) ≤ v then some (some l)
  else if v < 0 then some none
  else if l.getD v.toNat 0 = 2 then fM n f (l.set v.toNat (-1)) (v - 1) s
  else if s = 200000 then none
  else fM n f (l.set v.toNat (l.getD v.toNat 0 + 1)) (if gK n (l.set v.toNat (l.getD v.toNat 0 + 1)) v.toNat then v + 1 else v) (s + 1)
def qG (v : Int) (s : Nat) : Nat:=(200000 - s) * 2 + (v + 1).toNat
structure ux (n : am) (l : List Int) (v : Int) (s : Nat) (f : Nat) : Prop where
 len : l.length = n.ends.length
 rng : ∀ x ∈ l,-1 ≤ x ∧ x ≤ 2
 lo : -1 ≤ v
 hi : v ≤ (n.ends.length : Int)
 st : s ≤ 200000
 fu : qG v s < f
theorem Fz {l : List Int} {k : Nat} {y : Int} (h : ∀ x ∈ l,-1 ≤ x ∧ x ≤ 2) (hy : -1 ≤ y ∧ y ≤ 2) : ∀ x ∈ l.set k y,-1 ≤ x ∧ x ≤ 2:=fun x hx => by
 rcases List.mem_or_eq_of_mem_set hx with hx | rfl
 ·exact h x hx
 ·exact hy
theorem FA {n : am} {l : List Int} {v : Int} {s f : Nat} (h : ux n l v s f) (hv : (n.ends.length : Int) ≤ v) : fM n f l v s = some (some l):=by
 obtain ⟨g,rfl⟩ : ∃ g,f = g + 1:=⟨f - 1,by have:=h.fu;omega⟩
 unfold fM
 rw [if_pos (by rw [h.len];exact hv)]
theorem FB {n : am} {l : List Int} {v : Int} {s f : Nat} (h : ux n l v s f) (hl : v < (n.ends.length : Int)) (hv : v < 0) : fM n f l v s = some none:=by
 obtain ⟨g,rfl⟩ : ∃ g,f = g + 1:=⟨f - 1,by have:=h.fu;omega⟩
 unfold fM
 rw [if_neg (by rw [h.len];omega),if_pos hv]
theorem FC {n : am} {l : List Int} {k s f : Nat} (h : ux n l (k : Int) s (f + 1)) (hl : k < n.ends.length) (hx : l[k]? = some 2) : fM n (f + 1) l (k : Int) s = fM n f (l.set k (-1)) ((k : Int) - 1) s ∧ ux n (l.set k (-1)) ((k : Int) - 1) s f:=by
 constructor
 ·conv => lhs;unfold fM
  rw [if_neg (by rw [h.len];omega),if_neg (by omega),Int.toNat_natCast,aH hx,if_pos rfl]
 ·have h1:=h.fu;unfold qG at h1
  exact ⟨by rw [List.length_set];exact h.len,Fz h.rng (by omega),by omega,by omega,h.st,by unfold qG;omega⟩
theorem FD {n : am} {l : List Int} {k f : Nat} {x : Int} (h : ux n l (k : Int) 200000 (f + 1)) (hl : k < n.ends.length) (hx : l[k]? = some x) (h2 : x ≠ 2) : fM n (f + 1) l (k : Int) 200000 = none:=by
 unfold fM
 rw [if_neg (by rw [h.len];omega),if_neg (by omega),Int.toNat_natCast,aH hx,if_neg h2,if_pos rfl]
theorem OW {n : am} {l : List Int} {k s f : Nat} {x : Int} (h : ux n l (k : Int) s (f + 1)) (hl : k < n.ends.length) (hx : l[k]? = some x) (h2 : x ≠ 2) (hs : s ≠ 200000) :
  fM n (f + 1) l (k : Int) s = fM n f (l.set k (x + 1)) (if gK n (l.set k (x + 1)) k then (k : Int) + 1 else (k : Int)) (s + 1) ∧ ux n (l.set k (x + 1)) (if gK n (l.set k (x + 1)) k then (k : Int) + 1 else (k : Int)) (s + 1) f:=by
 have hr:=h.rng x (List.mem_of_getElem? hx);constructor
 ·conv => lhs;unfold fM
  rw [if_neg (by rw [h.len];omega),if_neg (by omega),Int.toNat_natCast,aH hx,if_neg h2,if_neg hs]
 ·have h1:=h.fu;have h3:=h.st;unfold qG at h1
  refine ⟨by rw [List.length_set];exact h.len,Fz h.rng (by omega),?_,?_,by omega,?_⟩
  ·split <;> omega
  ·split <;> omega
  ·unfold qG;split <;> omega
theorem Bj {n : am} : ux n (List.replicate n.ends.length (-1)) 0 0 400002:=⟨by simp,fun x hx => by have:=(List.mem_replicate.1 hx).2;omega,by omega,by omega,by omega,by unfold qG;omega⟩
theorem FE {n : am} {l : List Int} {v : Int} {s f : Nat} (h : ux n l v s f) : ∃ g,f = g + 1:=⟨f - 1,by have:=h.fu;omega⟩
def gL (good : List Int → Nat → Bool) (most lim : Int) : Nat → List Int → Nat → Int → List Int × Int × Int
 | 0,_,_,made => ([],0,made)
 | f + 1,ls,v,made =>
  if v < ls.length then
   if ls.getD v 0 = most then (if v = 0 then ([],2,made) else gL good most lim f (ls.set v (-1)) (v - 1) made)
   else if made = lim then ([],3,made)
   else gL good most lim f (ls.set v (ls.getD v 0 + 1)) (if good (ls.set v (ls.getD v 0 + 1)) v then v + 1 else v) (made + 1)
  else (ls,1,made)
theorem Bk {good : List Int → Nat → Bool} {most lim made : Int} {f v : Nat} {ls : List Int} (h : ¬ v < ls.length) : gL good most lim (f + 1) ls v made = (ls,1,made):=by simp only [gL,if_neg h]
theorem x_ {good : List Int → Nat → Bool} {most lim made : Int} {f : Nat} {ls : List Int} (h : 0 < ls.length) (hm : ls.getD 0 0 = most) : gL good most lim (f + 1) ls 0 made = ([],2,made):=by simp only [gL,if_pos h,if_pos hm,if_pos]
theorem ya {good : List Int → Nat → Bool} {most lim made : Int} {f v : Nat} {ls : List Int} (h : v < ls.length) (hm : ls.getD v 0 = most) (h0 : ¬ v = 0) : gL good most lim (f + 1) ls v made = gL good most lim f (ls.set v (-1)) (v - 1) made:=by simp only [gL,if_pos h,if_pos hm,if_neg h0]
theorem yc {good : List Int → Nat → Bool} {most lim : Int} {f v : Nat} {ls : List Int} (h : v < ls.length) (hm : ¬ ls.getD v 0 = most) : gL good most lim (f + 1) ls v lim = ([],3,lim):=by simp only [gL,if_pos h,if_neg hm,if_pos]
theorem Bl {good : List Int → Nat → Bool} {most lim made : Int} {f v : Nat} {ls : List Int} (h : v < ls.length) (hm : ¬ ls.getD v 0 = most) (hl : ¬ made = lim) : gL good most lim (f + 1) ls v made = gL good most lim f (ls.set v (ls.getD v 0 + 1)) (if good (ls.set v (ls.getD v 0 + 1)) v then v + 1 else v) (made + 1):=by simp only [gL,if_pos h,if_neg hm,if_neg hl]
theorem ny (ls : List Int) (v j : Nat) (x : Int) (hj : j < ls.length) : (ls.set v x).getD j 0 = if v = j then x else ls.getD j 0:=by
 simp only [zDd,List.getElem?_set]
 split
 ·rename_i e;subst e;simp [hj]
 ·rfl
structure St (N : Nat) (most : Int) (ls : List Int) (v : Nat) : Prop where
 len : ls.length = N
 lo : ∀ j,j < v → j < N → 0 ≤ ls.getD j 0 ∧ ls.getD j 0 ≤ most
 at_ : v < N → -1 ≤ ls.getD v 0 ∧ ls.getD v 0 ≤ most
 hi : ∀ j,v < j → j < N → ls.getD j 0 = -1
structure Up (N : Nat) (most : Int) (ls : List Int) (v : Nat) : Prop where
 len : ls.length = N
 lo : ∀ j,j ≤ v → j < N → 0 ≤ ls.getD j 0 ∧ ls.getD j 0 ≤ most
 hi : ∀ j,v < j → j < N → ls.getD j 0 = -1
theorem St.start (N : Nat) (most : Int) (hm : 0 ≤ most) : St N most (List.replicate N (-1)) 0 where
 len:=by simp
 lo:=fun j hj => by omega
 at_:=fun h => by simp [zDd,List.getElem?_replicate,h];omega
 hi:=fun j _ h => by simp [zDd,List.getElem?_replicate,h]
theorem St.back {N : Nat} {most : Int} {ls : List Int} {v : Nat} (h : St N most ls v) (h0 : ¬ v = 0) : St N most (ls.set v (-1)) (v - 1) where
 len:=by simp [h.len]
 lo:=fun j hj hn => by rw [ny _ _ _ _ (by rw [h.len];exact hn),if_neg (by omega)];exact h.lo j (by omega) hn
 at_:=fun hn => by rw [ny _ _ _ _ (by rw [h.len];exact hn),if_neg (by omega)];have:=h.lo (v - 1) (by omega) hn;omega
 hi:=fun j hj hn => by
  rw [ny _ _ _ _ (by rw [h.len];exact hn)]
  split
  ·rfl
  ·exact h.hi j (by omega) hn
theorem St.up {N : Nat} {most : Int} {ls : List Int} {v : Nat} (h : St N most ls v) (hv : v < N) (hm : ¬ ls.getD v 0 = most) : Up N most (ls.set v (ls.getD v 0 + 1)) v where
 len:=by simp [h.len]
 lo:=fun j hj hn => by
  rw [ny _ _ _ _ (by rw [h.len];exact hn)]
  have:=h.at_ hv
  split
  ·omega
  ·exact h.lo j (by omega) hn
 hi:=fun j hj hn => by rw [ny _ _ _ _ (by rw [h.len];exact hn),if_neg (by omega)];exact h.hi j hj hn
theorem Up.stay {N : Nat} {most : Int} {ls : List Int} {v : Nat} (h : Up N most ls v) : St N most ls v where
 len:=h.len
 lo:=fun j hj hn => h.lo j (by omega) hn
 at_:=fun hn => by have:=h.lo v (Nat.le_refl _) hn;omega
 hi:=h.hi
theorem Up.on {N : Nat} {most : Int} {ls : List Int} {v : Nat} (h : Up N most ls v) (hm : 0 ≤ most) : St N most ls (v + 1) where
 len:=h.len
 lo:=fun j hj hn => h.lo j (by omega) hn
 at_:=fun hn => by have:=h.hi (v + 1) (by omega) hn;omega
 hi:=fun j hj hn => h.hi j (by omega) hn
def iW (lim made : Int) (N v : Nat) : Nat:=(lim - made).toNat * (N + 2) + v + 1
theorem yd {lim made : Int} {N v : Nat} (h0 : ¬ v = 0) : iW lim made N (v - 1) + 1 ≤ iW lim made N v:=by unfold iW;omega
theorem jD {lim made : Int} {N v v' : Nat} (h : made ≤ lim) (hl : ¬ made = lim) (hv : v' ≤ v + 1) : iW lim (made + 1) N v' + 1 ≤ iW lim made N v:=by
 unfold iW;have e : (lim - made).toNat = (lim - (made + 1)).toNat + 1:=by omega
 rw [e,Nat.add_mul,Nat.one_mul];omega
def fF (n : am) (w : Int) (v : Nat) : Bool:=decide (w ≤ v) && ((n.ends.getD w.toNat []).map fun e => e.1).all (ee 0 v)
def nz (n : am) (ls : List Int) (w : Int) : Bool:=decide (0 ≤ ls.getD w.toNat 0) && !(aw ls (n.ends.getD w.toNat [])).contains (-1)
def mM (n : am) (v : Nat) : List Int:=((n.ends.getD v []).map fun e => e.1) ++ [(v : Int)]
def eC (n : am) (acc : List Int → Nat → Bool) (ls : List Int) (v : Nat) : Bool:=(mM n v).all fun w => !fF n w v || acc ls w.toNat
theorem Dy {n : am} {most : Int} {ls : List Int} {v : Nat} {w : Int} (hn : an n = true) (h : Up n.ends.length most ls v) (h0 : 0 ≤ w) (h1 : w < n.ends.length) : nz n ls w = fF n w v:=by
 obtain ⟨k,rfl⟩:=Int.eq_ofNat_of_zero_le h0;have hk : k < n.ends.length:=by omega
 obtain ⟨es,cM⟩:=aW n.ends k hk;obtain ⟨-,dC⟩:=df hn cM
 have own : ∀ j : Nat,j < n.ends.length → (0 ≤ ls.getD j 0 ↔ j ≤ v):=fun j hj => by
  constructor
  ·intro hp
   by_cases Zm : j ≤ v
   ·exact Zm
   ·have:=h.hi j (by omega) hj;omega
  ·intro Zm;exact (h.lo j Zm hj).1
 have hg : n.ends.getD k [] = es:=by simp [zDd,cM]
 unfold nz fF
 simp only [Int.toNat_natCast,hg];rw [Bool.eq_iff_iff];simp only [Bool.and_eq_true,decide_eq_true_eq,Bool.not_eq_true',List.all_eq_true,List.mem_map,forall_exists_index,and_imp,forall_apply_eq_imp_iff₂];rw [own k hk];constructor
 ·rintro ⟨a,b⟩;refine ⟨by omega,fun e he => aM.2 ?_⟩
  obtain ⟨i1,i2⟩:=dC e he;refine ⟨i1,?_⟩;have hj : e.1.toNat < n.ends.length:=by omega
  by_cases hv : e.1.toNat ≤ v
  ·omega
  ·have hm:=h.hi e.1.toNat (by omega) hj
   have : (aw ls es).contains (-1) = true:=by rw [List.contains_iff_mem];exact List.mem_map.2 ⟨e,he,hm⟩
   rw [this] at b;cases b
 ·rintro ⟨a,b⟩;refine ⟨by omega,?_⟩;rw [Bool.eq_false_iff];intro hc;rw [List.contains_iff_mem] at hc;obtain ⟨e,he,hm⟩:=List.mem_map.1 hc;obtain ⟨i1,i2⟩:=dC e he
  have:=aM.1 (b e he)
  have:=(own e.1.toNat (by omega)).2 (by omega)
  omega
theorem uy {n : am} {most : Int} {ls : List Int} {v : Nat} {w : Int} (hn : an n = true) (h : Up n.ends.length most ls v) (h0 : 0 ≤ w) (h1 : w < n.ends.length) (hk : fF n w v = true) : ∀ x ∈ ls.getD w.toNat 0 :: aw ls (n.ends.getD w.toNat []),0 ≤ x ∧ x ≤ most:=by
 obtain ⟨k,rfl⟩:=Int.eq_ofNat_of_zero_le h0;have lu : k < n.ends.length:=by omega
 obtain ⟨es,cM⟩:=aW n.ends k lu;obtain ⟨-,dC⟩:=df hn cM;have hg : n.ends.getD k [] = es:=by simp [zDd,cM]
 unfold fF at hk;simp only [Int.toNat_natCast,hg] at hk ⊢
 simp only [Bool.and_eq_true,decide_eq_true_eq,List.all_eq_true,List.mem_map,forall_exists_index,and_imp,forall_apply_eq_imp_iff₂] at hk;intro x hx;rcases List.mem_cons.1 hx with rfl | hx
 ·exact h.lo k (by omega) lu
 ·obtain ⟨e,he,rfl⟩:=List.mem_map.1 hx;obtain ⟨i1,i2⟩:=dC e he
  have:=aM.1 (hk.2 e he)
  exact h.lo e.1.toNat (by omega) (by omega)
theorem FF {n : am} {v : Nat} (hn : an n = true) (hv : v < n.ends.length) : ∀ w ∈ mM n v,0 ≤ w ∧ w < n.ends.length:=by
 intro w hw;obtain ⟨es,cM⟩:=aW n.ends v hv;obtain ⟨-,dC⟩:=df hn cM;have hg : n.ends.getD v [] = es:=by simp [zDd,cM]
 unfold mM at hw;rw [hg] at hw;rcases List.mem_append.1 hw with hw | hw
 ·obtain ⟨e,he,rfl⟩:=List.mem_map.1 hw;exact dC e he
 ·simp at hw;subst hw;omega
theorem uz (n : Int) (w : World) : Calls Tryz.prog 70 #[.int .i64 n] w fun e w' => e = .returned (.bool (ee 0 999999999999 n)) ∧ w = w':=by
 go_enter Tryz.func70,Tryz.ntmps70
 go_wp2_with (go_at_call 71;refine (dV _ _ _ _).mono ?_;rintro e w' ⟨rfl,rfl⟩)
 go_ret;exact ⟨rfl,rfl⟩
theorem GQ (n : Int) (w : World) : Calls Tryz.prog 142 #[.int .i64 n] w fun e w' => e = .returned (.bool (ee 0 999999999999 n)) ∧ w = w':=by
 go_enter Tryz.func142,Tryz.ntmps142
 go_wp2_with (go_at_call 75;refine (iZ _ _ _ _).mono ?_;rintro e w' ⟨rfl,rfl⟩)
 go_ret;exact ⟨rfl,rfl⟩
def aV (s : Int) : List Int:=if s = 4 then [100] else if s = 5 then [100,10,2] else []
theorem mw (s : Int) (w : World) :
  Calls Tryz.prog 180 #[.int .i64 s] w fun e w' => ∃ u,e = .returned u ∧ Own w' w.heap.size u (aV s) ∧ Below w.heap.size w w':=by
 unfold aV
 by_cases h4 : s = 4
 ·subst h4
  go_enter Tryz.func180,Tryz.ntmps180
  go_wp2;go_ret;exact ⟨_,rfl,jk w [100] (by simp [maxLen]),au _ _⟩
 ·by_cases h5 : s = 5
  ·subst h5
   go_enter Tryz.func180,Tryz.ntmps180
   go_wp2;go_ret;exact ⟨_,rfl,jk w [100,10,2] (by simp [maxLen]),au _ _⟩
  ·have h4' : (s == 4) = false:=by simpa using h4
   have rV : (s == 5) = false:=by simpa using h5
   rw [if_neg h4,if_neg h5];clear h4 h5
   go_enter Tryz.func180,Tryz.ntmps180
   go_wp2;go_ret;exact ⟨_,rfl,cH _ _,Below.refl _ _⟩
theorem y6 (s : Int) (w : World) :
  Calls Tryz.prog 111 #[.int .i64 s] w fun e w' => ∃ u,e = .returned u ∧ Own w' w.heap.size u (aV s) ∧ Below w.heap.size w w':=by
 unfold aV
 by_cases h4 : s = 4
 ·subst h4
  go_enter Tryz.func111,Tryz.ntmps111
  go_wp2;go_ret;exact ⟨_,rfl,jk w [100] (by simp [maxLen]),au _ _⟩
 ·by_cases h5 : s = 5
  ·subst h5
   go_enter Tryz.func111,Tryz.ntmps111
   go_wp2;go_ret;exact ⟨_,rfl,jk w [100,10,2] (by simp [maxLen]),au _ _⟩
  ·have h4' : (s == 4) = false:=by simpa using h4
   have rV : (s == 5) = false:=by simpa using h5
   rw [if_neg h4,if_neg h5];clear h4 h5
   go_enter Tryz.func111,Tryz.ntmps111
   go_wp2;go_ret;exact ⟨_,rfl,cH _ _,Below.refl _ _⟩
theorem Own.lit {w : World} {base : Nat} {v : Value} {x : Int} {xs : List Int} (h : Own w base v (x :: xs)) : ∃ g c,v = .slice (some ⟨g,0,none⟩) (xs.length + 1) c ∧ base ≤ g ∧ g < w.heap.size ∧ xs.length + 1 ≤ c ∧ ∀ k y,(x :: xs)[k]? = some y → w.cell? ⟨g,k,none⟩ = some (.int .i64 y):=by
 rcases h.2 with ⟨rfl,h0⟩ | ⟨g,cap,cur,rfl,hb,hg,wN,hm,tC,tD⟩
 ·simp at h0
 ·exact ⟨g,cap,rfl,hb,(Array.getElem?_eq_some_iff.1 hg).1,wN,fun k y hy => Own.cell h hy⟩
theorem Own.lit0 {w : World} {base : Nat} {v : Value} (h : Own w base v []) : ∃ A c,v = .slice A 0 c:=by
 rcases h.2 with ⟨rfl,h0⟩ | ⟨g,cap,cur,rfl,_⟩
 ·exact ⟨_,_,rfl⟩
 ·exact ⟨_,_,rfl⟩
end Go.Proofs.YtgmdpppljkmabaaGreat
