/- Parts of the proof: walks of functions and plain laws. -/
import Derived.Test.YtgmdpppljkmabaaGreatP0
import Derived.Test.YtgmdpppljkmabaaGreatP12
import Derived.Test.YtgmdpppljkmabaaGreatP3
import Derived.Test.YtgmdpppljkmabaaGreatP10
set_option maxRecDepth 100000
set_option maxHeartbeats 16000000
namespace Go.Proofs.YtgmdpppljkmabaaGreat
open Go Go.RowKit
theorem BL {jO : List (List (Int × Int))} {v i : Int} : cg jO v i = true ↔ 0 ≤ v ∧ v < jO.length ∧ 0 ≤ i ∧ i < ((jO.getD v.toNat []).length : Int):=by
 unfold cg;rw [Bool.and_eq_true,aM,aM];omega
structure ZW (n : am) (p q : Int × Int) : Prop where
 ok : an n = true
 hp : cg n.ends p.1 p.2 = true
 hq : cg n.ends q.1 q.2 = true
 n1 : p ≠ q
 n2 : fg n.ends p.1 p.2 ≠ q
 n3 : fg n.ends p.1 p.2 ≠ p
 n4 : fg n.ends q.1 q.2 ≠ q
theorem yr {n : am} : an n = true ↔ (1 ≤ n.ends.length ∧ n.ends.length ≤ 40) ∧ sy n.ids n.ends.length = true ∧ jl n.inputs n.ends.length = true ∧ (∀ k,k < n.ends.length → (n.ends.getD k []).length ≤ 6) ∧
  ∀ v i,cg n.ends v i = true → cg n.ends (fg n.ends v i).1 (fg n.ends v i).2 = true ∧ fg n.ends (fg n.ends v i).1 (fg n.ends v i).2 = (v,i):=by
 constructor
 ·intro h;refine ⟨aN h,?_,?_,?_,fun v i hp => rx h hp⟩
  ·unfold an at h;simp only [Bool.and_eq_true] at h;exact h.1.1.2
  ·unfold an at h;simp only [Bool.and_eq_true] at h;exact h.1.2
  ·intro k hk;obtain ⟨es,cM⟩:=aW n.ends k hk;rw [aH cM];exact (df h cM).1
 ·rintro ⟨h1,h2,h3,h4,h5⟩;unfold an;simp only [Bool.and_eq_true,List.all_eq_true,List.mem_range,aM];refine ⟨⟨⟨by omega,h2⟩,h3⟩,fun k hk => ?_⟩
  unfold fT iF
  simp only [Bool.and_eq_true,List.all_eq_true,List.mem_range,decide_eq_true_eq];refine ⟨h4 k hk,fun i hi => ?_⟩
  have:=h5 (k : Int) (i : Int) (BL.2 ⟨by omega,by omega,by omega,by rw [Int.toNat_natCast];omega⟩)
  unfold fg at this;rw [Int.toNat_natCast,Int.toNat_natCast] at this
  exact ⟨this.1,by unfold zR;exact decide_eq_true this.2⟩
def Km (ls : List Int) (es : List (Int × Int)) : List (Int × Int):=es.map fun e => (lab ls e,e.2)
theorem sJ {k : Nat} {f g : Nat → Bool} (h : ∀ i,i < k → f i = g i) : (List.range k).all f = (List.range k).all g:=by
 rw [Bool.eq_iff_iff,List.all_eq_true,List.all_eq_true]
 exact ⟨fun h1 x hx => by rw [← h x (List.mem_range.1 hx)];exact h1 x hx,fun h1 x hx => by rw [h x (List.mem_range.1 hx)];exact h1 x hx⟩
theorem sK {k : Nat} {f g : Nat → Bool} (h : ∀ i,i < k → f i = g i) : (List.range k).any f = (List.range k).any g:=by
 rw [Bool.eq_iff_iff,List.any_eq_true,List.any_eq_true]
 exact ⟨fun ⟨x,hx,h1⟩ => ⟨x,hx,by rw [← h x (List.mem_range.1 hx)];exact h1⟩,fun ⟨x,hx,h1⟩ => ⟨x,hx,by rw [h x (List.mem_range.1 hx)];exact h1⟩⟩
structure abj (n : am) (ls : List Int) (p q : Int × Int) : Prop extends ZW n p q where
 s2 : p.2 = q.2
 t2 : (fg n.ends p.1 p.2).2 = (fg n.ends q.1 q.2).2
 s1 : lab ls p = lab ls q
 t1 : lab ls (fg n.ends p.1 p.2) = lab ls (fg n.ends q.1 q.2)
def Tc (n : am) (acc : List Int → Nat → Bool) (most : Int) (l : List Int) : Prop:=∀ v,v < n.ends.length → (0 ≤ l.getD v 0 ∧ l.getD v 0 ≤ most) ∧ acc l v = true
def qS (n : am) (acc : List Int → Nat → Bool) : Prop:=∀ l t v,v < n.ends.length → l.getD v 0 = t.getD v 0 → (∀ e ∈ n.ends.getD v [],l.getD e.1.toNat 0 = t.getD e.1.toNat 0) → acc l v = acc t v
theorem yt {n : am} (hn : an n = true) {a v : Nat} (_ : a < n.ends.length) : fF n (a : Int) v = true ↔ a ≤ v ∧ ∀ e ∈ n.ends.getD a [],e.1.toNat ≤ v:=by
 unfold fF;rw [Bool.and_eq_true,decide_eq_true_eq,List.all_eq_true,Int.toNat_natCast];constructor
 ·rintro ⟨h1,h2⟩;refine ⟨by omega,fun e he => ?_⟩
  have:=aM.1 (h2 e.1 (List.mem_map.2 ⟨e,he,rfl⟩))
  omega
 ·rintro ⟨h1,h2⟩;refine ⟨by omega,fun x hx => ?_⟩
  obtain ⟨e,he,rfl⟩:=List.mem_map.1 hx;have h3:=h2 e he;have h4:=et hn he;exact aM.2 (by omega)
theorem uU {n : am} {v : Nat} {w : Int} : w ∈ mM n v ↔ (∃ e ∈ n.ends.getD v [],e.1 = w) ∨ w = (v : Int):=by
 unfold mM;rw [List.mem_append,List.mem_map,List.mem_singleton]
structure oN (n : am) (acc : List Int → Nat → Bool) (most : Int) (l : List Int) (v : Nat) : Prop where
 st : St n.ends.length most l v
 good : ∀ a,a < n.ends.length → a < v → (∀ e ∈ n.ends.getD a [],e.1.toNat < v) → acc l a = true
theorem oN.start (n : am) (acc : List Int → Nat → Bool) (most : Int) (hm : 0 ≤ most) : oN n acc most (List.replicate n.ends.length (-1)) 0:=⟨St.start _ _ hm,fun a _ ha => by omega⟩
theorem oN.back {n : am} {acc : List Int → Nat → Bool} (hl : qS n acc) {most : Int} {l : List Int} {v : Nat} (h : oN n acc most l v) (h0 : v ≠ 0) : oN n acc most (l.set v (-1)) (v - 1):=by
 refine ⟨h.st.back h0,fun a s_ ha he => ?_⟩
 rw [hl (l.set v (-1)) l a s_ (getD_set_ne (by omega)) (fun e hm => getD_set_ne (by have:=he e hm;omega))]
 exact h.good a s_ (by omega) fun e hm => by have:=he e hm;omega
theorem oN.stay {n : am} {acc : List Int → Nat → Bool} (hl : qS n acc) {most : Int} {l : List Int} {v : Nat} (h : oN n acc most l v) (hv : v < n.ends.length) (hm : l.getD v 0 ≠ most) : oN n acc most (l.set v (l.getD v 0 + 1)) v:=by
 refine ⟨(h.st.up hv hm).stay,fun a s_ ha he => ?_⟩
 rw [hl _ l a s_ (getD_set_ne (by omega)) (fun e hm => getD_set_ne (by have:=he e hm;omega))]
 exact h.good a s_ ha he
theorem oN.on {n : am} (hn : an n = true) {acc : List Int → Nat → Bool} (hl : qS n acc) {most : Int} (kW : 0 ≤ most) {l : List Int} {v : Nat} (h : oN n acc most l v) (hv : v < n.ends.length) (hm : l.getD v 0 ≠ most) (hg : eC n acc (l.set v (l.getD v 0 + 1)) v = true) : oN n acc most (l.set v (l.getD v 0 + 1)) (v + 1):=by
 refine ⟨(h.st.up hv hm).on kW,fun a s_ ha he => ?_⟩
 unfold eC at hg;rw [List.all_eq_true] at hg
 have n8 : (a : Int) ∈ mM n v → acc (l.set v (l.getD v 0 + 1)) a = true:=fun jy => by
  have:=hg _ jy
  rw [(yt hn s_).2 ⟨by omega,fun e hm => by have:=he e hm;omega⟩,Int.toNat_natCast] at this
  simpa using this
 by_cases e1 : a = v
 ·exact n8 (uU.2 (.inr (by rw [e1])))
 ·by_cases e2 : ∃ e ∈ n.ends.getD a [],e.1.toNat = v
  ·obtain ⟨e,hm,h1⟩:=e2;obtain ⟨f,hf,h2,-,-⟩:=lV hn hm;rw [h1] at hf
   have:=et hn hf
   exact n8 (uU.2 (.inl ⟨f,hf,by omega⟩))
  ·rw [hl _ l a s_ (getD_set_ne e1) (fun e hm => getD_set_ne (fun h => e2 ⟨e,hm,h⟩))]
   exact h.good a s_ (by omega) fun e hm => by have:=he e hm;have : e.1.toNat ≠ v:=fun h => e2 ⟨e,hm,h⟩;omega
theorem Np {n : am} (hn : an n = true) {acc : List Int → Nat → Bool} (hl : qS n acc) {most : Int} {l t : List Int} {v : Nat} (ht : Tc n acc most t) (_ : v < n.ends.length) (h : ∀ j,j ≤ v → t.getD j 0 = l.getD j 0) : eC n acc l v = true:=by
 unfold eC;rw [List.all_eq_true];intro w hw
 obtain ⟨a,rfl,s_⟩ : ∃ a : Nat,w = (a : Int) ∧ a < n.ends.length:=by
  rcases uU.1 hw with ⟨e,he,rfl⟩ | rfl
  ·have:=et hn he
   exact ⟨e.1.toNat,by omega,by omega⟩
  ·exact ⟨v,rfl,by assumption⟩
 cases hk : fF n (a : Int) v
 ·rfl
 ·obtain ⟨h1,h2⟩:=(yt hn s_).1 hk;rw [Int.toNat_natCast,hl l t a s_ (h a h1).symm (fun e he => (h _ (h2 e he)).symm),(ht a s_).2]
  rfl
theorem qT {n : am} (hn : an n = true) {acc : List Int → Nat → Bool} (hl : qS n acc) {most lim : Int} (kW : 0 ≤ most) (t : List Int) (ht : Tc n acc most t) : ∀ (f : Nat) (l : List Int) (v : Nat) (made : Int),oN n acc most l v → v ≤ n.ends.length → gT n.ends.length l t v → (gL (eC n acc) most lim f l v made).2.1 ≠ 2 ∧ ((gL (eC n acc) most lim f l v made).2.1 = 1 → gT n.ends.length (gL (eC n acc) most lim f l v made).1 t n.ends.length)
 | 0,l,v,made,_,_,_ => by simp [gL]
 | f + 1,l,v,made,h,hv,hL => by
  have hlen:=h.st.len;unfold gL
  by_cases h1 : v < l.length
  ·rw [if_pos h1];have iY : v < n.ends.length:=by omega
   by_cases h2 : l.getD v 0 = most
   ·rw [if_pos h2]
    obtain ⟨h0,ZN⟩:=hL.back iY (by rw [h2];exact (ht v iY).1.2)
    rw [if_neg h0];exact qT hn hl kW t ht f _ _ made (h.back hl h0) (by omega) ZN
   ·rw [if_neg h2]
    by_cases h3 : made = lim
    ·rw [if_pos h3];simp
    ·rw [if_neg h3];cases hg : eC n acc (l.set v (l.getD v 0 + 1)) v
     ·rw [if_neg (by simp)];refine qT hn hl kW t ht f _ _ _ (h.stay hl iY h2) hv ?_;rcases hL.go iY hlen with h4 | h4
      ·exact h4
      ·rw [Np hn hl ht iY h4] at hg;cases hg
     ·rw [if_pos rfl];refine qT hn hl kW t ht f _ _ _ (h.on hn hl kW iY h2 hg) (by omega) ?_;rcases hL.go iY hlen with h4 | h4
      ·exact h4.up iY
      ·refine gT.same h4 fun hlt => ?_
       have mB:=h.st.up iY h2;have h6:=mB.hi (v + 1) (by omega) hlt;have h7:=(ht (v + 1) hlt).1.1;omega
  ·rw [if_neg h1];refine ⟨by simp,fun _ => ?_⟩
   obtain rfl : v = n.ends.length:=by omega
   exact hL
theorem qU {n : am} (hn : an n = true) {acc : List Int → Nat → Bool} (hl : qS n acc) {most lim : Int} (kW : 0 ≤ most) : ∀ (f : Nat) (l : List Int) (v : Nat) (made : Int),oN n acc most l v → v ≤ n.ends.length → (gL (eC n acc) most lim f l v made).2.1 = 1 → Tc n acc most (gL (eC n acc) most lim f l v made).1 ∧ (gL (eC n acc) most lim f l v made).1.length = n.ends.length
 | 0,l,v,made,_,_,hr => by simp [gL] at hr
 | f + 1,l,v,made,h,hv,hr => by
  have hlen:=h.st.len
  unfold gL at hr ⊢
  by_cases h1 : v < l.length
  ·rw [if_pos h1] at hr ⊢;have iY : v < n.ends.length:=by omega
   by_cases h2 : l.getD v 0 = most
   ·rw [if_pos h2] at hr ⊢
    by_cases h0 : v = 0
    ·rw [if_pos h0] at hr;simp at hr
    ·rw [if_neg h0] at hr ⊢;exact qU hn hl kW f _ _ made (h.back hl h0) (by omega) hr
   ·rw [if_neg h2] at hr ⊢
    by_cases h3 : made = lim
    ·rw [if_pos h3] at hr;simp at hr
    ·rw [if_neg h3] at hr ⊢;cases hg : eC n acc (l.set v (l.getD v 0 + 1)) v
     ·rw [hg,if_neg (by simp)] at hr;rw [if_neg (by simp)];exact qU hn hl kW f _ _ _ (h.stay hl iY h2) hv hr
     ·rw [hg,if_pos rfl] at hr;rw [if_pos rfl];exact qU hn hl kW f _ _ _ (h.on hn hl kW iY h2 hg) (by omega) hr
  ·rw [if_neg h1] at hr ⊢;refine ⟨fun a ha => ⟨h.st.lo a (by omega) ha,h.good a ha (by omega) fun e he => ?_⟩,hlen⟩
   obtain ⟨-,-,-,GK,-⟩:=lV hn he;omega
theorem H5 (n : am) (s : Int) : qS n (fun ls w => fi n s ls w):=by
 intro l t v _ h0 h1
 have e0 : ∀ i,i < (n.ends.getD v []).length → lab l ((n.ends.getD v []).getD i (0,0)) = lab t ((n.ends.getD v []).getD i (0,0)):=fun i hi => by
  have : (n.ends.getD v []).getD i (0,0) = (n.ends.getD v [])[i]:=by rw [zDd,List.getElem?_eq_getElem hi];rfl
  rw [this];exact h1 _ (List.getElem_mem hi)
 have e1 : Km l (n.ends.getD v []) = Km t (n.ends.getD v []):=by
  unfold Km;refine List.map_congr_left fun e he => ?_
  show (lab l e,e.2) = (lab t e,e.2)
  have : lab l e = lab t e:=h1 e he
  rw [this]
 have e2 : aw l (n.ends.getD v []) = aw t (n.ends.getD v []):=by
  unfold aw;exact List.map_congr_left fun e he => h1 e he
 show fi n s l v = fi n s t v
 unfold fi fU iX jF nC nB
 rw [h0,e2]
 have e3 : fN l (t.getD v 0) (n.ends.getD v []) (n.ends.getD v []).length = fN t (t.getD v 0) (n.ends.getD v []) (n.ends.getD v []).length:=by
  have : ∀ j,j ≤ (n.ends.getD v []).length → fN l (t.getD v 0) (n.ends.getD v []) j = fN t (t.getD v 0) (n.ends.getD v []) j:=by
   intro j hj
   induction j with
   | zero => rfl
   | succ j ih => unfold fN;rw [ih (by omega),e0 j (by omega)]
  exact this _ (Nat.le_refl _)
 rw [e3];have e4 : ∀ (F : Int → Nat → Bool),((List.range (n.ends.getD v []).length).all fun i => F (lab l ((n.ends.getD v []).getD i (0,0))) i) = (List.range (n.ends.getD v []).length).all fun i => F (lab t ((n.ends.getD v []).getD i (0,0))) i:=fun F => sJ fun i hi => by rw [e0 i hi]
 have e5 : ∀ (F : Int → Nat → Bool),((List.range (n.ends.getD v []).length).any fun i => F (lab l ((n.ends.getD v []).getD i (0,0))) i) = (List.range (n.ends.getD v []).length).any fun i => F (lab t ((n.ends.getD v []).getD i (0,0))) i:=fun F => sK fun i hi => by rw [e0 i hi]
 congr 1
 congr 1
 congr 1
 have f1:=e4 fun x _ => x / 100 == t.getD v 0 / 100
 have f2:=e5 fun x _ => x % 100 == t.getD v 0 % 100 - 1
 have f3:=e4 fun x _ => r9 x == r9 (t.getD v 0)
 have f4:=e5 fun x i => ((i : Int) == rm (t.getD v 0)) && (jS x == jS (t.getD v 0) - 1)
 rw [f1,f2,f3,f4]
def cY (n : am) (s : Int) (ls : List Int) : Prop:=∀ v,v < n.ends.length → fi n s ls v = true
theorem gA {n : am} {s : Int} {ls : List Int} : eL n s ls = true ↔ an n = true ∧ (1 ≤ s ∧ s ≤ 5) ∧ ls.length = n.ends.length ∧ ∀ x ∈ ls,0 ≤ x ∧ x ≤ 999999999999:=by
 unfold eL;rw [Bool.and_eq_true,Bool.and_eq_true,Bool.and_eq_true,aM,beq_iff_eq];constructor
 ·rintro ⟨⟨⟨h1,h2⟩,h3⟩,h4⟩
  exact ⟨h1,h2,by omega,fun x hx => by
   unfold qK at h4
   have:=List.all_eq_true.1 h4 x hx
   exact aM.1 this⟩
 ·rintro ⟨h1,h2,h3,h4⟩;refine ⟨⟨⟨h1,h2⟩,by omega⟩,?_⟩
  unfold qK;exact List.all_eq_true.2 fun x hx => aM.2 (h4 x hx)
theorem FT {n : am} {s : Int} {ls : List Int} (h : eL n s ls = true) {v : Nat} (hv : v < n.ends.length) : 0 ≤ ls.getD v 0 ∧ ls.getD v 0 ≤ 999999999999:=by
 obtain ⟨-,-,h3,h4⟩:=gA.1 h;rw [zDd,List.getElem?_eq_getElem (by omega)];exact h4 _ (List.getElem_mem _)
theorem Kn {n : am} {ls : List Int} {v w : Nat} (h : (w : Int) ∈ eJ n (v : Int)) : ls.getD w 0 ∈ aw ls (n.ends.getD v []):=by
 obtain ⟨j,q,h1⟩:=mp.1 h;refine nH.2 ⟨_,List.mem_of_getElem? h1,by simp⟩
theorem Nq {n : am} (hn : an n = true) {r : Nat} (hr : r < n.ends.length) (P : Nat → Prop) (h0 : P r) (hs : ∀ a b,a < n.ends.length → b < n.ends.length → (b : Int) ∈ eJ n (a : Int) → P a → P b) {w : Nat} (h : fH n r w) : P w:=by
 induction h with
 | refl => exact h0
 | step h1 h2 ih => exact hs _ _ (lv hn hr h1) (lv hn hr (h1.step h2)) h2 ih
theorem Nr {n : am} {ls : List Int} (hl : eL n 1 ls = true) (h : cY n 1 ls) : pH n = true:=by
 have hn:=(gA.1 hl).1
 have BA : ∀ v,v < n.ends.length → (0 ≤ ls.getD v 0 ∧ ls.getD v 0 ≤ 1) ∧ ∀ w : Nat,(w : Int) ∈ eJ n (v : Int) → ls.getD w 0 = 1 - ls.getD v 0:=fun v hv => by
  have h1:=h v hv
  unfold fi fU at h1
  rw [if_pos rfl,Bool.and_eq_true,decide_eq_true_eq,Bool.not_eq_true',List.any_eq_false] at h1;refine ⟨⟨(FT hl hv).1,h1.1⟩,fun w hw => ?_⟩
  have:=h1.2 _ (Kn hw)
  simpa using this
 rw [x9 hn,List.all_eq_true];intro v hv;have iY:=List.mem_range.1 hv;rw [Bool.not_eq_true',List.any_eq_false];intro x hx hc;have wE:=pA hn (cur:=(v : Int)) (by omega) x hx;obtain ⟨w,rfl⟩:=Int.eq_ofNat_of_zero_le wE.1;have sd : w < n.ends.length:=by omega
 unfold uw at hc;rw [Int.toNat_natCast,fL sd] at hc;have hc:=eq_of_beq hc;unfold gS at hc;have I4 : al n v = al n w:=fK hn iY (fH.refl.step hx);rw [← I4] at hc;have hr:=cK hn iY;have hd:=ox hn hr
 have n8 : ∀ (f x : Nat),fH n (al n v) x → ((dM n (al n v)).getD x 0).toNat ≤ f → ls.getD x 0 % 2 = (ls.getD (al n v) 0 + (dM n (al n v)).getD x 0) % 2:=by
  intro f
  induction f with
  | zero =>
   intro x hx hf
   by_cases e : x = al n v
   ·subst e;have:=hd.zero;rw [this];simp
   ·obtain ⟨y,h1,h2,h3⟩:=hd.par x hx e
    have:=hd.pos y h1
    have:=hd.pos x hx
    omega
  | succ f ih =>
   intro x hx hf
   by_cases e : x = al n v
   ·subst e;have:=hd.zero;rw [this];simp
   ·obtain ⟨y,h1,h2,h3⟩:=hd.par x hx e;have h4:=hd.pos y h1;have h5:=ih y h1 (by omega);have h6:=(BA y (lv hn hr h1)).2 x h2;omega
 have h1:=(bK hn iY).1.symm hn iY;have h2:=n8 _ v h1 (Nat.le_refl _);have h3:=n8 _ w (h1.step hx) (Nat.le_refl _);have h4:=(BA v iY).2 w hx;omega
theorem H6 {n : am} {ls : List Int} (hl : eL n 2 ls = true) (h : cY n 2 ls) : SY n ls:=by
 intro v hv;have h1:=h v hv
 unfold fi fU at h1
 rw [if_neg (by decide),if_pos rfl,Bool.and_eq_true,decide_eq_true_eq,Bool.not_eq_true'] at h1;refine ⟨⟨(FT hl hv).1,h1.1⟩,fun e he hc => ?_⟩
 have h2:=h1.2;unfold jP at h2;rw [List.contains_eq_mem,decide_eq_false_iff_not] at h2;exact h2 (nH.2 ⟨e,he,hc⟩)
theorem H7 {n : am} (hn : an n = true) (h0 : n.ids.length ≠ 0) {a b : Nat} (ha : a < n.ends.length) (hb : b < n.ends.length) (h : n.ids.getD a 0 = n.ids.getD b 0) : a = b:=by
 have hi:=(yr.1 hn).2.1;rw [← sS] at hi;unfold nm at hi;rw [Bool.and_eq_true,List.all_eq_true,Bool.or_eq_true,beq_iff_eq,beq_iff_eq] at hi;have hl : n.ids.length = n.ends.length:=by omega
 have hnd : n.ids.Nodup:=(rX n.ids).1 fun i wu => by
  have:=hi.1 i (List.mem_range.2 wu)
  rw [Bool.and_eq_true,Bool.not_eq_true',List.contains_eq_mem,decide_eq_false_iff_not,fD wu] at this;exact this.2
 rw [fD (by omega),fD (by omega)] at h;rcases Nat.lt_trichotomy a b with c | c | c
 ·exact absurd h (List.pairwise_iff_getElem.1 hnd a b (by omega) (by omega) c)
 ·exact c
 ·exact absurd h.symm (List.pairwise_iff_getElem.1 hnd b a (by omega) (by omega) c)
theorem getD_in {α : Type} {l : List α} {i : Nat} {d : α} (h : i < l.length) : l.getD i d ∈ l ∧ l[i]? = some (l.getD i d):=by
 have e : l.getD i d = l[i]:=by rw [zDd,List.getElem?_eq_getElem h];rfl
 rw [e];exact ⟨List.getElem_mem h,List.getElem?_eq_getElem h⟩
theorem mE {n : am} {v w : Nat} : (w : Int) ∈ eJ n (v : Int) ↔ ∃ i,i < (n.ends.getD v []).length ∧ ((n.ends.getD v []).getD i (0,0)).1 = (w : Int):=by
 constructor
 ·intro h;obtain ⟨j,q,h1⟩:=mp.1 h
  exact ⟨j,aq h1,by rw [zDd,h1];rfl⟩
 ·rintro ⟨i,h1,h2⟩;refine mp.2 ⟨i,((n.ends.getD v []).getD i (0,0)).2,?_⟩;rw [← h2];exact (getD_in h1).2
structure nI (n : am) (I D : Nat → Int) : Prop where
 same : ∀ v w : Nat,v < n.ends.length → (w : Int) ∈ eJ n (v : Int) → I w = I v
 zero : ∀ v,v < n.ends.length → D v = 0 → n.ids.getD v 0 = I v
 near : ∀ v,v < n.ends.length → 0 < D v → ∃ w : Nat,(w : Int) ∈ eJ n (v : Int) ∧ D w = D v - 1
 pos : ∀ v,v < n.ends.length → 0 ≤ D v
theorem nI.root {n : am} (hn : an n = true) {I D : Nat → Int} (h : nI n I D) : ∀ (f v : Nat),v < n.ends.length → (D v).toNat ≤ f → ∃ r,r < n.ends.length ∧ fH n v r ∧ D r = 0
 | f,v,hv,hf => by
  have h0:=h.pos v hv
  by_cases e : D v = 0
  ·exact ⟨v,hv,fH.refl,e⟩
  ·obtain ⟨w,h1,h2⟩:=h.near v hv (by omega);have hw : w < n.ends.length:=lv hn hv (fH.refl.step h1)
   cases f with
   | zero => omega
   | succ f =>
    obtain ⟨r,h3,h4,h5⟩:=h.root hn f w hw (by omega);exact ⟨r,h3,(fH.refl.step h1).trans h4,h5⟩
theorem nI.ids {n : am} (hn : an n = true) {I D : Nat → Int} (h : nI n I D) {v w : Nat} (hv : v < n.ends.length) (hr : fH n v w) : I w = I v:=
 Nq hn hv (fun x => I x = I v) rfl (fun a b ha _ pt ih => (h.same a b ha pt).trans ih) hr
theorem nI.one {n : am} (hn : an n = true) (h0 : n.ids.length ≠ 0) {I D : Nat → Int} (h : nI n I D) {a b : Nat} (ha : a < n.ends.length) (hb : b < n.ends.length) (hr : fH n a b) (da : D a = 0) (db : D b = 0) : a = b:=
 H7 hn h0 ha hb (by rw [h.zero a ha da,h.zero b hb db,h.ids hn ha hr])
theorem BM {n : am} {ls : List Int} (hl : eL n 4 ls = true) (h : cY n 4 ls) : n.ids.length ≠ 0 ∧ nI n (fun v => ls.getD v 0 / 100) (fun v => ls.getD v 0 % 100) ∧ ∀ v,v < n.ends.length → (n.inputs.getD v 0 = 1 ↔ ls.getD v 0 % 100 = 0):=by
 have hn:=(gA.1 hl).1;have hN:=(aN hn).1
 have hu : ∀ v,v < n.ends.length → n.ids.length ≠ 0 ∧ iX (n.ids.getD v 0) (n.inputs.getD v 0) ls (ls.getD v 0) (n.ends.getD v []) = true:=fun v hv => by
  have h1:=h v hv
  unfold fi fU at h1
  rw [if_neg (by decide),if_neg (by decide),if_neg (by decide),if_pos rfl,Bool.and_eq_true,decide_eq_true_eq] at h1;exact h1
 have wU : ∀ v,v < n.ends.length → (∀ w : Nat,(w : Int) ∈ eJ n (v : Int) → ls.getD w 0 / 100 = ls.getD v 0 / 100) ∧ ((ls.getD v 0 % 100 = 0 ∧ n.ids.getD v 0 = ls.getD v 0 / 100 ∧ n.inputs.getD v 0 = 1) ∨ (0 < ls.getD v 0 % 100 ∧ n.inputs.getD v 0 ≠ 1 ∧ ∃ w : Nat,(w : Int) ∈ eJ n (v : Int) ∧ ls.getD w 0 % 100 = ls.getD v 0 % 100 - 1)):=fun v hv => by
  have h1:=(hu v hv).2;unfold iX at h1;rw [Bool.and_eq_true,List.all_eq_true,Bool.or_eq_true] at h1;refine ⟨fun w hw => ?_,?_⟩
  ·obtain ⟨i,h2,h3⟩:=mE.1 hw
   have:=eq_of_beq (h1.1 i (List.mem_range.2 h2))
   unfold lab at this;rw [h3,Int.toNat_natCast] at this;exact this
  ·rcases h1.2 with h2 | h2
   ·rw [Bool.and_eq_true,Bool.and_eq_true] at h2;exact .inl ⟨eq_of_beq h2.1.1,eq_of_beq h2.1.2,eq_of_beq h2.2⟩
   ·rw [Bool.and_eq_true,Bool.and_eq_true,decide_eq_true_eq,List.any_eq_true,bne_iff_ne] at h2;obtain ⟨⟨a,b⟩,i,hi,c⟩:=h2;have hi:=List.mem_range.1 hi;have jy : (n.ends.getD v []).getD i (0,0) ∈ n.ends.getD v []:=(getD_in hi).1;have hr:=et hn jy;refine .inr ⟨a,b,((n.ends.getD v []).getD i (0,0)).1.toNat,mE.2 ⟨i,hi,by omega⟩,eq_of_beq c⟩
 refine ⟨(hu 0 (by omega)).1,⟨fun v w hv hw => (wU v hv).1 w hw,fun v hv hz => ?_,fun v hv hp => ?_,fun v hv => by show 0 ≤ _ % _;omega⟩,fun v hv => ?_⟩
 ·rcases (wU v hv).2 with a | a
  ·exact a.2.1
  ·have:=a.1;have hz : ls.getD v 0 % 100 = 0:=hz;omega
 ·rcases (wU v hv).2 with a | a
  ·have:=a.1;have hp : 0 < ls.getD v 0 % 100:=hp;omega
  ·exact a.2.2
 ·rcases (wU v hv).2 with a | a
  ·exact ⟨fun _ => a.1,fun _ => a.2.2⟩
  ·exact ⟨fun e => absurd e a.2.1,fun e => by omega⟩
theorem DY {p : Nat → Bool} {N r : Nat} (hr : r < N) (h : ∀ w,w < N → (p w = true ↔ w = r)) : ((List.range N).filter p).length = 1:=by
 have e : (List.range N).filter p = (List.range N).filter (fun w => w == r):=List.filter_congr fun w hw => by
  rw [Bool.eq_iff_iff,h w (List.mem_range.1 hw),beq_iff_eq]
 rw [e,← List.countP_eq_length_filter];have h2 : (List.range N).count r = 1:=by rw [List.Nodup.count List.nodup_range,if_pos (List.mem_range.2 hr)]
 rw [← h2];rfl
theorem Ko {n : am} {ls : List Int} (hl : eL n 4 ls = true) (h : cY n 4 ls) : n.ids.length ≠ 0 ∧ fZ n = true:=by
 have hn:=(gA.1 hl).1;obtain ⟨h0,hI,dC⟩:=BM hl h;refine ⟨h0,?_⟩;unfold fZ;rw [List.all_eq_true];intro v hv;have iY:=List.mem_range.1 hv;obtain ⟨r,hr,h1,h2⟩:=hI.root hn _ v iY (Nat.le_refl _)
 unfold js mz en
 rw [beq_iff_eq];refine DY hr fun w hw => ?_
 unfold mP;rw [Bool.and_eq_true,decide_eq_true_eq,decide_eq_true_eq,dC w hw];constructor
 ·rintro ⟨a,b⟩
  have I4 : fH n w v:=by
   have a1:=(bK hn hw).1;have a2:=(bK hn iY).1.symm hn iY;rw [a] at a1;exact a1.trans a2
  exact hI.one hn h0 hw hr (I4.trans h1) b h2
 ·rintro rfl;exact ⟨(fK hn iY h1).symm,h2⟩
structure UO (n : am) (ls : List Int) (v : Nat) : Prop where
 ids : n.ids.length ≠ 0
 same : ∀ w : Nat,(w : Int) ∈ eJ n (v : Int) → r9 (ls.getD w 0) = r9 (ls.getD v 0)
 sum : sE (ls.getD v 0) = fN ls (ls.getD v 0) (n.ends.getD v []) (n.ends.getD v []).length % 2
 cases_ : (jS (ls.getD v 0) = 0 ∧ rm (ls.getD v 0) = 9 ∧ n.ids.getD v 0 = r9 (ls.getD v 0) ∧ sE (ls.getD v 0) = 0) ∨ (0 < jS (ls.getD v 0) ∧ ∃ (i : Nat),i < (n.ends.getD v []).length ∧ (i : Int) = rm (ls.getD v 0) ∧ jS (lab ls ((n.ends.getD v []).getD i (0,0))) = jS (ls.getD v 0) - 1)
theorem pP {n : am} {ls : List Int} (h : cY n 5 ls) {v : Nat} (hv : v < n.ends.length) : UO n ls v:=by
 have h1:=h v hv
 unfold fi fU at h1
 rw [if_neg (by decide),if_neg (by decide),if_neg (by decide),if_neg (by decide),Bool.and_eq_true,decide_eq_true_eq] at h1;obtain ⟨h0,h1⟩:=h1
 unfold jF nC nB at h1
 rw [Bool.and_eq_true,Bool.and_eq_true,List.all_eq_true,Bool.or_eq_true,beq_iff_eq] at h1;obtain ⟨⟨h1,h2⟩,h3⟩:=h1;refine ⟨h0,fun w hw => ?_,h2,?_⟩
 ·obtain ⟨i,h4,h5⟩:=mE.1 hw
  have:=eq_of_beq (h1 i (List.mem_range.2 h4))
  unfold lab at this;rw [h5,Int.toNat_natCast] at this;exact this
 ·rcases h3 with h4 | h4
  ·rw [Bool.and_eq_true,Bool.and_eq_true,Bool.and_eq_true] at h4;exact .inl ⟨eq_of_beq h4.1.1.1,eq_of_beq h4.1.1.2,eq_of_beq h4.1.2,eq_of_beq h4.2⟩
  ·rw [Bool.and_eq_true,decide_eq_true_eq,List.any_eq_true] at h4;obtain ⟨a,i,hi,c⟩:=h4;rw [Bool.and_eq_true] at c;exact .inr ⟨a,i,List.mem_range.1 hi,eq_of_beq c.1,eq_of_beq c.2⟩
theorem H8 (x : Int) : 0 ≤ jS x ∧ jS x < 100:=by unfold jS;omega
theorem H9 {n : am} {ls : List Int} (hn : an n = true) (h : cY n 5 ls) : nI n (fun v => r9 (ls.getD v 0)) (fun v => jS (ls.getD v 0)):=by
 refine ⟨fun v w hv hw => (pP h hv).same w hw,fun v hv hz => ?_,fun v hv hp => ?_,fun v _ => (H8 _).1⟩
 ·have hz : jS (ls.getD v 0) = 0:=hz;rcases (pP h hv).cases_ with a | a
  ·exact a.2.2.1
  ·have:=a.1;omega
 ·have hp : 0 < jS (ls.getD v 0):=hp;rcases (pP h hv).cases_ with a | ⟨-,i,h1,h2,h3⟩
  ·have:=a.1;omega
  ·have hr:=et hn (getD_in (d:=(0,0)) h1).1;exact ⟨((n.ends.getD v []).getD i (0,0)).1.toNat,mE.2 ⟨i,h1,by omega⟩,h3⟩
def eO (ls : List Int) (v : Nat) : Int:=jS (ls.getD v 0)
def gU (n : am) (ls : List Int) (v : Nat) : Option Nat:=if jS (ls.getD v 0) = 0 then none else some (eE n v (rm (ls.getD v 0)))
theorem uV {n : am} {ls : List Int} (hn : an n = true) (h : cY n 5 ls) {v p : Nat} (hv : v < n.ends.length) (hp : gU n ls v = some p) : ∃ i : Nat,i < (n.ends.getD v []).length ∧ (i : Int) = rm (ls.getD v 0) ∧ ((n.ends.getD v []).getD i (0,0)).1 = (p : Int) ∧ eO ls p + 1 = eO ls v ∧ p < n.ends.length:=by
 unfold gU at hp
 split at hp
 ·cases hp
 ·rename_i fS
  rcases (pP h hv).cases_ with a | ⟨-,i,h1,h2,h3⟩
  ·exact absurd a.1 fS
  ·have hr:=et hn (getD_in (d:=(0,0)) h1).1;unfold eE at hp;rw [← h2,Int.toNat_natCast] at hp;have hp:=Option.some.inj hp;refine ⟨i,h1,h2,by omega,?_,by omega⟩
   unfold eO;unfold lab at h3;rw [hp] at h3;omega
theorem BO {n : am} {ls : List Int} (hn : an n = true) (h : cY n 5 ls) : Tr n.ends.length (eO ls) (gU n ls):=by
 refine ⟨fun v p hv hp => ?_,fun v _ => (H8 _).1⟩
 obtain ⟨i,-,-,-,h4,h5⟩:=uV hn h hv hp;exact ⟨h5,h4⟩
def mR (n : am) (ls : List Int) (v i : Nat) : Bool:=lU (ls.getD v 0) ((n.ends.getD v []).getD i (0,0)) (lab ls ((n.ends.getD v []).getD i (0,0)))
def aP (n : am) (v i : Nat) : Nat:=((n.ends.getD v []).getD i (0,0)).1.toNat
theorem gV {n : am} (hn : an n = true) {v i : Nat} (hi : i < (n.ends.getD v []).length) : aP n v i < n.ends.length ∧ v < n.ends.length ∧ ((n.ends.getD v []).getD i (0,0)).1 = (aP n v i : Int) ∧ ∃ j : Nat,((n.ends.getD v []).getD i (0,0)).2 = (j : Int) ∧ j < (n.ends.getD (aP n v i) []).length ∧ (n.ends.getD (aP n v i) []).getD j (0,0) = ((v : Int),(i : Int)):=by
 obtain ⟨a,b,c,d,e⟩:=dD hn (v:=v) (i:=i) (getD_in (d:=(0,0)) hi).2
 refine ⟨by unfold aP;omega,a,by unfold aP;omega,_,(Int.toNat_of_nonneg d).symm,aq e,?_⟩
 unfold bU at e;unfold aP;rw [zDd (i:=((n.ends.getD v []).getD i (0,0)).2.toNat),e]
 rfl
theorem td {n : am} {ls : List Int} (hn : an n = true) (h : cY n 5 ls) {v i : Nat} (hi : i < (n.ends.getD v []).length) (hk : mR n ls v i = true) : gU n ls (aP n v i) = some v ∧ eO ls (aP n v i) = eO ls v + 1:=by
 unfold mR lU at hk
 rw [Bool.and_eq_true,beq_iff_eq,beq_iff_eq] at hk;obtain ⟨h1,h2,h3,j,h4,h5,h6⟩:=gV hn hi;have e : lab ls ((n.ends.getD v []).getD i (0,0)) = ls.getD (aP n v i) 0:=rfl;rw [e] at hk;have sR:=(H8 (ls.getD v 0)).1;have hd : eO ls (aP n v i) = eO ls v + 1:=hk.2;refine ⟨?_,hd⟩;unfold gU;rw [if_neg (by omega),← hk.1,h4];unfold eE;rw [Int.toNat_natCast,h6];simp
theorem QI {n : am} {ls : List Int} (hn : an n = true) (h : cY n 5 ls) {v c : Nat} (hc : c < n.ends.length) (hp : gU n ls c = some v) : ∃ i,i < (n.ends.getD v []).length ∧ mR n ls v i = true ∧ aP n v i = c:=by
 obtain ⟨q,h1,h2,h3,h4,h5⟩:=uV hn h hc hp;obtain ⟨g1,g2,g3,j,g4,g5,g6⟩:=gV hn h1;have e : aP n c q = v:=by omega
 rw [e] at g5 g6
 refine ⟨j,g5,?_,by unfold aP;rw [g6];simp⟩
 unfold mR lU lab
 rw [g6,Bool.and_eq_true,beq_iff_eq,beq_iff_eq];simp only [Int.toNat_natCast];refine ⟨h2,?_⟩;unfold eO at h4;omega
theorem Ns {n : am} {ls : List Int} (hn : an n = true) {v i j : Nat} (hi : i < (n.ends.getD v []).length) (hj : j < (n.ends.getD v []).length) (ki : mR n ls v i = true) (kj : mR n ls v j = true) (he : aP n v i = aP n v j) : i = j:=by
 obtain ⟨-,-,-,a,a4,a5,a6⟩:=gV hn hi;obtain ⟨-,-,-,b,b4,b5,b6⟩:=gV hn hj
 unfold mR lU at ki kj
 rw [Bool.and_eq_true,beq_iff_eq,beq_iff_eq] at ki kj;have e1 : lab ls ((n.ends.getD v []).getD i (0,0)) = ls.getD (aP n v i) 0:=rfl;have e2 : lab ls ((n.ends.getD v []).getD j (0,0)) = ls.getD (aP n v j) 0:=rfl;rw [e1,a4] at ki;rw [e2,b4,← he] at kj;have pt : a = b:=by omega
 subst pt;rw [← he] at b6;rw [a6] at b6
 have:=congrArg Prod.snd b6
 simp only at this
 omega
def fc (n : am) (ls : List Int) (v j w : Nat) : Bool:=(List.range j).any fun i => mR n ls v i && rI (eO ls) (gU n ls) w (aP n v i)
theorem Kp {n : am} {ls : List Int} (hn : an n = true) (h : cY n 5 ls) {v : Nat} (hv : v < n.ends.length) (ih : ∀ c,c < n.ends.length → gU n ls c = some v → sE (ls.getD c 0) = ((lA n.ends.length (eO ls) (gU n ls) c : Nat) : Int) % 2) :
  ∀ j,j ≤ (n.ends.getD v []).length → fN ls (ls.getD v 0) (n.ends.getD v []) j % 2 = (1 + (((List.range n.ends.length).countP (fc n ls v j) : Nat) : Int)) % 2
 | 0,_ => by
  have : (List.range n.ends.length).countP (fc n ls v 0) = 0:=List.countP_eq_zero.2 fun w _ => by simp [fc]
  rw [this];simp [fN]
 | j + 1,hj => by
  have h0:=Kp hn h hv ih j (by omega);have hT:=BO hn h;unfold fN
  have fI : ∀ w,fc n ls v (j + 1) w = (fc n ls v j w || (mR n ls v j && rI (eO ls) (gU n ls) w (aP n v j))):=fun w => by
   unfold fc;rw [List.range_succ,List.any_append];simp
  have wG : j < (n.ends.getD v []).length:=by omega
  by_cases hk : mR n ls v j = true
  ·have mL:=hk;unfold mR at mL;rw [if_pos mL];obtain ⟨k1,k2⟩:=td hn h wG hk;have hc:=(gV hn wG).1;have h1:=ih _ hc k1;have e : lab ls ((n.ends.getD v []).getD j (0,0)) = ls.getD (aP n v j) 0:=rfl;rw [e,h1]
   have h2 : (List.range n.ends.length).countP (fc n ls v (j + 1)) = (List.range n.ends.length).countP (fc n ls v j) + lA n.ends.length (eO ls) (gU n ls) (aP n v j):=by
    unfold lA;refine ko (fun w _ => by rw [fI,hk,Bool.true_and]) fun w hw hb => ?_
    have sd:=List.mem_range.1 hw;rw [Bool.eq_false_iff];intro ha;unfold fc at hb;rw [List.any_eq_true] at hb;obtain ⟨i,hi,hb⟩:=hb;have hi:=List.mem_range.1 hi;rw [Bool.and_eq_true] at hb;obtain ⟨-,q2⟩:=td hn h (i:=i) (by omega) hb.1
    have:=s9 hT _ w _ _ sd (Nat.le_refl _) hb.2 ha (by omega)
    have:=Ns hn (by omega) wG hb.1 hk this
    omega
   rw [h2];omega
  ·have mL:=hk;unfold mR at mL;rw [if_neg mL]
   have h2 : (List.range n.ends.length).countP (fc n ls v (j + 1)) = (List.range n.ends.length).countP (fc n ls v j):=List.countP_congr fun w _ => by
    rw [fI,Bool.eq_false_iff.2 hk];simp
   rw [h2,Int.add_zero];exact h0
theorem QJ {n : am} {ls : List Int} (hn : an n = true) (h : cY n 5 ls) {v : Nat} (hv : v < n.ends.length) : lA n.ends.length (eO ls) (gU n ls) v = 1 + (List.range n.ends.length).countP (fc n ls v (n.ends.getD v []).length):=by
 have hT:=BO hn h;unfold lA
 have h1 : (List.range n.ends.length).countP (fun w => w == v) = 1:=by
  have h2 : (List.range n.ends.length).count v = 1:=by rw [List.Nodup.count List.nodup_range,if_pos (List.mem_range.2 hv)]
  rw [← h2];rfl
 have h2:=ko (p:=fun w => w == v) (q:=fc n ls v (n.ends.getD v []).length) (r:=fun w => rI (eO ls) (gU n ls) w v) (l:=List.range n.ends.length) (fun w hw => ?_) (fun w hw hb => ?_)
 ·rw [h2,h1]
 ·have sd:=List.mem_range.1 hw;rw [Bool.eq_iff_iff,Bool.or_eq_true,beq_iff_eq];constructor
  ·intro ha
   by_cases e : w = v
   ·exact .inl e
   ·obtain ⟨c,hc,c1,c2⟩:=ow hT _ w v sd (Nat.le_refl _) ha e;obtain ⟨i,i1,i2,i3⟩:=QI hn h hc c1
    right
    unfold fc;rw [List.any_eq_true]
    exact ⟨i,List.mem_range.2 i1,by rw [i2,i3,c2];rfl⟩
  ·rintro (rfl | hb)
   ·exact jG hT sd
   ·unfold fc at hb;rw [List.any_eq_true] at hb;obtain ⟨i,hi,hb⟩:=hb;rw [Bool.and_eq_true] at hb;exact zj hT _ w _ v sd (Nat.le_refl _) hb.2 (td hn h (List.mem_range.1 hi) hb.1).1
 ·have e:=eq_of_beq hb;subst e;rw [Bool.eq_false_iff];intro hb;unfold fc at hb;rw [List.any_eq_true] at hb;obtain ⟨i,hi,hb⟩:=hb;rw [Bool.and_eq_true] at hb;have h3:=(td hn h (List.mem_range.1 hi) hb.1).2;have h4:=(ou hT _ w _ hv (Nat.le_refl _) hb.2).2;rcases h4 with h4 | h4
  ·rw [h4] at h3;omega
  ·omega
theorem yu {n : am} {ls : List Int} (hn : an n = true) (h : cY n 5 ls) : ∀ (f v : Nat),v < n.ends.length → (100 - eO ls v).toNat ≤ f → sE (ls.getD v 0) = ((lA n.ends.length (eO ls) (gU n ls) v : Nat) : Int) % 2
 | f,v,hv,hf => by
  have hb:=H8 (ls.getD v 0);have hd : eO ls v = jS (ls.getD v 0):=rfl
  cases f with
  | zero => omega
  | succ f =>
   have ih : ∀ c,c < n.ends.length → gU n ls c = some v → sE (ls.getD c 0) = ((lA n.ends.length (eO ls) (gU n ls) c : Nat) : Int) % 2:=fun c hc hp => by
    obtain ⟨i,-,-,-,h4,-⟩:=uV hn h hc hp;exact yu hn h f c hc (by omega)
   have h1:=Kp hn h hv ih _ (Nat.le_refl _);rw [(pP h hv).sum,h1,QJ hn h hv];congr 1
theorem te {n : am} {ls : List Int} (hn : an n = true) (h : cY n 5 ls) : ∀ (f w x : Nat),w < n.ends.length → (eO ls w).toNat ≤ f → rI (eO ls) (gU n ls) w x = true → fH n w x
 | f,w,x,hw,hf,ha => by
  have hT:=BO hn h;rw [jV hT hw,Bool.or_eq_true] at ha;rcases ha with ha | ha
  ·rw [eq_of_beq ha];exact fH.refl
  ·cases hp : gU n ls w with
   | none => rw [hp] at ha;simp at ha
   | some y =>
    rw [hp] at ha;obtain ⟨i,h1,h2,h3,h4,h5⟩:=uV hn h hw hp;have h6:=(H8 (ls.getD y 0)).1;have hd : eO ls y = jS (ls.getD y 0):=rfl
    cases f with
    | zero => omega
    | succ f => exact (fH.refl.step (mE.2 ⟨i,h1,h3⟩)).trans (te hn h f y x h5 (by omega) ha)
theorem uW {n : am} {ls : List Int} (hn : an n = true) (h : cY n 5 ls) : ∀ (f w : Nat),w < n.ends.length → (eO ls w).toNat ≤ f → ∃ r,r < n.ends.length ∧ eO ls r = 0 ∧ rI (eO ls) (gU n ls) w r = true
 | f,w,hw,hf => by
  have hT:=BO hn h
  by_cases e : eO ls w = 0
  ·exact ⟨w,hw,e,jG hT hw⟩
  ·have hp : gU n ls w = some (eE n w (rm (ls.getD w 0))):=if_neg e;obtain ⟨i,h1,h2,h3,h4,h5⟩:=uV hn h hw hp;have h6:=(H8 (ls.getD (eE n w (rm (ls.getD w 0))) 0)).1;have hd : eO ls (eE n w (rm (ls.getD w 0))) = jS (ls.getD (eE n w (rm (ls.getD w 0))) 0):=rfl
   cases f with
   | zero => omega
   | succ f =>
    obtain ⟨r,r1,r2,r3⟩:=uW hn h f _ h5 (by omega);refine ⟨r,r1,r2,?_⟩;rw [jV hT hw,hp,Bool.or_eq_true];exact .inr r3
theorem Kq {n : am} {ls : List Int} (hl : eL n 5 ls = true) (h : cY n 5 ls) : n.ids.length ≠ 0 ∧ kc n = true:=by
 have hn:=(gA.1 hl).1;have hN:=(aN hn).1;have h0:=(pP h (v:=0) (by omega)).ids;refine ⟨h0,?_⟩;have hI:=H9 hn h;have hT:=BO hn h;unfold kc;rw [List.all_eq_true];intro v hv;have iY:=List.mem_range.1 hv;obtain ⟨r,hr,r0,hra⟩:=uW hn h _ v iY (Nat.le_refl _);have hvr:=te hn h _ v r iY (Nat.le_refl _) hra
 have hz : sE (ls.getD r 0) = 0:=by
  rcases (pP h hr).cases_ with a | a
  ·exact a.2.2.2
  ·have:=a.1;have : eO ls r = jS (ls.getD r 0):=rfl;omega
 rw [yu hn h _ r hr (Nat.le_refl _)] at hz
 have hs : lA n.ends.length (eO ls) (gU n ls) r = li n (al n v):=by
  unfold lA li jU
  rw [← List.countP_eq_length_filter];refine List.countP_congr fun w hw => ?_
  have sd:=List.mem_range.1 hw;rw [decide_eq_true_eq];constructor
  ·intro ha
   have:=te hn h _ w r sd (Nat.le_refl _) ha
   rw [fK hn sd this,← fK hn iY hvr]
  ·intro he;obtain ⟨q,q1,q2,q3⟩:=uW hn h _ w sd (Nat.le_refl _);have UP:=te hn h _ w q sd (Nat.le_refl _) q3
   have hwv : fH n w v:=by
    have a1:=(bK hn sd).1;have a2:=(bK hn iY).1.symm hn iY;rw [he] at a1;exact a1.trans a2
   have:=hI.one hn h0 q1 hr ((UP.symm hn sd).trans (hwv.trans hvr)) q2 r0
   rw [← this];exact q3
 rw [hs] at hz;unfold nD;rw [Bool.not_eq_true',beq_eq_false_iff_ne];omega
theorem nJ {n : am} {v i : Nat} {f : Int × Int} (h : bU n v i f) : i < (n.ends.getD v []).length ∧ (n.ends.getD v []).getD i (0,0) = f ∧ aP n v i = f.1.toNat:=by
 unfold bU at h
 have e : (n.ends.getD v []).getD i (0,0) = f:=by rw [zDd,h];rfl
 exact ⟨aq h,e,by unfold aP;rw [e]⟩
structure UQ (n : am) (ls : List Int) (v : Nat) : Prop where
 zero : ls.getD v 0 = 0 → ∀ i,i < (n.ends.getD v []).length → ls.getD (aP n v i) 0 = 1
 one : ls.getD v 0 ≠ 0 → ∃ i,i < (n.ends.getD v []).length ∧ ls.getD (aP n v i) 0 = ls.getD v 0 - 1 ∧ ∀ j,j < (n.ends.getD v []).length → j ≠ i → ls.getD (aP n v j) 0 = ls.getD v 0 + 1
theorem qV (ls : List Int) (es : List (Int × Int)) : (aw ls es).length = es.length:=by simp [aw]
theorem tf {ls : List Int} {n : am} {v i : Nat} (hi : i < (n.ends.getD v []).length) : (aw ls (n.ends.getD v []))[i]? = some (ls.getD (aP n v i) 0):=by
 unfold aw;rw [List.getElem?_map,(getD_in (d:=(0,0)) hi).2];rfl
theorem yv {p : Int → Bool} {xs : List Int} (h : xs.countP p = xs.length) {i : Nat} {x : Int} (hx : xs[i]? = some x) : p x = true:=List.countP_eq_length.1 h x (List.mem_of_getElem? hx)
theorem uX {p q : Int → Bool} (xj : ∀ x,p x = true → q x = false) : ∀ {xs : List Int},xs.countP p = 1 → ((xs.countP q : Nat) : Int) = (xs.length : Int) - 1 → ∃ (i : Nat) (x : Int),xs[i]? = some x ∧ p x = true ∧ ∀ (j : Nat) (y : Int),xs[j]? = some y → j ≠ i → q y = true
 | [],h,_ => by simp at h
 | a :: xs,h1,h2 => by
  rw [List.countP_cons] at h1 h2;cases ha : p a
  ·rw [ha] at h1
   have X6 : q a = true:=by
    cases hq : q a
    ·exfalso
     rw [hq] at h2;have h3:=List.countP_le_length (p:=q) (l:=xs)
     have h4 : xs.countP q + xs.countP p ≤ xs.length:=by
      have : ∀ (l : List Int),l.countP q + l.countP p ≤ l.length:=by
       intro l
       induction l with
       | nil => simp
       | cons b l ih =>
        rw [List.countP_cons,List.countP_cons,List.length_cons];cases hb : p b
        ·cases q b <;> simp <;> omega
        ·rw [xj b hb];simp;omega
      exact this xs
     simp at h1 h2
     omega
    ·rfl
   rw [X6] at h2;simp at h1 h2
   obtain ⟨i,x,g1,g2,g3⟩:=uX xj h1 (by omega);refine ⟨i + 1,x,by simpa using g1,g2,fun j y hj fS => ?_⟩
   cases j with
   | zero => simp at hj;subst hj;exact X6
   | succ j => exact g3 j y (by simpa using hj) (by omega)
  ·have X6:=xj a ha;rw [ha] at h1;rw [X6] at h2;simp at h1 h2
   refine ⟨0,a,by simp,ha,fun j y hj fS => ?_⟩
   cases j with
   | zero => omega
   | succ j => exact yv (by omega) (by simpa using hj : xs[j]? = some y)
theorem Kr {n : am} {ls : List Int} (h : cY n 3 ls) {v : Nat} (hv : v < n.ends.length) : UQ n ls v:=by
 have h1:=h v hv
 unfold fi fU at h1
 rw [if_neg (by decide),if_neg (by decide),if_pos rfl] at h1;unfold uG at h1;refine ⟨fun h0 i hi => ?_,fun h0 => ?_⟩
 ·rw [if_pos h0,beq_iff_eq] at h1
  have:=yv h1 (tf hi)
  have:=eq_of_beq this
  omega
 ·rw [if_neg h0,Bool.and_eq_true,beq_iff_eq,beq_iff_eq] at h1
  obtain ⟨i,x,g1,g2,g3⟩:=uX (fun x hx => by have:=eq_of_beq hx;rw [beq_eq_false_iff_ne];omega) h1.1 h1.2
  have hi:=aq g1;rw [qV] at hi;rw [tf hi] at g1;have g1:=Option.some.inj g1
  refine ⟨i,hi,by rw [g1];exact eq_of_beq g2,fun j hj fS => ?_⟩
  exact eq_of_beq (g3 j _ (tf hj) fS)
def zm (n : am) (ls : List Int) (v i : Nat) : Prop:=i < (n.ends.getD v []).length ∧ ls.getD (aP n v i) 0 = ls.getD v 0 - 1
theorem FU {n : am} {ls : List Int} (h : cY n 3 ls) {v i j : Nat} (hv : v < n.ends.length) (hi : zm n ls v i) (hj : zm n ls v j) : i = j:=by
 have ha:=Kr h hv
 by_cases e : ls.getD v 0 = 0
 ·have:=ha.zero e i hi.1;have:=hi.2;omega
 ·obtain ⟨k,k1,k2,k3⟩:=ha.one e
  by_cases e1 : i = k
  ·by_cases e2 : j = k
   ·omega
   ·have:=k3 j hj.1 e2;have:=hj.2;omega
  ·have:=k3 i hi.1 e1;have:=hi.2;omega
theorem zn {n : am} {ls : List Int} (h : cY n 3 ls) {v i : Nat} (hv : v < n.ends.length) (hi : i < (n.ends.getD v []).length) : ls.getD (aP n v i) 0 = ls.getD v 0 - 1 ∨ ls.getD (aP n v i) 0 = ls.getD v 0 + 1:=by
 have ha:=Kr h hv
 by_cases e : ls.getD v 0 = 0
 ·right;have:=ha.zero e i hi;omega
 ·obtain ⟨k,k1,k2,k3⟩:=ha.one e
  by_cases e1 : i = k
  ·left;rw [e1];exact k2
  ·right;exact k3 i hi e1
inductive QK (n : am) (ls : List Int) (w : Nat) : Nat → Prop
 | self : QK n ls w w
 | up {x i : Nat} : QK n ls w (aP n x i) → x < n.ends.length → zm n ls x i → QK n ls w x
theorem QK.ge {n : am} {ls : List Int} {w x : Nat} (h : QK n ls w x) : ls.getD w 0 ≤ ls.getD x 0 ∧ (x ≠ w → ls.getD w 0 < ls.getD x 0):=by
 induction h with
 | self => exact ⟨Int.le_refl _,fun e => absurd rfl e⟩
 | up h1 _ h2 ih => have:=h2.2;exact ⟨by omega,fun _ => by omega⟩
theorem DZ {n : am} {ls : List Int} (hl : eL n 3 ls = true) (h : cY n 3 ls) : xg n = true:=by
 have hn:=(gA.1 hl).1;unfold xg;rw [Bool.and_eq_true,decide_eq_true_eq];constructor
 ·rw [Nl hn];unfold Kg;rw [Bool.not_eq_true',List.any_eq_false];intro v hv hc;have iY:=List.mem_range.1 hv;rw [List.any_eq_true] at hc;obtain ⟨i,hi,hc⟩:=hc;have hi:=List.mem_range.1 hi;have hc:=of_decide_eq_true hc
  have e : aP n v i = v:=by
   unfold aP;unfold FO at hc
   rw [hc];simp
  rcases zn h iY hi with a | a <;> rw [e] at a <;> omega
 ·rw [um hn]
  have n8 : ∀ (w i : Nat) (f : Int × Int),bU n w i f → zm n ls w i → ¬ fH (jb n (fY w i f)) w f.1.toNat:=by
   intro w i f hp hf hr;obtain ⟨p1,p2,p3⟩:=nJ hp;obtain ⟨q1,q2,q3,q4,q5⟩:=dD hn hp
   have hu : QK n ls w f.1.toNat:=by
    have : ∀ x,fH (jb n (fY w i f)) w x → QK n ls w x ∧ x < n.ends.length:=by
     intro x hx
     induction hx with
     | refl => exact ⟨.self,q1⟩
     | step h1 h2 ih =>
      rename_i a b
      obtain ⟨j,g,hg,e⟩:=iI.1 h2;obtain ⟨j',f',x7,lu,-,rfl⟩:=(lR hn _).1 hg;obtain ⟨r1,r2,r3⟩:=nJ x7;obtain ⟨s1,s2,s3,s4,s5⟩:=dD hn x7;have e : f'.1 = (b : Int):=e;have eb : aP n a j' = b:=by omega
      refine ⟨?_,by omega⟩
      rcases zn h ih.2 r1 with d | d
      ·-- one down
       cases ih.1 with
       | self =>
        exfalso
        have:=FU h q1 hf ⟨r1,d⟩
        subst this;unfold fY at lu;simp at lu
       | up h3 h4 h5 =>
        rename_i k
        have:=FU h ih.2 h5 ⟨r1,d⟩
        subst this;rw [eb] at h3;exact h3
      ·-- one up
       obtain ⟨t1,t2,t3⟩:=nJ s5
       have ef : aP n b f'.2.toNat = a:=by
        have : b = f'.1.toNat:=by omega
        rw [this,t3];simp
       refine .up (i:=f'.2.toNat) (by rw [ef];exact ih.1) (by omega) ⟨(show b = f'.1.toNat by omega) ▸ t1,?_⟩
       rw [ef];rw [eb] at d;omega
    exact (this _ hr).1
   have h1:=hu.ge.1;have h2:=hf.2;rw [p3] at h2;omega
  intro v i f hp hr;obtain ⟨p1,p2,p3⟩:=nJ hp;obtain ⟨q1,q2,q3,q4,q5⟩:=dD hn hp;rcases zn h q1 p1 with d | d
  ·exact n8 v i f hp ⟨p1,d⟩ hr
  ·obtain ⟨t1,t2,t3⟩:=nJ q5
   have ef : aP n f.1.toNat f.2.toNat = v:=by rw [t3];simp
   have FV : fY f.1.toNat f.2.toNat ((v : Int),(i : Int)) = fY v i f:=by
    funext x j
    unfold fY;simp only [Int.toNat_natCast];rw [Bool.or_comm]
   have Ks:=y4 hn (fY v i f) (nw hn hp);have hlen : (jb n (fY v i f)).ends.length = n.ends.length:=by simp [jb]
   have mN:=hr.symm Ks (by rw [hlen];exact q1)
   rw [← FV] at mN;refine n8 f.1.toNat f.2.toNat _ q5 ⟨t1,?_⟩ (by simpa using mN);rw [ef];rw [p3] at d;omega
theorem Nt {n : am} (hn : an n = true) (h : pH n = true) : cY n 1 (pG n):=by
 intro v hv
 unfold fi fU
 rw [if_pos rfl,Bool.and_eq_true,decide_eq_true_eq,Bool.not_eq_true',List.any_eq_false,fL hv]
 have h2 : ∀ x,0 ≤ gS n x ∧ gS n x ≤ 1:=fun x => by unfold gS;omega
 refine ⟨(h2 v).2,fun x hx => ?_⟩
 obtain ⟨e,he,rfl⟩:=nH.1 hx;have hr:=et hn he;rw [fL (by omega)];rw [x9 hn,List.all_eq_true] at h;have h3:=h v (List.mem_range.2 hv);rw [Bool.not_eq_true',List.any_eq_false] at h3;have h4:=h3 _ (kG he hr.2.1);unfold uw at h4;rw [Int.toNat_natCast,fL (by omega)] at h4
 have h5 : gS n v ≠ gS n e.1.toNat:=fun e => h4 (by rw [e];simp)
 have:=h2 v
 have:=h2 e.1.toNat
 rw [bne_iff_ne,Decidable.not_not];omega
theorem H_ {n : am} {l : List Int} (h : SY n l) : cY n 2 l:=by
 intro v hv;obtain ⟨h1,h2⟩:=h v hv
 unfold fi fU
 rw [if_neg (by decide),if_pos rfl,Bool.and_eq_true,decide_eq_true_eq,Bool.not_eq_true'];refine ⟨h1.2,?_⟩;unfold jP;rw [List.contains_eq_mem,decide_eq_false_iff_not];intro hm;obtain ⟨e,he,hc⟩:=nH.1 hm;exact h2 e he hc
theorem rL {n : am} (hn : an n = true) (h0 : n.ids.length ≠ 0) : n.ids.length = n.ends.length ∧ ∀ v,v < n.ends.length → 1 ≤ n.ids.getD v 0 ∧ n.ids.getD v 0 ≤ 999999:=by
 have hi:=(yr.1 hn).2.1;rw [← sS] at hi;unfold nm at hi;rw [Bool.and_eq_true,List.all_eq_true,Bool.or_eq_true,beq_iff_eq,beq_iff_eq] at hi;have hl : n.ids.length = n.ends.length:=by omega
 refine ⟨hl,fun v hv => ?_⟩
 have:=hi.1 v (List.mem_range.2 (by omega))
 rw [Bool.and_eq_true] at this;exact aM.1 this.1
theorem Kt {n : am} (hn : an n = true) {r v : Nat} (hr : r < n.ends.length) (FN : fH n r v) (fS : v ≠ r) : 0 < aK n r v ∧ ∃ w : Nat,(w : Int) ∈ eJ n (v : Int) ∧ aK n r w = aK n r v - 1:=by
 have hd:=ox hn hr;obtain ⟨y,h1,h2,h3⟩:=hd.par v FN fS;have h4:=hd.pos y h1;have h3' : aK n r y + 1 = aK n r v:=h3;have h4' : 0 ≤ aK n r y:=h4;exact ⟨by omega,y,sT hn (lv hn hr h1) h2,by omega⟩
theorem uY {n : am} (hn : an n = true) {r : Nat} (hr : r < n.ends.length) : aK n r r = 0:=(ox hn hr).zero
theorem nK {n : am} (hn : an n = true) {r v : Nat} (hr : r < n.ends.length) (hv : v < n.ends.length) : -1 ≤ aK n r v ∧ aK n r v < n.ends.length:=by
 have:=(y5 hn hr hv)
 unfold aK;omega
theorem lX {n : am} {f : Nat → Int} {v : Nat} (hv : v < n.ends.length) : ((List.range n.ends.length).map f).getD v 0 = f v:=by
 rw [zDd,List.getElem?_map,List.getElem?_range hv];rfl
theorem oz {n : am} (hn : an n = true) (h : fZ n = true) {v : Nat} (hv : v < n.ends.length) : ∃ r : Nat,iK n v = (r : Int) ∧ r < n.ends.length ∧ al n r = al n v ∧ n.inputs.getD r 0 = 1 ∧ (∀ w,w < n.ends.length → al n w = al n v → n.inputs.getD w 0 = 1 → w = r) ∧ fH n r v:=by
 have h1:=List.all_eq_true.1 h v (List.mem_range.2 hv);unfold js at h1;have h1:=eq_of_beq h1
 unfold iK yk
 unfold mz at h1
 cases ho : en n (al n v) n.ends.length with
 | nil => rw [ho] at h1;simp at h1
 | cons r l =>
  rw [ho] at h1;have hl : l = []:=by simpa using h1
  subst hl
  have hm : ∀ w,w ∈ en n (al n v) n.ends.length ↔ w < n.ends.length ∧ al n w = al n v ∧ n.inputs.getD w 0 = 1:=fun w => by
   unfold en mP
   rw [List.mem_filter,List.mem_range,Bool.and_eq_true,decide_eq_true_eq,decide_eq_true_eq]
  have hr:=(hm r).1 (by rw [ho];simp)
  refine ⟨r,rfl,hr.1,hr.2.1,hr.2.2,fun w a b c => ?_,?_⟩
  ·have:=(hm w).2 ⟨a,b,c⟩
   rw [ho] at this;simpa using this
  ·have a1:=(bK hn hr.1).1;have a2:=(bK hn hv).1.symm hn hv;rw [hr.2.1] at a1;exact a1.trans a2
theorem BP {n : am} {v w : Nat} (h : al n v = al n w) : iK n v = iK n w:=by unfold iK;rw [h]
theorem Ku {n : am} (hn : an n = true) (h0 : n.ids.length ≠ 0) (h : fZ n = true) : cY n 4 ((List.range n.ends.length).map (nG n)):=by
 have hN:=aN hn;intro v hv;obtain ⟨r,hr,rp,ZX,UR,hru,FN⟩:=oz hn h hv;have hid:=rL hn h0
 have xk : ∀ w,w < n.ends.length → al n w = al n v → ((List.range n.ends.length).map (nG n)).getD w 0 = n.ids.getD r 0 * 100 + aK n r w ∧ 0 ≤ aK n r w ∧ aK n r w < 100:=fun w hw he => by
  rw [lX hw];unfold nG;rw [BP he,hr,Int.toNat_natCast]
  have iQ : fH n r w:=by
   have a1:=(bK hn hv).1;have a2:=(bK hn hw).1.symm hn hw;rw [he] at a2;exact FN.trans (a1.trans a2)
  have:=(rJ hn rp hw).2 iQ
  have:=nK hn rp hw
  exact ⟨rfl,by omega,by omega⟩
 obtain ⟨l1,l2,l3⟩:=xk v hv rfl
 unfold fi fU
 rw [if_neg (by decide),if_neg (by decide),if_neg (by decide),if_pos rfl,Bool.and_eq_true,decide_eq_true_eq];refine ⟨h0,?_⟩;rw [l1];unfold iX;rw [Bool.and_eq_true,List.all_eq_true,Bool.or_eq_true]
 have O9 : ∀ i,i < (n.ends.getD v []).length → lab ((List.range n.ends.length).map (nG n)) ((n.ends.getD v []).getD i (0,0)) = n.ids.getD r 0 * 100 + aK n r (aP n v i) ∧ 0 ≤ aK n r (aP n v i) ∧ aK n r (aP n v i) < 100:=fun i hi => by
  have jy:=(getD_in (d:=(0,0)) hi).1;have dG:=et hn jy
  exact xk (aP n v i) (by unfold aP;omega) (fK hn hv (fH.refl.step (kG jy dG.2.1))).symm
 refine ⟨fun i hi => ?_,?_⟩
 ·obtain ⟨a,b,c⟩:=O9 i (List.mem_range.1 hi);rw [a,beq_iff_eq];omega
 ·by_cases e : v = r
  ·left
   subst e;rw [uY hn rp,Bool.and_eq_true,Bool.and_eq_true,beq_iff_eq,beq_iff_eq,beq_iff_eq];exact ⟨⟨by omega,by omega⟩,UR⟩
  ·right
   obtain ⟨n1,w,n2,n3⟩:=Kt hn rp FN e;rw [Bool.and_eq_true,Bool.and_eq_true,decide_eq_true_eq,bne_iff_ne,List.any_eq_true];refine ⟨⟨by omega,fun hi => e (hru v hv rfl hi)⟩,?_⟩
   obtain ⟨i,hi,hw⟩:=mE.1 n2;refine ⟨i,List.mem_range.2 hi,?_⟩;obtain ⟨a,b,c⟩:=O9 i hi
   have ef : aP n v i = w:=by unfold aP;rw [hw];simp
   rw [a,beq_iff_eq];rw [ef] at b c ⊢;omega
theorem FW {n : am} (hn : an n = true) {keep : Nat → Nat → Bool} {a j : Nat} {f : Int × Int} (hp : bU n a j f) (hk : keep a j = true) : ((f.1.toNat : Nat) : Int) ∈ eJ (jb n keep) (a : Int):=by
 have h1:=(lR hn keep (v:=a) (m:=kC keep a j)).2 ⟨j,f,hp,hk,rfl,rfl⟩;have h2:=dD hn hp;refine iI.2 ⟨_,_,h1,?_⟩;show f.1 = _
 omega
theorem FX (n : am) (keep : Nat → Nat → Bool) : (jb n keep).ends.length = n.ends.length:=by simp [jb]
theorem D4 {n : am} (hn : an n = true) {keep : Nat → Nat → Bool} {r : Nat} (hr : r < n.ends.length) (K : Int) (hk : ∀ (y j x : Nat) (f : Int × Int),bU n y j f → f.1.toNat = x → aK n r x ≤ K → aK n r y + 1 = aK n r x → keep y j = true) :
  ∀ (g x : Nat),fH n r x → aK n r x ≤ K → (aK n r x).toNat ≤ g → fH (jb n keep) r x
 | g,x,hx,hK,hg => by
  have hd:=ox hn hr
  by_cases e : x = r
  ·subst e;exact fH.refl
  ·obtain ⟨y,h1,h2,h3⟩:=hd.par x hx e;have h3 : aK n r y + 1 = aK n r x:=h3;have h4 : 0 ≤ aK n r y:=hd.pos y h1
   cases g with
   | zero => omega
   | succ g =>
    have ih:=D4 hn hr K hk g y h1 (by omega) (by omega);obtain ⟨j,f,hp,hf⟩:=iI.1 h2
    have:=FW hn hp (hk y j x f hp (by omega) hK h3)
    rw [show f.1.toNat = x by omega] at this
    exact ih.step this
theorem u_ {p : Int → Bool} : ∀ {xs : List Int} {i : Nat} {x : Int},xs[i]? = some x → p x = true → (∀ (j : Nat) (y : Int),xs[j]? = some y → p y = true → j = i) → xs.countP p = 1
 | [],i,x,h,_,_ => by simp at h
 | a :: xs,i,x,h,hp,hu => by
  rw [List.countP_cons]
  cases i with
  | zero =>
   simp at h
   subst h;rw [hp]
   have : xs.countP p = 0:=List.countP_eq_zero.2 fun y hy XG => by
    obtain ⟨j,hj⟩:=List.getElem?_of_mem hy
    have:=hu (j + 1) y (by simpa using hj) XG
    omega
   simp [this]
  | succ i =>
   have ha : p a = false:=by
    rw [Bool.eq_false_iff];intro hpa
    have:=hu 0 a (by simp) hpa
    omega
   rw [ha]
   have:=u_ (xs:=xs) (i:=i) (x:=x) (by simpa using h) hp fun j y hj XG => by
    have:=hu (j + 1) y (by simpa using hj) XG
    omega
   simp [this]
theorem vb {p q : Int → Bool} : ∀ {xs : List Int},(∀ x ∈ xs,q x = !p x) → xs.countP q + xs.countP p = xs.length
 | [],_ => rfl
 | a :: xs,h => by
  have ih:=vb (xs:=xs) fun x hx => h x (List.mem_cons_of_mem _ hx)
  have ha:=h a (by simp);rw [List.countP_cons,List.countP_cons,List.length_cons,ha]
  cases p a <;> simp <;> omega
theorem D5 {n : am} (hn : an n = true) (h : xg n = true) : cY n 3 ((List.range n.ends.length).map (dZ n)):=by
 unfold xg at h;rw [Bool.and_eq_true,decide_eq_true_eq,um hn] at h;obtain ⟨-,hcut⟩:=h;intro v hv;have rp:=cK hn hv;obtain ⟨r,ZY⟩ : ∃ r,al n v = r:=⟨_,rfl⟩
 rw [ZY] at rp;have hd:=ox hn rp
 have FN : fH n r v:=by rw [← ZY];exact (bK hn hv).1.symm hn hv
 have hD : ∀ w,w < n.ends.length → fH n r w → ((List.range n.ends.length).map (dZ n)).getD w 0 = aK n r w:=fun w hw iQ => by
  rw [lX hw];unfold dZ
  rw [← fK hn rp iQ,show al n r = r by rw [← ZY];exact pB hn hv]
 have co : ∀ i,i < (n.ends.getD v []).length → aP n v i < n.ends.length ∧ fH n r (aP n v i) ∧ fH n v (aP n v i) ∧ ((aP n v i : Nat) : Int) ∈ eJ n (v : Int):=fun i hi => by
  have jy:=(getD_in (d:=(0,0)) hi).1;have dG:=et hn jy;have hs:=kG jy dG.2.1
  exact ⟨by unfold aP;omega,FN.step hs,fH.refl.step hs,hs⟩
 have hA : ∀ i,i < (n.ends.getD v []).length → aK n r (aP n v i) ≠ aK n r v:=fun i hi he => by
  obtain ⟨f1,f2,f3,f4⟩:=co i hi;have hp : bU n v i ((n.ends.getD v []).getD i (0,0)):=(getD_in hi).2;have T4:=dD hn hp
  have mB : ∀ x,fH n r x → fH (jb n (fY v i ((n.ends.getD v []).getD i (0,0)))) r x:=fun x hx =>
   D4 hn rp (aK n r x) (fun y j x' f x7 hf _ yY => by
    unfold fY;rw [Bool.not_eq_true',Bool.or_eq_false_iff,Bool.and_eq_false_iff,Bool.and_eq_false_iff,beq_eq_false_iff_ne,beq_eq_false_iff_ne,beq_eq_false_iff_ne,beq_eq_false_iff_ne];constructor
    ·by_cases e1 : y = v
     ·right
      intro e2;subst e1 e2;unfold bU at hp x7;rw [hp] at x7;have e3:=Option.some.inj x7
      have e4 : aP n y j = x':=by unfold aP;rw [e3];exact hf
      rw [e4] at he;omega
     ·exact .inl e1
    ·by_cases e1 : y = aP n v i
     ·right
      intro e2;have h5:=T4.2.2.2.2;rw [← e2,show ((n.ends.getD v []).getD i (0,0)).1.toNat = y from e1.symm] at h5
      unfold bU at h5 x7;rw [x7] at h5;have e3:=Option.some.inj h5
      have e4 : x' = v:=by rw [← hf,e3];simp
      rw [e4] at yY;rw [← e1] at he;omega
     ·exact .inl e1) _ x hx (Int.le_refl _) (Nat.le_refl _)
  have Ks:=y4 hn _ (nw hn hp)
  exact hcut v i _ hp (((mB v FN).symm Ks (by rw [FX];exact rp)).trans (mB _ f2))
 have hB : ∀ i j,i < (n.ends.getD v []).length → j < (n.ends.getD v []).length → aK n r (aP n v i) = aK n r v - 1 → aK n r (aP n v j) = aK n r v - 1 → i = j:=fun i j hi hj di dj => by
  refine Decidable.byContradiction fun fS => ?_
  obtain ⟨f1,f2,f3,f4⟩:=co i hi;obtain ⟨g1,g2,g3,g4⟩:=co j hj;have hp : bU n v i ((n.ends.getD v []).getD i (0,0)):=(getD_in hi).2;have hq : bU n v j ((n.ends.getD v []).getD j (0,0)):=(getD_in hj).2;have T4:=dD hn hp
  have mB : ∀ x,fH n r x → aK n r x ≤ aK n r v - 1 → fH (jb n (fY v i ((n.ends.getD v []).getD i (0,0)))) r x:=fun x hx hxd =>
   D4 hn rp (aK n r v - 1) (fun y j x' f x7 hf hK yY => by
    unfold fY;rw [Bool.not_eq_true',Bool.or_eq_false_iff,Bool.and_eq_false_iff,Bool.and_eq_false_iff,beq_eq_false_iff_ne,beq_eq_false_iff_ne,beq_eq_false_iff_ne,beq_eq_false_iff_ne];constructor
    ·left
     rintro rfl;omega
    ·by_cases e1 : y = aP n v i
     ·right
      intro e2;have h5:=T4.2.2.2.2;rw [← e2,show ((n.ends.getD v []).getD i (0,0)).1.toNat = y from e1.symm] at h5
      unfold bU at h5 x7;rw [x7] at h5;have e3:=Option.some.inj h5
      have e4 : x' = v:=by rw [← hf,e3];simp
      rw [e4] at hK;omega
     ·exact .inl e1) _ x hx hxd (Nat.le_refl _)
  have Ks:=y4 hn _ (nw hn hp)
  have hs:=FW hn (keep:=fY v i ((n.ends.getD v []).getD i (0,0))) hq (by
   unfold fY;rw [Bool.not_eq_true',Bool.or_eq_false_iff,Bool.and_eq_false_iff,Bool.and_eq_false_iff,beq_eq_false_iff_ne,beq_eq_false_iff_ne,beq_eq_false_iff_ne,beq_eq_false_iff_ne];refine ⟨.inr (Ne.symm fS),.inl fun e => ?_⟩
   have e : v = aP n v i:=e;rw [← e] at di
   omega)
  have hs : fH (jb n (fY v i ((n.ends.getD v []).getD i (0,0)))) v (aP n v j):=fH.refl.step hs
  exact hcut v i _ hp (hs.trans (((mB _ g2 (by omega)).symm Ks (by rw [FX];exact rp)).trans (mB (aP n v i) f2 (by omega))))
 have hC : ∀ i,i < (n.ends.getD v []).length → aK n r (aP n v i) = aK n r v - 1 ∨ aK n r (aP n v i) = aK n r v + 1:=fun i hi => by
  obtain ⟨f1,f2,f3,f4⟩:=co i hi;have a1 : aK n r (aP n v i) ≤ aK n r v + 1:=hd.nb _ _ FN f4;have a2 : aK n r v ≤ aK n r (aP n v i) + 1:=hd.nb _ _ f2 (sT hn hv f4);have a3:=hA i hi;omega
 have xk : ∀ i,i < (n.ends.getD v []).length → (aw ((List.range n.ends.length).map (dZ n)) (n.ends.getD v []))[i]? = some (aK n r (aP n v i)):=fun i hi => by
  obtain ⟨f1,f2,-,-⟩:=co i hi;rw [tf hi,hD _ f1 f2]
 unfold fi fU
 rw [if_neg (by decide),if_neg (by decide),if_pos rfl,hD v hv FN];unfold uG
 by_cases e : aK n r v = 0
 ·rw [if_pos e,beq_iff_eq,List.countP_eq_length];intro x hx;obtain ⟨i,hi⟩:=List.getElem?_of_mem hx;have zZ:=aq hi;rw [qV] at zZ;rw [xk i zZ] at hi;have hi:=Option.some.inj hi;have h1 : 0 ≤ aK n r (aP n v i):=hd.pos _ (co i zZ).2.1;rcases hC i zZ with h2 | h2
  ·omega
  ·rw [beq_iff_eq];omega
 ·have fS : v ≠ r:=fun e2 => e (by rw [e2];exact hd.zero)
  obtain ⟨-,w,w1,w2⟩:=Kt hn rp FN fS;obtain ⟨i,hi,hw⟩:=mE.1 w1
  have ef : aP n v i = w:=by unfold aP;rw [hw];simp
  have c1 : (aw ((List.range n.ends.length).map (dZ n)) (n.ends.getD v [])).countP (fun x => x == aK n r v - 1) = 1:=by
   refine u_ (xk i hi) (by rw [ef,beq_iff_eq];exact w2) fun j y hj hy => ?_
   have wG:=aq hj;rw [qV] at wG;rw [xk j wG] at hj;have hj:=Option.some.inj hj
   exact hB j i wG hi (by rw [hj];exact eq_of_beq hy) (by rw [ef];exact w2)
  have c2:=vb (p:=fun x => x == aK n r v - 1) (q:=fun x => x == aK n r v + 1) (xs:=aw ((List.range n.ends.length).map (dZ n)) (n.ends.getD v [])) fun x hx => by
   obtain ⟨j,hj⟩:=List.getElem?_of_mem hx;have wG:=aq hj;rw [qV] at wG;rw [xk j wG] at hj;have hj:=Option.some.inj hj;rw [← hj];rcases hC j wG with h2 | h2
   ·rw [h2]
    have : (aK n r v - 1 == aK n r v + 1) = false:=by rw [beq_eq_false_iff_ne];omega
    simp [this]
   ·rw [h2]
    have : (aK n r v + 1 == aK n r v - 1) = false:=by rw [beq_eq_false_iff_ne];omega
    simp [this]
  rw [if_neg e,Bool.and_eq_true,beq_iff_eq,beq_iff_eq];exact ⟨c1,by omega⟩
end Go.Proofs.YtgmdpppljkmabaaGreat
