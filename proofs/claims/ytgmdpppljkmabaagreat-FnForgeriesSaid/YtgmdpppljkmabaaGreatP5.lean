/- Parts of the proof: walks of functions and plain laws. -/
import Derived.Test.YtgmdpppljkmabaaGreatP0
import Derived.Test.YtgmdpppljkmabaaGreatP1
set_option maxRecDepth 100000
set_option maxHeartbeats 16000000
namespace Go.Proofs.YtgmdpppljkmabaaGreat
open Go Go.RowKit
section
variable {P : Program} {ops : Array Oper}
theorem Gz {Q : Exit → Act → World → Prop} (oY : ∀ i o,ops[i]? = some o → ∀ j ∈ bS o,j < i) (J : (Nat → Prop) → Act → World → Prop)
  (fI : ∀ (D : Nat → Prop) a w i o,J D a w → ops[i]? = some o → ¬ D i → (∀ d ∈ bS o,D d) → (∀ i o,D i → ops[i]? = some o → ∀ d ∈ bS o,D d) →
   if Region.wanted o (yielded ops a.tmps) = true then Oper.wp P o a w (J (fun j => D j ∨ j = i)) Q ∨ (o.asks P a w ∧ LetsOut Q) else J (fun j => D j ∨ j = i) (a.put o.dst undef) w)
  (tM : ∀ (D : Nat → Prop) a w,J D a w → (∀ i,i < ops.size → D i) → Q .normal a w) :
  ∀ (iE : Nat) (ar : Array Bool) (a : Act) (W : World),ar.size = ops.size → (∀ i o,ar.getD i false = true → ops[i]? = some o → ∀ j ∈ bS o,ar.getD j false = true) →
   ((List.range ops.size).filter fun j => !ar.getD j false).length ≤ iE → J (fun j => ar.getD j false = true) a W → wpAny P .any ops Q iE ar a W:=by
 have Jo : ∀ (ar : Array Bool),ar.size = ops.size → Region.ready .any ops ar = [] → ∀ m,∀ j,j ≤ m → j < ops.size → ar.getD j false = true:=by
  intro ar ed tL m
  induction m using Nat.strongRecOn with
  | ind m ihm =>
   intro j hjm OJ;refine Classical.byContradiction fun yO => ?_
   have yO : ar.getD j false = false:=by cases hb : ar.getD j false <;> simp_all
   have jy : j ∈ Region.ready .any ops ar:=dT.2 ⟨by rw [gP (by omega)];exact yO,ops[j],Array.getElem?_eq_getElem OJ,fun d hd => by
    have hdj:=oY j _ (Array.getElem?_eq_getElem OJ) d hd
    exact ihm d (by omega) d (Nat.le_refl _) (by omega)⟩
   rw [tL] at jy;simp at jy
 intro iE
 induction iE with
 | zero =>
  intro ar a W ed kh PX hJ
  have bW : ∀ j,j < ops.size → ar.getD j false = true:=fun j hj => by
   rcases hb : ar.getD j false with _ | _
   ·have : 0 < ((List.range ops.size).filter fun j => !ar.getD j false).length:=List.length_pos_of_mem (List.mem_filter.2 ⟨List.mem_range.2 hj,by simp [hb]⟩)
    omega
   ·rfl
  refine ⟨List.eq_nil_iff_forall_not_mem.2 fun i hi => ?_,tM _ a W hJ bW⟩
  obtain ⟨h0,o,ho,_⟩:=dT.1 hi;have dC : i < ops.size:=(Array.getElem?_eq_some_iff.1 ho).1;rw [gP (by omega),bW i dC] at h0;cases h0
 | succ iE ih =>
  intro ar a W ed kh PX hJ;refine ⟨fun tL => tM _ a W hJ fun j hj => Jo ar ed tL j j (Nat.le_refl _) hj,fun i hi => ?_⟩
  obtain ⟨h0,o,ho,iR⟩:=dT.1 hi;have dC : i < ops.size:=(Array.getElem?_eq_some_iff.1 ho).1;rw [gP (by omega)] at h0
  have gH : ∀ j,(ar.setIfInBounds i true).getD j false = true ↔ (ar.getD j false = true ∨ j = i):=fun j => by
   by_cases m_ : i = j
   ·subst m_;simp [ed,dC]
   ·rw [getD_set_ne false m_];constructor
    ·exact .inl
    ·rintro (h | h)
     ·exact h
     ·exact absurd h.symm m_
  have hD : (fun j => (ar.setIfInBounds i true).getD j false = true) = fun j => ar.getD j false = true ∨ j = i:=funext fun j => propext (gH j)
  have next : ∀ a W,J (fun j => ar.getD j false = true ∨ j = i) a W → wpAny P .any ops Q iE (ar.setIfInBounds i true) a W:=fun a W hJ' => by
   refine ih _ a W (by simpa using ed) (fun i' o' wu rt j hj => ?_) ?_ (by rw [hD];exact hJ')
   ·rcases (gH i').1 wu with h | rfl
    ·exact (gH j).2 (.inl (kh i' o' h rt j hj))
    ·rw [ho] at rt;cases rt
     exact (gH j).2 (.inl (iR j hj))
   ·have TM:=filter_lt (l:=List.range ops.size) (p:=fun j => !ar.getD j false) (q:=fun j => !(ar.setIfInBounds i true).getD j false) (fun x hx => by
     cases hb : ar.getD x false
     ·rfl
     ·have:=(gH x).2 (.inl hb)
      simp only [this] at hx
      cases hx) (List.mem_range.2 dC) (by simp only [h0];rfl) (by simp only [(gH i).2 (.inr rfl)];rfl)
    omega
  have:=fI (fun j => ar.getD j false = true) a W i o hJ ho (by rw [h0];simp) iR kh
  unfold wpOp;simp only [ho]
  split
  ·rename_i hw
   rw [if_pos hw] at this;exact this.imp (Oper.wp_mono next) id
  ·rename_i hw
   rw [if_neg hw] at this;exact next _ _ this
theorem kB {Q : Exit → Act → World → Prop} {id : Nat} {a : Act} {w : World} (hm : P.follows .mixedOrders = true) (oY : ∀ i o,ops[i]? = some o → ∀ j ∈ bS o,j < i) (J : (Nat → Prop) → Act → World → Prop)
  (h0 : J (fun _ => False) a w.drew)
  (fI : ∀ (D : Nat → Prop) a w i o,J D a w → ops[i]? = some o → ¬ D i → (∀ d ∈ bS o,D d) → (∀ i o,D i → ops[i]? = some o → ∀ d ∈ bS o,D d) →
   if Region.wanted o (yielded ops a.tmps) = true then Oper.wp P o a w (J (fun j => D j ∨ j = i)) Q ∨ (o.asks P a w ∧ LetsOut Q) else J (fun j => D j ∨ j = i) (a.put o.dst undef) w)
  (tM : ∀ (D : Nat → Prop) a w,J D a w → (∀ i,i < ops.size → D i) → Q .normal a w) : (Code.region id ops true).wp P Q a w:=by
 refine wp_region_any hm ?_
 refine Gz (P:=P) (Q:=Q) oY J fI tM ops.size (Array.replicate ops.size false) a w.drew (by simp) (fun i o hi => by rw [i9] at hi;cases hi) ?_ ?_
 ·have:=List.length_filter_le (fun j => !(Array.replicate ops.size false).getD j false) (List.range ops.size)
  simpa using this
 ·have : (fun j => (Array.replicate ops.size false).getD j false = true) = fun _ => False:=funext fun j => propext ⟨(fun h => by rw [i9] at h;cases h),fun h => h.elim⟩
  rw [this];exact h0
def dO {α : Type} : List Bool → List α → List α
 | true :: m,o :: l => o :: dO m l
 | false :: m,_ :: l => dO m l
 | [],_ => []
 | _ :: _,[] => []
def d_ {α : Type} : List Bool → List α → List α
 | true :: m,_ :: l => d_ m l
 | false :: m,o :: l => o :: d_ m l
 | [],_ => []
 | _ :: _,[] => []
def rk (b : Bool) (m : List Bool) (i : Nat) : Nat:=(m.take i).count b
theorem yS {α : Type} : ∀ (m : List Bool) (l : List α) (i : Nat),m.length = l.length → m[i]? = some true → (dO m l)[rk true m i]? = l[i]?
 | [],_,i,_,h => by simp at h
 | true :: m,o :: l,0,_,_ => by simp [rk,dO]
 | true :: m,o :: l,i + 1,hl,h => by
  have:=yS m l i (by simpa using hl) (by simpa using h)
  simpa [rk,dO] using this
 | false :: m,o :: l,0,_,h => by simp at h
 | false :: m,o :: l,i + 1,hl,h => by
  have:=yS m l i (by simpa using hl) (by simpa using h)
  simpa [rk,dO] using this
theorem sW {α : Type} : ∀ (m : List Bool) (l : List α) (i : Nat),m.length = l.length → m[i]? = some false → (d_ m l)[rk false m i]? = l[i]?
 | [],_,i,_,h => by simp at h
 | false :: m,o :: l,0,_,_ => by simp [rk,d_]
 | false :: m,o :: l,i + 1,hl,h => by
  have:=sW m l i (by simpa using hl) (by simpa using h)
  simpa [rk,d_] using this
 | true :: m,o :: l,0,_,h => by simp at h
 | true :: m,o :: l,i + 1,hl,h => by
  have:=sW m l i (by simpa using hl) (by simpa using h)
  simpa [rk,d_] using this
theorem tY {α : Type} : ∀ (m : List Bool) (l : List α),m.length = l.length → (dO m l).length = m.count true
 | [],[],_ => rfl
 | true :: m,o :: l,hl => by simp [dO,tY m l (by simpa using hl)]
 | false :: m,o :: l,hl => by simp [dO,tY m l (by simpa using hl)]
theorem tZ {α : Type} : ∀ (m : List Bool) (l : List α),m.length = l.length → (d_ m l).length = m.count false
 | [],[],_ => rfl
 | true :: m,o :: l,hl => by simp [d_,tZ m l (by simpa using hl)]
 | false :: m,o :: l,hl => by simp [d_,tZ m l (by simpa using hl)]
theorem MU {b : Bool} {m : List Bool} {i : Nat} {x : Bool} (h : m[i]? = some x) : rk b m (i + 1) = rk b m i + if x = b then 1 else 0:=by
 obtain ⟨hi,rfl⟩:=List.getElem?_eq_some_iff.1 h;unfold rk;rw [List.take_succ_eq_append_getElem hi,List.count_append];congr 1
 simp [List.count_cons]
theorem TU {b : Bool} {m : List Bool} {i j : Nat} (h : i ≤ j) : rk b m i ≤ rk b m j:=by
 unfold rk;exact List.Sublist.count_le _ (List.IsPrefix.sublist (List.take_prefix_take_left h))
theorem AY {b : Bool} {m : List Bool} {i j : Nat} (h : i < j) (hi : m[i]? = some b) : rk b m i < rk b m j:=by
 have h1:=MU (b:=b) hi;rw [if_pos rfl] at h1
 have:=TU (b:=b) (m:=m) (show i + 1 ≤ j from h)
 omega
theorem Do {b : Bool} {m : List Bool} {i j : Nat} (hi : m[i]? = some b) (hj : m[j]? = some b) (h : rk b m i = rk b m j) : i = j:=by
 rcases Nat.lt_trichotomy i j with hl | hl | hl
 ·have:=AY hl hi;omega
 ·exact hl
 ·have:=AY hl hj;omega
theorem np {b : Bool} {m : List Bool} {i : Nat} (hi : m[i]? = some b) : rk b m i < m.count b:=by
 have h1:=AY (Nat.lt_of_lt_of_le (List.getElem?_eq_some_iff.1 hi).1 (Nat.le_refl m.length)) hi
 unfold rk at h1 ⊢
 rw [List.take_length] at h1;exact h1
theorem t_ {b : Bool} : ∀ (m : List Bool) (q : Nat),q < m.count b → ∃ i : Nat,m[i]? = some b ∧ rk b m i = q
 | [],q,h => by simp at h
 | x :: m,q,h => by
  by_cases hx : x = b
  ·subst hx
   cases q with
   | zero => exact ⟨0,by simp,by simp [rk]⟩
   | succ q =>
    obtain ⟨i,h1,h2⟩:=t_ m q (by simpa using h)
    exact ⟨i + 1, by simpa using h1, by have : rk x (x :: m) (i + 1) = rk x m i + 1 := by simp [rk]
                                        omega⟩
  ·obtain ⟨i,h1,h2⟩:=t_ m q (by rwa [List.count_cons_of_ne hx] at h)
   exact ⟨i + 1, by simpa using h1, by have : rk b (x :: m) (i + 1) = rk b m i := by simp [rk, List.count_cons_of_ne hx]
                                       omega⟩
def bA (P : Program) (ops : Array Oper) (S : World → Prop) (fin : Act → World → Prop) : List Oper → Act → World → Prop
 | [],A,W => fin A W
 | o :: rest,A,W =>
  (Region.wanted o (yielded ops A.tmps) = true ∧ match (execOp A.eval o).run P W with
   | .ok (.value u) W' => S W' ∧ bA P ops S fin rest (A.put o.dst u) W'
   | .ok .skip W' => S W' ∧ bA P ops S fin rest (A.put o.dst undef) W'
   | .ok (.row row args) W' => Rows P row args W' fun v mZ => S mZ ∧ bA P ops S fin rest (A.put o.dst v) mZ
   | .ok (.enter f args) W' => Calls P f args W' fun e mZ => ∃ u,e = .returned u ∧ S mZ ∧ bA P ops S fin rest (A.put o.dst u) mZ
   | _ => False) ∨ (Region.wanted o (yielded ops A.tmps) = false ∧ bA P ops S fin rest (A.put o.dst undef) W)
theorem dA {S : World → Prop} {fin : Act → World → Prop} {o : Oper} {rest : List Oper} {A : Act} {W : World} {v : Value} (hw : Region.wanted o (yielded ops A.tmps) = true) (h : (execOp A.eval o).run P W = .ok (.value v) W) (hS : S W)
  (hr : bA P ops S fin rest (A.put o.dst v) W) : bA P ops S fin (o :: rest) A W:=.inl ⟨hw,by rw [h];exact ⟨hS,hr⟩⟩
theorem xT {S : World → Prop} {fin : Act → World → Prop} {o : Oper} {rest : List Oper} {A : Act} {W W' : World} {v : Value} (hw : Region.wanted o (yielded ops A.tmps) = true) (h : (execOp A.eval o).run P W = .ok (.value v) W') (hS : S W')
  (hr : bA P ops S fin rest (A.put o.dst v) W') : bA P ops S fin (o :: rest) A W:=.inl ⟨hw,by rw [h];exact ⟨hS,hr⟩⟩
theorem dP {S : World → Prop} {fin : Act → World → Prop} {o : Oper} {rest : List Oper} {A : Act} {W : World}
  (h : ∀ Q' : Exit → Act → World → Prop,(∀ u W',S W' → bA P ops S fin rest (A.put o.dst u) W' → Q' .normal (A.put o.dst u) W') → wpList P ops Q' [o] A W) : bA P ops S fin (o :: rest) A W:=by
 have h1:=h (fun x a w => x = .normal ∧ a.defers = A.defers ∧ S w ∧ bA P ops S fin rest a w) (fun u W' hS ht => ⟨rfl,by cases o.dst <;> rfl,hS,ht⟩)
 unfold wpList at h1;unfold bA
 split at h1
 ·rename_i hw
  refine .inl ⟨hw,?_⟩;rcases h1 with h1 | ⟨-,a',w',h1,-⟩
  ·unfold Oper.wp at h1
   generalize (execOp A.eval o).run P W = r at h1 ⊢
   cases r with
   | ok nx W' =>
    cases nx with
    | value u => exact h1.2.2
    | skip => exact h1.2.2
    | row row args => exact Rows.mono h1 fun u mZ h => h.2.2
    | enter f args =>
     simp only [Oper.upon] at h1;refine Calls.mono h1 fun e mZ h2 => ?_
     cases e with
     | returned v => exact ⟨v,rfl,h2.2.2⟩
     | panicked c => exact absurd h2.1 (by simp)
     | outgrown => obtain ⟨a',w',h3,-⟩:=h2;cases h3
    | defer d =>
     have:=h1.2.1
     simp only [Act.put] at this;have hl:=congrArg List.length this
     cases hd : o.dst <;> simp [hd] at hl
    | _ => exact h1.elim
   | halt x W' => cases x <;> first | exact absurd h1.1 (by simp) | exact h1.elim
  ·cases h1
 ·rename_i hw
  exact .inr ⟨by simpa using hw,h1.2.2.2⟩
def yT (ops : Array Oper) (k : Nat) (mask : List Bool) : Bool:=
 tK ops k && decide (mask.length = k) && decide (k ≤ ops.size) &&
 (List.range k).all fun i => match ops[i]? with
  | none => true
  | some o => if mask.getD i true then (List.range i).all fun j => !mask.getD j true || ((j8 ops (i + 1)).getD i []).contains j
   else (bS o).all fun j => !mask.getD j true
def rA (P : Program) (ops : Array Oper) (S : World → Prop) (fin : Act → Prop) : List Oper → Act → Prop
 | [],A => fin A
 | o :: rest,A => ∃ v,(Region.wanted o (yielded ops A.tmps) = true ∧ ∀ W,S W → (execOp A.eval o).run P W = .ok (.value v) W) ∧ rA P ops S fin rest (A.put o.dst v)
theorem bY {S : World → Prop} {fin : Act → Prop} {o : Oper} {rest : List Oper} {A : Act} {v : Value} (hw : Region.wanted o (yielded ops A.tmps) = true) (h : ∀ W,S W → (execOp A.eval o).run P W = .ok (.value v) W)
  (hr : rA P ops S fin rest (A.put o.dst v)) : rA P ops S fin (o :: rest) A:=⟨v,⟨hw,h⟩,hr⟩
theorem wW {S : World → Prop} {fin : Act → Prop} (l : List Oper) : ∀ (A : Act),rA P ops S fin l A →
  ∃ (vals : Nat → Value) (F : Nat → Act),F 0 = A ∧ fin (F l.length) ∧ ∀ i o,l[i]? = some o → (Region.wanted o (yielded ops (F i).tmps) = true ∧ ∀ W,S W → (execOp (F i).eval o).run P W = .ok (.value (vals i)) W) ∧ F (i + 1) = (F i).put o.dst (vals i):=by
 induction l with
 | nil => intro A h;exact ⟨fun _ => undef,fun _ => A,rfl,h,fun i o h => by simp at h⟩
 | cons o l ih =>
  intro A h;obtain ⟨v,hs,hf⟩:=h;obtain ⟨vals,F,h0,fA,fI⟩:=ih _ hf;refine ⟨fun i => match i with | 0 => v | i + 1 => vals i,fun i => match i with | 0 => A | i + 1 => F i,rfl,fA,?_⟩
  intro i o' hi
  cases i with
  | zero => simp at hi;subst hi;exact ⟨hs,h0⟩
  | succ i => exact fI i o' (by simpa using hi)
theorem aI {Q : Exit → Act → World → Prop} {JB : Nat} {a : Act} {w : World} (S : World → Prop) (k : Nat) (mask : List Bool) (hm : P.follows .mixedOrders = true) (hc : yT ops k mask = true) (cX : S w.drew)
  (h : rA P ops S (fun A => bA P ops S (fun A W => wpList P ops Q (ops.toList.drop k) A W) (dO mask (ops.toList.take k)) A w.drew) (d_ mask (ops.toList.take k)) a) : (Code.region JB ops true).wp P Q a w:=by
 unfold yT at hc;simp only [Bool.and_eq_true,decide_eq_true_eq] at hc;obtain ⟨⟨⟨hf,GA⟩,Dp⟩,XI⟩:=hc;have gD:=qg hf
 have hlt : mask.length = (ops.toList.take k).length:=by simp;omega
 have IS : ∀ i,i < k → ∃ b,mask[i]? = some b:=fun i hi => ⟨_,List.getElem?_eq_getElem (by omega)⟩
 have qh : ∀ i o,i < k → ops[i]? = some o → (ops.toList.take k)[i]? = some o:=fun i o hi ho => by
  rw [List.getElem?_take,if_pos hi];simpa using ho
 have zU : ∀ i b,mask[i]? = some b → mask.getD i true = b:=fun i b hb => by rw [zDd,hb];rfl
 have e_ : ∀ i b,mask[i]? = some b → i < k:=fun i b hb => by have:=(List.getElem?_eq_some_iff.1 hb).1;omega
 have chT : ∀ i j,mask[i]? = some true → mask[j]? = some true → j < i → Mh ops j i:=fun i j hi hj m_ => by
  have jX:=e_ i _ hi;have ho : ops[i]? = some ops[i]:=Array.getElem?_eq_getElem (by omega)
  have:=List.all_eq_true.1 XI i (List.mem_range.2 jX)
  simp only [ho] at this;rw [if_pos (zU i _ hi)] at this
  have:=List.all_eq_true.1 this j (List.mem_range.2 m_)
  rw [zU j _ hj,Bool.not_true,Bool.false_or] at this;exact fR (i + 1) i j (by simpa using this)
 have chF : ∀ i o j,mask[i]? = some false → ops[i]? = some o → j ∈ bS o → mask[j]? = some false:=fun i o j hi ho hj => by
  have jX:=e_ i _ hi;have m_:=gD.back i o ho j hj
  have:=List.all_eq_true.1 XI i (List.mem_range.2 jX)
  simp only [ho] at this
  rw [if_neg (by rw [zU i _ hi];simp)] at this
  have:=List.all_eq_true.1 this j hj
  obtain ⟨b,hb⟩:=IS j (by omega);rw [zU j _ hb] at this
  cases b <;> simp_all
 obtain ⟨vals,F,h0,fA,gE⟩:=wW _ a h
 have xU : ∀ r,r ≤ mask.count false → aX a ops (fun j => vals (rk false mask j)) (fun j => mask[j]? = some false ∧ rk false mask j < r) (F r):=by
  intro r
  induction r with
  | zero => intro _;rw [h0];exact ⟨rfl,rfl,fun j _ _ hj => by have:=hj.2;omega,fun _ _ => rfl⟩
  | succ r ih =>
   intro hr;obtain ⟨i,pp,tR⟩:=t_ (b:=false) mask r (by omega);have jX:=e_ i _ pp;have ho : ops[i]? = some ops[i]:=Array.getElem?_eq_getElem (by omega);have jB:=sW mask _ i hlt pp;rw [qh i _ jX ho,tR] at jB;rw [(gE r _ jB).2]
   have:=((ih (by omega)).put ho (fun j oj d hj fw hd iz => by
    have:=gD.dsts i _ jX ho j oj (e_ j _ hj.1) fw d hd iz
    subst this
    have:=hj.2
    omega)).same (E:=fun j => mask[j]? = some false ∧ rk false mask j < r + 1) (fun j => by
     constructor
     ·rintro (⟨a1,a2⟩ | rfl)
      ·exact ⟨a1,by omega⟩
      ·exact ⟨pp,by omega⟩
     ·rintro ⟨a1,a2⟩
      by_cases e : rk false mask j = r
      ·exact .inr (Do a1 pp (by omega))
      ·exact .inl ⟨a1,by omega⟩)
   rw [show vals r = vals (rk false mask i) by rw [tR]]
   exact this
 have Zd : (d_ mask (ops.toList.take k)).length = mask.count false:=tZ _ _ hlt;rw [Zd] at fA
 let SP : Nat → Prop:=fun j => mask[j]? = some false
 let J : (Nat → Prop) → Act → World → Prop:=fun D a' W =>
  (S W ∧ (∀ j,D j → j < k) ∧ ∃ (V : Nat → Value) (q : Nat) (A : Act),(∀ j,mask[j]? = some false → V j = vals (rk false mask j)) ∧ (∀ j,mask[j]? = some true → (D j ↔ rk true mask j < q)) ∧
   aX a ops V D a' ∧ aX a ops V (fun j => mask[j]? = some false ∨ (mask[j]? = some true ∧ rk true mask j < q)) A ∧
   bA P ops S (fun A W => wpList P ops Q (ops.toList.drop k) A W) ((dO mask (ops.toList.take k)).drop q) A W) ∨
  (∃ m,k ≤ m ∧ m ≤ ops.size ∧ (∀ j,j < ops.size → (D j ↔ j < m)) ∧ wpList P ops Q (ops.toList.drop m) a' W)
 have Ze : (dO mask (ops.toList.take k)).length = mask.count true:=tY _ _ hlt
 have A4 : ∀ D a' W,J D a' W → (∀ j,j < k → D j) → ∃ m,k ≤ m ∧ m ≤ ops.size ∧ (∀ j,j < ops.size → (D j ↔ j < m)) ∧ wpList P ops Q (ops.toList.drop m) a' W:=by
  intro D a' W hJ hD;rcases hJ with ⟨hW,om,V,q,A,hV,hT,i8,wX,CQ⟩ | hJ
  ·have hq : mask.count true ≤ q:=by
    by_cases e : mask.count true ≤ q
    ·exact e
    ·obtain ⟨i,pp,tR⟩:=t_ (b:=true) mask q (by omega)
     have:=(hT i pp).1 (hD i (e_ i _ pp))
     omega
   have JC : (dO mask (ops.toList.take k)).drop q = []:=List.drop_eq_nil_of_le (by omega);rw [JC] at CQ
   have : a' = A:=i8.ext wX (fun j hj => by
    constructor
    ·intro CN;obtain ⟨b,hb⟩:=IS j (om j CN);cases b
     ·exact .inl hb
     ·exact .inr ⟨hb,(hT j hb).1 CN⟩
    ·rintro (hb | ⟨hb,_⟩) <;> exact hD j (e_ j _ hb))
   subst this;exact ⟨k,Nat.le_refl _,Dp,fun j _ => ⟨fun h => om j h,fun h => hD j h⟩,CQ⟩
  ·exact hJ
 refine kB hm gD.back J (.inl ⟨cX,fun j hj => hj.elim,fun j => vals (rk false mask j),0,F (mask.count false),fun j _ => rfl,fun j _ => ⟨fun h => h.elim,fun h => by omega⟩,⟨rfl,rfl,fun j _ _ hj => hj.elim,fun _ _ => rfl⟩,?_,?_⟩) ?_ ?_
 ·exact (xU _ (Nat.le_refl _)).same (fun j => by
   constructor
   ·rintro ⟨a1,-⟩;exact .inl a1
   ·rintro (a1 | ⟨-,a2⟩)
    ·exact ⟨a1,np a1⟩
    ·omega)
 ·rw [List.drop_zero];exact fA
 ·intro D a' W i o hJ ho oo iR kh;have dC : i < ops.size:=(Array.getElem?_eq_some_iff.1 ho).1
  by_cases jX : i < k
  ·-- one of the first k
   rcases hJ with ⟨hW,om,V,q,A,hV,hT,i8,wX,CQ⟩ | ⟨m,h1,h2,h3,-⟩
   rotate_left
   ·exact absurd ((h3 i dC).2 (by omega)) oo
   have look : ∀ t ∈ o.looksAt ops,∀ j oj,j < k → ops[j]? = some oj → oj.dst = some t → D j ∧ j ∈ bS o:=fun t ht j oj lO fw hd => by
    have:=gD.looks i o jX ho t ht j oj lO fw hd
    exact ⟨iR j this,this⟩
   have pC : ∀ j oj d,D j → ops[j]? = some oj → o.dst = some d → oj.dst ≠ some d:=fun j oj d hj fw hd iz => by
    have:=gD.dsts i o jX ho j oj (om j hj) fw d hd iz
    subst this;exact oo hj
   obtain ⟨b,hb⟩:=IS i jX
   cases b with
   | false =>
    have jB:=sW mask _ i hlt hb;rw [qh i _ jX ho] at jB;obtain ⟨⟨hw,dt⟩,-⟩:=gE _ _ jB;have hr:=np hb
    obtain ⟨he,wY⟩:=fC (ops:=ops) (a':=a') (A:=F (rk false mask i)) (fun t ht => (i8.vals2 (v':=V) (fun _ _ _ => rfl)).agree ((xU _ (Nat.le_of_lt hr)).vals (v':=V) (fun j hj => (hV j hj.1).symm)) t (fun j oj hj fw hd => by
     have lO : j < k:=hj.elim (fun h => om j h) (fun h => e_ j _ h.1)
     obtain ⟨d1,d2⟩:=look t ht j oj lO fw hd;have OR:=chF i o j hb ho d2
     exact ⟨d1,OR,AY (gD.back i o ho j d2) OR⟩)) (fun cs b => gD.nosel i o cs b ho)
    rw [if_pos (wY.trans hw)];refine .inl ?_;unfold Oper.wp;rw [he,dt W hW];refine .inl ⟨hW,fun j hj => hj.elim (fun h => om j h) (fun h => by omega),V,q,A,hV,fun j hj => ?_,?_,wX,CQ⟩
    ·rw [← hT j hj];constructor
     ·rintro (h | rfl)
      ·exact h
      ·rw [hb] at hj;cases hj
     ·exact .inl
    ·have:=i8.put (i:=i) ho pC
     rwa [hV i hb] at this
   | true =>
    have hq : rk true mask i = q:=by
     have h1 : ¬ rk true mask i < q:=fun h => oo ((hT i hb).2 h)
     by_cases e : rk true mask i = q
     ·exact e
     ·obtain ⟨j,sD,xF⟩:=t_ (b:=true) mask q (by have:=np hb;omega)
      have m_ : j < i:=by
       rcases Nat.lt_trichotomy j i with h | h | h
       ·exact h
       ·subst h;omega
       ·have:=AY h hb;omega
      have:=gy kh ho iR (chT i j hb sD m_)
      have:=(hT j sD).1 this
      omega
    have jB:=yS mask _ i hlt hb;rw [qh i _ jX ho,hq] at jB;have MV : q < (dO mask (ops.toList.take k)).length:=(List.getElem?_eq_some_iff.1 jB).1;rw [List.drop_eq_getElem_cons MV,(List.getElem?_eq_some_iff.1 jB).2] at CQ
    obtain ⟨he,wY⟩:=fC (ops:=ops) (a':=a') (A:=A) (fun t ht => i8.agree wX t (fun j oj hj fw hd => by
     have lO : j < k:=hj.elim (fun h => om j h) (fun h => h.elim (e_ j _) (fun h => e_ j _ h.1))
     obtain ⟨d1,d2⟩:=look t ht j oj lO fw hd;refine ⟨d1,?_⟩;obtain ⟨b,hb'⟩:=IS j lO;cases b
     ·exact .inl hb'
     ·exact .inr ⟨hb',(hT j hb').1 d1⟩)) (fun cs b => gD.nosel i o cs b ho)
    have next : ∀ u W',S W' → bA P ops S (fun A W => wpList P ops Q (ops.toList.drop k) A W) ((dO mask (ops.toList.take k)).drop (q + 1)) (A.put o.dst u) W' → J (fun j => D j ∨ j = i) (a'.put o.dst u) W':=by
     intro u W' hS ht
     let V' : Nat → Value:=fun j => if j = i then u else V j
     have e1 : ∀ j,j ≠ i → V' j = V j:=fun j hj => if_neg hj
     have e2 : V' i = u:=if_pos rfl;refine .inl ⟨hS,fun j hj => hj.elim (fun h => om j h) (fun h => by omega),V',q + 1,A.put o.dst u,fun j hj => ?_,fun j hj => ?_,?_,?_,ht⟩
     ·rw [e1 j (fun e => by subst e;rw [hb] at hj;cases hj)];exact hV j hj
     ·constructor
      ·rintro (h | rfl)
       ·have:=(hT j hj).1 h;omega
       ·omega
      ·intro h
       by_cases e : rk true mask j = q
       ·exact .inr (Do hj hb (by omega))
       ·exact .inl ((hT j hj).2 (by omega))
     ·have:=(i8.vals2 (v':=V') (fun j _ hj => (e1 j (fun e => by subst e;exact oo hj)).symm)).put (i:=i) ho pC
      rwa [e2] at this
     ·have:=((wX.vals2 (v':=V') (fun j _ hj => (e1 j (fun e => by
       subst e;rcases hj with hj | ⟨-,hj⟩
       ·rw [hb] at hj;cases hj
       ·omega)).symm)).put (i:=i) ho (fun j oj d hj fw hd iz => by
        have lO : j < k:=hj.elim (e_ j _) (fun h => e_ j _ h.1)
        have:=gD.dsts i o jX ho j oj lO fw d hd iz
        subst this;rcases hj with hj | ⟨-,hj⟩
        ·rw [hb] at hj;cases hj
        ·omega)).same (E:=fun j => mask[j]? = some false ∨ (mask[j]? = some true ∧ rk true mask j < q + 1)) (fun j => by
        constructor
        ·rintro ((h | ⟨h,h'⟩) | rfl)
         ·exact .inl h
         ·exact .inr ⟨h,by omega⟩
         ·exact .inr ⟨hb,by omega⟩
        ·rintro (h | ⟨h,h'⟩)
         ·exact .inl (.inl h)
         ·by_cases e : rk true mask j = q
          ·exact .inr (Do h hb (by omega))
          ·exact .inl (.inr ⟨h,by omega⟩))
      rwa [e2] at this
    rcases CQ with ⟨hw,dt⟩ | ⟨hw,dt⟩
    ·rw [if_pos (wY.trans hw)];refine .inl ?_;unfold Oper.wp;rw [he]
     generalize (execOp A.eval o).run P W = r at dt ⊢
     cases r with
     | ok nx W' =>
      cases nx with
      | value u => exact next u W' dt.1 dt.2
      | skip => exact next undef W' dt.1 dt.2
      | row row args => exact Rows.mono dt fun u mZ h => next u mZ h.1 h.2
      | enter f args =>
       simp only [Oper.upon]
       exact Calls.mono dt fun e mZ ⟨u,Da,h3,h4⟩ => by subst Da;exact next u mZ h3 h4
      | _ => exact dt.elim
     | halt x W' => exact dt.elim
    ·rw [if_neg (by rw [wY.trans hw];simp)]
     exact next _ _ hW dt
  ·-- the tail
   have bW : ∀ j,j < i → D j:=fun j hj => gy kh ho iR (gD.tail i (by omega) dC j hj)
   obtain ⟨m,h1,h2,h3,h4⟩:=A4 D a' W hJ (fun j hj => bW j (by omega))
   have yU : m = i:=by
    by_cases e1 : i < m
    ·exact absurd ((h3 i dC).2 e1) oo
    ·by_cases e2 : m < i
     ·have:=(h3 m (by omega)).1 (bW m e2);omega
     ·omega
   subst yU
   have Ft : ops.toList.drop m = o :: ops.toList.drop (m + 1):=by
    have : m < ops.toList.length:=by simpa using dC
    rw [List.drop_eq_getElem_cons this];congr 1
    have:=(Array.getElem?_eq_some_iff.1 ho).2
    simpa using this
   rw [Ft] at h4;unfold wpList at h4
   have next : ∀ a W,wpList P ops Q (ops.toList.drop (m + 1)) a W → J (fun j => D j ∨ j = m) a W:=fun a W h => .inr ⟨m + 1,by omega,by omega,fun j hj => by
    constructor
    ·rintro (h | rfl)
     ·have:=(h3 j hj).1 h;omega
     ·omega
    ·intro h
     by_cases e : j = m
     ·exact .inr e
     ·exact .inl ((h3 j hj).2 (by omega)),h⟩
   split
   ·rename_i hw
    rw [if_pos hw] at h4;exact h4.imp (Oper.wp_mono next) id
   ·rename_i hw
    rw [if_neg hw] at h4;exact next _ _ h4
 ·intro D a' W hJ bW;obtain ⟨m,h1,h2,h3,h4⟩:=A4 D a' W hJ (fun j hj => bW j (by omega))
  have TV : m = ops.size:=by
   by_cases e : m < ops.size
   ·have:=(h3 m e).1 (bW m e);omega
   ·omega
  subst TV;rw [List.drop_eq_nil_of_le (by simp)] at h4;exact h4
theorem Fu {w0 : World} {fin : Act → Prop} : ∀ (l : List Oper) (A : Act),k7 P ops w0 fin l A → rA P ops (aa w0) fin l A
 | [],_,h => h
 | _ :: l,_,⟨v,h1,h2⟩ => ⟨v,h1,Fu l _ h2⟩
theorem ec {Q : Exit → Act → World → Prop} {JB : Nat} {a : Act} {w w0 : World} (k : Nat) (mask : List Bool) (hm : P.follows .mixedOrders = true) (hc : yT ops k mask = true) (cX : aa w0 w)
  (h : k7 P ops w0 (fun A => bA P ops (aa w0) (fun A W => wpList P ops Q (ops.toList.drop k) A W) (dO mask (ops.toList.take k)) A w.drew) (d_ mask (ops.toList.take k)) a) : (Code.region JB ops true).wp P Q a w:=
 aI (aa w0) k mask hm hc (ak cX) (Fu _ _ h)
theorem uc {w0 : World} {fin TW : Act → Prop} (hf : ∀ A,fin A → TW A) : ∀ (l : List Oper) (A : Act),k7 P ops w0 fin l A → k7 P ops w0 TW l A
 | [],A,h => hf A h
 | _ :: l,_,⟨v,h1,h2⟩ => ⟨v,h1,uc hf l _ h2⟩
theorem cm {Q : Exit → Act → World → Prop} {JB : Nat} {a : Act} {w w0 : World} (k : Nat) (mask : List Bool) (hm : P.follows .mixedOrders = true) (hc : yT ops k mask = true) (cX : aa w0 w)
  (h : k7 P ops w0 (fun A => ∀ W,aa w0 W → bA P ops (aa w0) (fun A W => wpList P ops Q (ops.toList.drop k) A W) (dO mask (ops.toList.take k)) A W) (d_ mask (ops.toList.take k)) a) : (Code.region JB ops true).wp P Q a w:=
 ec k mask hm hc cX (uc (fun _ h => h _ (ak cX)) _ _ h)
end
section
variable {P : Program} {ops : Array Oper}
def jR {α : Type} (c : Nat) : List Nat → List α → List α
 | x :: m,o :: l => if x = c then o :: jR c m l else jR c m l
 | [],_ => []
 | _ :: _,[] => []
def iH (b : Nat) (m : List Nat) (i : Nat) : Nat:=(m.take i).count b
theorem qu {α : Type} (c : Nat) : ∀ (m : List Nat) (l : List α) (i : Nat),m.length = l.length → m[i]? = some c → (jR c m l)[iH c m i]? = l[i]?
 | [],_,i,_,h => by simp at h
 | x :: m,o :: l,0,_,h => by simp at h;subst h;simp [iH,jR]
 | x :: m,o :: l,i + 1,hl,h => by
  have:=qu c m l i (by simpa using hl) (by simpa using h)
  unfold jR
  split
  ·rename_i e;subst e;simpa [iH] using this
  ·rename_i e;simpa [iH,List.count_cons_of_ne e] using this
theorem qv {α : Type} (c : Nat) : ∀ (m : List Nat) (l : List α),m.length = l.length → (jR c m l).length = m.count c
 | [],[],_ => rfl
 | x :: m,o :: l,hl => by
  have:=qv c m l (by simpa using hl)
  unfold jR
  split
  ·rename_i e;subst e;simp [this]
  ·rename_i e;simp [List.count_cons_of_ne e,this]
theorem JD {b : Nat} {m : List Nat} {i : Nat} {x : Nat} (h : m[i]? = some x) : iH b m (i + 1) = iH b m i + if x = b then 1 else 0:=by
 obtain ⟨hi,rfl⟩:=List.getElem?_eq_some_iff.1 h;unfold iH;rw [List.take_succ_eq_append_getElem hi,List.count_append];congr 1
 simp [List.count_cons]
theorem P_ {b : Nat} {m : List Nat} {i j : Nat} (h : i ≤ j) : iH b m i ≤ iH b m j:=by
 unfold iH;exact List.Sublist.count_le _ (List.IsPrefix.sublist (List.take_prefix_take_left h))
theorem rB {b : Nat} {m : List Nat} {i j : Nat} (h : i < j) (hi : m[i]? = some b) : iH b m i < iH b m j:=by
 have h1:=JD (b:=b) hi;rw [if_pos rfl] at h1
 have:=P_ (b:=b) (m:=m) (show i + 1 ≤ j from h)
 omega
theorem qw {b : Nat} {m : List Nat} {i j : Nat} (hi : m[i]? = some b) (hj : m[j]? = some b) (h : iH b m i = iH b m j) : i = j:=by
 rcases Nat.lt_trichotomy i j with hl | hl | hl
 ·have:=rB hl hi;omega
 ·exact hl
 ·have:=rB hl hj;omega
theorem gz {b : Nat} {m : List Nat} {i : Nat} (hi : m[i]? = some b) : iH b m i < m.count b:=by
 have h1:=rB (Nat.lt_of_lt_of_le (List.getElem?_eq_some_iff.1 hi).1 (Nat.le_refl m.length)) hi
 unfold iH at h1 ⊢
 rw [List.take_length] at h1;exact h1
theorem mq {b : Nat} : ∀ (m : List Nat) (q : Nat),q < m.count b → ∃ i : Nat,m[i]? = some b ∧ iH b m i = q
 | [],q,h => by simp at h
 | x :: m,q,h => by
  by_cases hx : x = b
  ·subst hx
   cases q with
   | zero => exact ⟨0,by simp,by simp [iH]⟩
   | succ q =>
    obtain ⟨i,h1,h2⟩:=mq m q (by simpa using h)
    exact ⟨i + 1, by simpa using h1, by have : iH x (x :: m) (i + 1) = iH x m i + 1 := by simp [iH]
                                        omega⟩
  ·obtain ⟨i,h1,h2⟩:=mq m q (by rwa [List.count_cons_of_ne hx] at h)
   exact ⟨i + 1, by simpa using h1, by have : iH b (x :: m) (i + 1) = iH b m i := by simp [iH, List.count_cons_of_ne hx]
                                       omega⟩
def qx (P : Program) (ops : Array Oper) (fin : Act → World → Prop) : List Oper → Act → World → Prop
 | [],A,W => fin A W
 | o :: rest,A,W => ∀ W1,aa W W1 →
  (Region.wanted o (yielded ops A.tmps) = true ∧ match (execOp A.eval o).run P W1 with
   | .ok (.value u) W2 => aa W1 W2 ∧ qx P ops fin rest (A.put o.dst u) W2
   | .ok (.enter f args) W2 => Calls P f args W2 fun e W3 => ∃ u,e = .returned u ∧ aa W1 W3 ∧ qx P ops fin rest (A.put o.dst u) W3
   | _ => False)
theorem qx.since {fin : Act → World → Prop} (fA : ∀ A W W',fin A W → aa W W' → fin A W') : ∀ (l : List Oper) (A : Act) (W W' : World),qx P ops fin l A W → aa W W' → qx P ops fin l A W'
 | [],A,W,W',h,hs => fA A W W' h hs
 | _ :: _,_,_,_,h,hs => fun W1 h1 => h W1 (hs.after h1)
def cj (ops : Array Oper) : List Nat → (Nat → Value) → Act → Act
 | [],_,A => A
 | j :: r,us,A => cj ops r us (match ops[j]? with | none => A | some o => A.put o.dst (us j))
def rC (c : Nat) (mask : List Nat) : List Nat:=(List.range mask.length).filter fun i => mask.getD i 99 == c
def OS (ops : Array Oper) (k : Nat) (mask : List Nat) : Bool:=
 tK ops k && decide (mask.length = k) && decide (k ≤ ops.size) && (mask.all fun x => decide (x ≤ 3)) &&
 (List.range k).all fun i => match ops[i]? with
  | none => true
  | some o =>
   let c:=mask.getD i 99
   let up:=(j8 ops (i + 1)).getD i []
   if c = 0 then (bS o).all fun j => mask.getD j 99 == 0
   else if c = 1 then ((bS o).all fun j => mask.getD j 99 == 0 || mask.getD j 99 == 1) && (List.range i).all fun j => !(mask.getD j 99 == 1) || up.contains j
   else if c = 2 then (bS o).all fun j => mask.getD j 99 == 0
   else ((List.range k).all fun j => !(mask.getD j 99 == 1 || mask.getD j 99 == 2) || up.contains j) && (List.range i).all fun j => !(mask.getD j 99 == 3) || up.contains j
def Qa (P : Program) (ops : Array Oper) (w0 : World) (R : Nat → World → Value → Prop) (A : Act) (j : Nat) : Prop:=
 ∀ o,ops[j]? = some o → Region.wanted o (yielded ops A.tmps) = true ∧ ∀ W,aa w0 W → ku P (R j) o A W
theorem mr {a : Act} {k : Nat} (hd : ∀ i o,i < k → ops[i]? = some o → ∀ j oj,j < k → ops[j]? = some oj → ∀ d,o.dst = some d → oj.dst = some d → j = i) (hk : k ≤ ops.size) (V : Nat → Value) : ∀ (l : List Nat) (D : Nat → Prop) (A : Act),(∀ j,D j → j < k) → (∀ j ∈ l,j < k ∧ ¬ D j) → l.Nodup → aX a ops V D A → aX a ops V (fun j => D j ∨ j ∈ l) (cj ops l V A)
 | [],D,A,_,_,_,h => h.same (fun j => by simp)
 | j :: r,D,A,hD,hl,hn,h => by
  have hj:=hl j (by simp);have yO : j < ops.size:=by omega
  have ho : ops[j]? = some ops[j]:=Array.getElem?_eq_getElem yO
  have h1:=h.put ho (fun j' oj d CN fw kV iz => by
   have:=hd j _ hj.1 ho j' oj (hD j' CN) fw d kV iz
   subst this
   exact hj.2 CN)
  have OT:=List.nodup_cons.1 hn
  have:=mr hd hk V r (fun x => D x ∨ x = j) _ (fun x hx => hx.elim (hD x) (fun e => by omega)) (fun x hx => ⟨(hl x (List.mem_cons_of_mem _ hx)).1,fun e => e.elim (hl x (List.mem_cons_of_mem _ hx)).2 (fun e => by subst e;exact OT.1 hx)⟩) OT.2 h1
  unfold cj;rw [ho];exact this.same (fun x => by simp [or_assoc])
theorem nq {Q : Exit → Act → World → Prop} {JB : Nat} {a : Act} {w w0 : World} (k : Nat) (mask : List Nat) (R : Nat → World → Value → Prop) (hR : ∀ j W W' u,R j W u → aa W W' → R j W' u) (hm : P.follows .mixedOrders = true) (hc : OS ops k mask = true) (cX : aa w0 w)
  (h : k7 P ops w0 (fun A => (∀ j ∈ rC 2 mask,Qa P ops w0 R A j) ∧ ∀ W,aa w0 W → qx P ops (fun A W => ∀ (us : Nat → Value) W1,aa W W1 → (∀ j ∈ rC 2 mask,R j W1 (us j)) → bA P ops (aa w0) (fun A W => wpList P ops Q (ops.toList.drop k) A W) (jR 3 mask (ops.toList.take k)) (cj ops (rC 2 mask) us A) W1) (jR 1 mask (ops.toList.take k)) A W) (jR 0 mask (ops.toList.take k)) a) : (Code.region JB ops true).wp P Q a w:=by
 unfold OS at hc;simp only [Bool.and_eq_true,decide_eq_true_eq] at hc;obtain ⟨⟨⟨⟨hf,GA⟩,Dp⟩,gF⟩,XI⟩:=hc;have gD:=qg hf
 have hlt : mask.length = (ops.toList.take k).length:=by simp;omega
 have IS : ∀ i,i < k → ∃ b,mask[i]? = some b ∧ b ≤ 3:=fun i hi => ⟨_,List.getElem?_eq_getElem (by omega),by simpa using List.all_eq_true.1 gF _ (List.getElem_mem (by omega))⟩
 have qh : ∀ i o,i < k → ops[i]? = some o → (ops.toList.take k)[i]? = some o:=fun i o hi ho => by
  rw [List.getElem?_take,if_pos hi];simpa using ho
 have zU : ∀ i b,mask[i]? = some b → mask.getD i 99 = b:=fun i b hb => by rw [zDd,hb];rfl
 have e_ : ∀ i b,mask[i]? = some b → i < k:=fun i b hb => by have:=(List.getElem?_eq_some_iff.1 hb).1;omega
 have yU : ∀ j c,j ∈ rC c mask ↔ mask[j]? = some c ∧ c ≠ 99 ∨ (c = 99 ∧ j ∈ rC c mask):=fun j c => by
  by_cases TX : c = 99
  ·simp [TX]
  ·simp only [TX,ne_eq,not_false_eq_true,and_true,false_and,or_false];unfold rC;rw [List.mem_filter,List.mem_range];constructor
   ·rintro ⟨h1,h2⟩;rw [zDd,List.getElem?_eq_getElem h1] at h2;rw [List.getElem?_eq_getElem h1];simpa using h2
   ·intro h1
    exact ⟨(List.getElem?_eq_some_iff.1 h1).1,by rw [zU j c h1];simp⟩
 have tR : ∀ j,j ∈ rC 2 mask ↔ mask[j]? = some 2:=fun j => by rw [yU j 2];simp
 have row : ∀ i o,i < k → ops[i]? = some o → _:=fun i o hi ho => by
  have:=List.all_eq_true.1 XI i (List.mem_range.2 hi)
  simp only [ho] at this;exact this
 have XJ : ∀ i j o c,i < k → ops[i]? = some o → j ∈ bS o → (mask.getD j 99 == c) = true → mask[j]? = some c:=fun i j o c hi ho hj hd => by
  have lO : j < k:=by have:=gD.back i o ho j hj;omega
  obtain ⟨b,hb,-⟩:=IS j lO;rw [zU j b hb] at hd
  rw [hb];simpa using hd
 have c0 : ∀ i o j,mask[i]? = some 0 → ops[i]? = some o → j ∈ bS o → mask[j]? = some 0:=fun i o j hi ho hj => by
  have jX:=e_ i _ hi
  have:=row i o jX ho
  simp only [zU i _ hi,if_true] at this;exact XJ i j o 0 jX ho hj (List.all_eq_true.1 this j hj)
 have c1 : ∀ i o j,mask[i]? = some 1 → ops[i]? = some o → j ∈ bS o → mask[j]? = some 0 ∨ mask[j]? = some 1:=fun i o j hi ho hj => by
  have jX:=e_ i _ hi
  have:=row i o jX ho
  simp only [zU i _ hi,Nat.one_ne_zero,if_false,if_true,Bool.and_eq_true] at this;have h1:=List.all_eq_true.1 this.1 j hj;rw [Bool.or_eq_true] at h1;exact h1.imp (XJ i j o 0 jX ho hj) (XJ i j o 1 jX ho hj)
 have c2 : ∀ i o j,mask[i]? = some 2 → ops[i]? = some o → j ∈ bS o → mask[j]? = some 0:=fun i o j hi ho hj => by
  have jX:=e_ i _ hi
  have:=row i o jX ho
  simp only [zU i _ hi,show ¬ (2 : Nat) = 0 by decide,show ¬ (2 : Nat) = 1 by decide,if_false,if_true] at this
  exact XJ i j o 0 jX ho hj (List.all_eq_true.1 this j hj)
 have ch1 : ∀ i j,mask[i]? = some 1 → mask[j]? = some 1 → j < i → Mh ops j i:=fun i j hi hj m_ => by
  have jX:=e_ i _ hi
  have:=row i _ jX (Array.getElem?_eq_getElem (by omega))
  simp only [zU i _ hi,Nat.one_ne_zero,if_false,if_true,Bool.and_eq_true] at this
  have:=List.all_eq_true.1 this.2 j (List.mem_range.2 m_)
  rw [zU j _ hj] at this;exact fR (i + 1) i j (by simpa using this)
 have ch3 : ∀ i j,mask[i]? = some 3 → (mask[j]? = some 1 ∨ mask[j]? = some 2 ∨ (mask[j]? = some 3 ∧ j < i)) → Mh ops j i:=fun i j hi hj => by
  have jX:=e_ i _ hi
  have:=row i _ jX (Array.getElem?_eq_getElem (by omega))
  simp only [zU i _ hi,show ¬ (3 : Nat) = 0 by decide,show ¬ (3 : Nat) = 1 by decide,show ¬ (3 : Nat) = 2 by decide,if_false,Bool.and_eq_true] at this
  rcases hj with hj | hj | ⟨hj,m_⟩
  ·have:=List.all_eq_true.1 this.1 j (List.mem_range.2 (e_ j _ hj))
   rw [zU j _ hj] at this;exact fR (i + 1) i j (by simpa using this)
  ·have:=List.all_eq_true.1 this.1 j (List.mem_range.2 (e_ j _ hj))
   rw [zU j _ hj] at this;exact fR (i + 1) i j (by simpa using this)
  ·have:=List.all_eq_true.1 this.2 j (List.mem_range.2 m_)
   rw [zU j _ hj] at this;exact fR (i + 1) i j (by simpa using this)
 obtain ⟨vals,F,h0,⟨OU,fA⟩,gE⟩:=qj _ a h
 have xU : ∀ r,r ≤ mask.count 0 → aX a ops (fun j => vals (iH 0 mask j)) (fun j => mask[j]? = some 0 ∧ iH 0 mask j < r) (F r):=by
  intro r
  induction r with
  | zero => intro _;rw [h0];exact ⟨rfl,rfl,fun j _ _ hj => by have:=hj.2;omega,fun _ _ => rfl⟩
  | succ r ih =>
   intro hr;obtain ⟨i,pp,tR⟩:=mq (b:=0) mask r (by omega);have jX:=e_ i _ pp;have ho : ops[i]? = some ops[i]:=Array.getElem?_eq_getElem (by omega);have jB:=qu 0 mask _ i hlt pp;rw [qh i _ jX ho,tR] at jB;rw [(gE r _ jB).2]
   have:=((ih (by omega)).put ho (fun j oj d hj fw hd iz => by
    have:=gD.dsts i _ jX ho j oj (e_ j _ hj.1) fw d hd iz
    subst this
    have:=hj.2
    omega)).same (E:=fun j => mask[j]? = some 0 ∧ iH 0 mask j < r + 1) (fun j => by
     constructor
     ·rintro (⟨a1,a2⟩ | rfl)
      ·exact ⟨a1,by omega⟩
      ·exact ⟨pp,by omega⟩
     ·rintro ⟨a1,a2⟩
      by_cases e : iH 0 mask j = r
      ·exact .inr (qw a1 pp (by omega))
      ·exact .inl ⟨a1,by omega⟩)
   rw [show vals r = vals (iH 0 mask i) by rw [tR]]
   exact this
 have Zd : (jR 0 mask (ops.toList.take k)).length = mask.count 0:=qv _ _ _ hlt;rw [Zd] at fA OU;have mK : (jR 1 mask (ops.toList.take k)).length = mask.count 1:=qv _ _ _ hlt;have hn3 : (jR 3 mask (ops.toList.take k)).length = mask.count 3:=qv _ _ _ hlt
 let JE : Act → World → Prop:=fun A W => ∀ (us : Nat → Value) W1,aa W W1 → (∀ j ∈ rC 2 mask,R j W1 (us j)) → bA P ops (aa w0) (fun A W => wpList P ops Q (ops.toList.drop k) A W) (jR 3 mask (ops.toList.take k)) (cj ops (rC 2 mask) us A) W1
 have TY : ∀ A W W',JE A W → aa W W' → JE A W':=fun A W W' h hs us W1 h1 => h us W1 (hs.after h1)
 let J : (Nat → Prop) → Act → World → Prop:=fun D a' W =>
  (aa w0 W ∧ (∀ j,D j → j < k) ∧ (∀ j,mask[j]? = some 3 → ¬ D j) ∧ ∃ (V : Nat → Value) (q : Nat) (A : Act),(∀ j,mask[j]? = some 0 → V j = vals (iH 0 mask j)) ∧ (∀ j,mask[j]? = some 1 → (D j ↔ iH 1 mask j < q)) ∧
   (∀ j,mask[j]? = some 2 → D j → R j W (V j)) ∧ aX a ops V D a' ∧ aX a ops V (fun j => mask[j]? = some 0 ∨ (mask[j]? = some 1 ∧ iH 1 mask j < q)) A ∧
   qx P ops JE ((jR 1 mask (ops.toList.take k)).drop q) A W) ∨
  (aa w0 W ∧ (∀ j,D j → j < k) ∧ (∀ j,mask[j]? = some 1 ∨ mask[j]? = some 2 → D j) ∧ ∃ (V : Nat → Value) (q : Nat) (A : Act),(∀ j,mask[j]? = some 0 → V j = vals (iH 0 mask j)) ∧ (∀ j,mask[j]? = some 3 → (D j ↔ iH 3 mask j < q)) ∧
   aX a ops V D a' ∧ aX a ops V (fun j => mask[j]? = some 0 ∨ mask[j]? = some 1 ∨ mask[j]? = some 2 ∨ (mask[j]? = some 3 ∧ iH 3 mask j < q)) A ∧
   bA P ops (aa w0) (fun A W => wpList P ops Q (ops.toList.drop k) A W) ((jR 3 mask (ops.toList.take k)).drop q) A W) ∨
  (∃ m,k ≤ m ∧ m ≤ ops.size ∧ (∀ j,j < ops.size → (D j ↔ j < m)) ∧ wpList P ops Q (ops.toList.drop m) a' W)
 have TZ : ∀ D a' W,J D a' W → (∀ j,mask[j]? = some 1 ∨ mask[j]? = some 2 → D j) → (∀ j,D j → j < k) →
   (aa w0 W ∧ ∃ (V : Nat → Value) (q : Nat) (A : Act),(∀ j,mask[j]? = some 0 → V j = vals (iH 0 mask j)) ∧ (∀ j,mask[j]? = some 3 → (D j ↔ iH 3 mask j < q)) ∧
   aX a ops V D a' ∧ aX a ops V (fun j => mask[j]? = some 0 ∨ mask[j]? = some 1 ∨ mask[j]? = some 2 ∨ (mask[j]? = some 3 ∧ iH 3 mask j < q)) A ∧
   bA P ops (aa w0) (fun A W => wpList P ops Q (ops.toList.drop k) A W) ((jR 3 mask (ops.toList.take k)).drop q) A W) ∨ ∃ m,k ≤ m ∧ m ≤ ops.size ∧ (∀ j,j < ops.size → (D j ↔ j < m)) ∧ wpList P ops Q (ops.toList.drop m) a' W:=by
  intro D a' W hJ hD MW;rcases hJ with ⟨hW,om,h3,V,q,A,hV,hT,hU,i8,wX,MX⟩ | ⟨hW,om,-,hJ⟩ | hJ
  ·have hq : mask.count 1 ≤ q:=by
    by_cases e : mask.count 1 ≤ q
    ·exact e
    ·obtain ⟨i,pp,tR⟩:=mq (b:=1) mask q (by omega)
     have:=(hT i pp).1 (hD i (.inl pp))
     omega
   have JC : (jR 1 mask (ops.toList.take k)).drop q = []:=List.drop_eq_nil_of_le (by omega);rw [JC] at MX;have Zf : JE A W:=MX;have CQ:=Zf V W (ad _) (fun j hj => hU j ((tR j).1 hj) (hD j (.inr ((tR j).1 hj))))
   refine .inl ⟨hW,V,0,cj ops (rC 2 mask) V A,hV,fun j hj => ⟨fun h => absurd h (h3 j hj),fun h => by omega⟩,i8,?_,by rw [List.drop_zero];exact CQ⟩
   have:=mr (a:=a) gD.dsts Dp V (rC 2 mask) _ A (fun j hj => hj.elim (fun h => e_ j _ h) (fun h => e_ j _ h.1)) (fun j hj => ⟨e_ j _ ((tR j).1 hj),fun e => by
    have h2:=(tR j).1 hj
    rcases e with e | ⟨e,-⟩ <;> rw [h2] at e <;> cases e⟩) (List.Pairwise.filter _ List.nodup_range) wX
   exact this.same (fun j => by
    rw [tR];constructor
    ·rintro ((h | ⟨h,-⟩) | h)
     ·exact .inl h
     ·exact .inr (.inl h)
     ·exact .inr (.inr (.inl h))
    ·rintro (h | h | h | ⟨-,h⟩)
     ·exact .inl (.inl h)
     ·exact .inl (.inr ⟨h,by have:=gz h;omega⟩)
     ·exact .inr h
     ·omega)
  ·exact .inl ⟨hW,hJ⟩
  ·exact .inr hJ
 have A4 : ∀ D a' W,J D a' W → (∀ j,j < k → D j) → ∃ m,k ≤ m ∧ m ≤ ops.size ∧ (∀ j,j < ops.size → (D j ↔ j < m)) ∧ wpList P ops Q (ops.toList.drop m) a' W:=by
  intro D a' W hJ hD
  by_cases om : ∀ j,D j → j < k
  ·rcases TZ D a' W hJ (fun j hj => hD j (hj.elim (e_ j _) (e_ j _))) om with ⟨hW,V,q,A,hV,hT,i8,wX,CQ⟩ | hJ
   ·have hq : mask.count 3 ≤ q:=by
     by_cases e : mask.count 3 ≤ q
     ·exact e
     ·obtain ⟨i,pp,tR⟩:=mq (b:=3) mask q (by omega)
      have:=(hT i pp).1 (hD i (e_ i _ pp))
      omega
    have JC : (jR 3 mask (ops.toList.take k)).drop q = []:=List.drop_eq_nil_of_le (by omega);rw [JC] at CQ
    have : a' = A:=i8.ext wX (fun j hj => by
     constructor
     ·intro CN;obtain ⟨b,hb,bg⟩:=IS j (om j CN)
      have : b = 0 ∨ b = 1 ∨ b = 2 ∨ b = 3:=by omega
      rcases this with rfl | rfl | rfl | rfl
      ·exact .inl hb
      ·exact .inr (.inl hb)
      ·exact .inr (.inr (.inl hb))
      ·exact .inr (.inr (.inr ⟨hb,(hT j hb).1 CN⟩))
     ·rintro (hb | hb | hb | ⟨hb,_⟩) <;> exact hD j (e_ j _ hb))
    subst this;exact ⟨k,Nat.le_refl _,Dp,fun j _ => ⟨fun h => om j h,fun h => hD j h⟩,CQ⟩
   ·exact hJ
  ·rcases hJ with ⟨-,MW,-⟩ | ⟨-,MW,-⟩ | hJ
   ·exact absurd MW om
   ·exact absurd MW om
   ·exact hJ
 refine kB hm gD.back J (.inl ⟨ak cX,fun j hj => hj.elim,fun j _ hj => hj.elim,fun j => vals (iH 0 mask j),0,F (mask.count 0),fun j _ => rfl,fun j _ => ⟨fun h => h.elim,fun h => by omega⟩,fun j _ hj => hj.elim,⟨rfl,rfl,fun j _ _ hj => hj.elim,fun _ _ => rfl⟩,?_,?_⟩) ?_ ?_
 ·exact (xU _ (Nat.le_refl _)).same (fun j => by
   constructor
   ·rintro ⟨a1,-⟩;exact .inl a1
   ·rintro (a1 | ⟨-,a2⟩)
    ·exact ⟨a1,gz a1⟩
    ·omega)
 ·rw [List.drop_zero];exact fA _ (ak cX)
 ·intro D a' W i o hJ ho oo iR kh;have dC : i < ops.size:=(Array.getElem?_eq_some_iff.1 ho).1
  by_cases jX : i < k
  ·have om : ∀ j,D j → j < k:=by
    rcases hJ with ⟨-,h,-⟩ | ⟨-,h,-⟩ | ⟨m,h1,h2,h3,-⟩
    ·exact h
    ·exact h
    ·exact absurd ((h3 i dC).2 (by omega)) oo
   have JF : ∀ j,(D j ∨ j = i) → j < k:=fun j hj => hj.elim (om j) (fun e => by omega)
   have MY : ∀ {p : Prop},(∃ m,k ≤ m ∧ m ≤ ops.size ∧ (∀ j,j < ops.size → (D j ↔ j < m)) ∧ wpList P ops Q (ops.toList.drop m) a' W) → p:=fun ⟨m,h1,h2,h3,_⟩ => absurd ((h3 i dC).2 (by omega)) oo
   have look : ∀ t ∈ o.looksAt ops,∀ j oj,j < k → ops[j]? = some oj → oj.dst = some t → D j ∧ j ∈ bS o:=fun t ht j oj lO fw hd => by
    have:=gD.looks i o jX ho t ht j oj lO fw hd
    exact ⟨iR j this,this⟩
   have pC : ∀ (E : Nat → Prop),(∀ j,E j → j < k) → ¬ E i → ∀ j oj d,E j → ops[j]? = some oj → o.dst = some d → oj.dst ≠ some d:=fun E hE Qb j oj d hj fw hd iz => by
    have:=gD.dsts i o jX ho j oj (hE j hj) fw d hd iz
    subst this;exact Qb hj
   obtain ⟨b,hb,bg⟩:=IS i jX;have hb' : b = 0 ∨ b = 1 ∨ b = 2 ∨ b = 3:=by omega
   have JG : ∀ j c,mask[j]? = some c → c ≠ b → j ≠ i:=fun j c hj hc e => by subst e;rw [hb] at hj;cases hj;exact hc rfl
   rcases hb' with rfl | rfl | rfl | rfl
   ·-- a read
    have jB:=qu 0 mask _ i hlt hb;rw [qh i _ jX ho] at jB;obtain ⟨⟨hw,dt⟩,-⟩:=gE _ _ jB;have hr:=gz hb
    have n8 : ∀ V : Nat → Value,(∀ j,mask[j]? = some 0 → V j = vals (iH 0 mask j)) → aX a ops V D a' → execOp a'.eval o = execOp (F (iH 0 mask i)).eval o ∧ Region.wanted o (yielded ops a'.tmps) = Region.wanted o (yielded ops (F (iH 0 mask i)).tmps):=fun V hV i8 =>
     fC (ops:=ops) (a':=a') (A:=F (iH 0 mask i)) (fun t ht => i8.agree ((xU _ (Nat.le_of_lt hr)).vals (v':=V) (fun j hj => (hV j hj.1).symm)) t (fun j oj hj fw hd => by
      have lO : j < k:=hj.elim (fun h => om j h) (fun h => e_ j _ h.1)
      obtain ⟨d1,d2⟩:=look t ht j oj lO fw hd;have OR:=c0 i o j hb ho d2
      exact ⟨d1,OR,rB (gD.back i o ho j d2) OR⟩)) (fun cs b => gD.nosel i o cs b ho)
    have T1 : ∀ V : Nat → Value,(∀ j,mask[j]? = some 0 → V j = vals (iH 0 mask j)) → aX a ops V D a' → aX a ops V (fun j => D j ∨ j = i) (a'.put o.dst (vals (iH 0 mask i))):=fun V hV i8 => by
     have:=i8.put (i:=i) ho (pC D om oo)
     rwa [hV i hb] at this
    have dd : ∀ j c,c ≠ 0 → mask[j]? = some c → ((D j ∨ j = i) ↔ D j):=fun j c hc hj => ⟨fun h => h.elim id (fun e => absurd e (JG j c hj hc)),.inl⟩
    rcases hJ with ⟨hW,-,h3,V,q,A,hV,hT,hU,i8,wX,MX⟩ | ⟨hW,-,jZ,V,q,A,hV,hT,i8,wX,CQ⟩ | hJ
    ·obtain ⟨he,wY⟩:=n8 V hV i8;rw [if_pos (wY.trans hw)];refine .inl ?_;unfold Oper.wp;rw [he,dt W hW];exact .inl ⟨hW,JF,fun j hj h => h3 j hj ((dd j 3 (by decide) hj).1 h),V,q,A,hV,fun j hj => (dd j 1 (by decide) hj).trans (hT j hj),fun j hj h => hU j hj ((dd j 2 (by decide) hj).1 h),T1 V hV i8,wX,MX⟩
    ·obtain ⟨he,wY⟩:=n8 V hV i8;rw [if_pos (wY.trans hw)];refine .inl ?_;unfold Oper.wp;rw [he,dt W hW];exact .inr (.inl ⟨hW,JF,fun j hj => .inl (jZ j hj),V,q,A,hV,fun j hj => (dd j 3 (by decide) hj).trans (hT j hj),T1 V hV i8,wX,CQ⟩)
    ·exact MY hJ
   ·-- the first chain
    rcases hJ with ⟨hW,-,h3,V,q,A,hV,hT,hU,i8,wX,MX⟩ | ⟨hW,-,jZ,-⟩ | hJ
    rotate_left
    ·exact absurd (jZ i (.inl hb)) oo
    ·exact MY hJ
    have hq : iH 1 mask i = q:=by
     have h1 : ¬ iH 1 mask i < q:=fun h => oo ((hT i hb).2 h)
     by_cases e : iH 1 mask i = q
     ·exact e
     ·obtain ⟨j,sD,xF⟩:=mq (b:=1) mask q (by have:=gz hb;omega)
      have m_ : j < i:=by
       rcases Nat.lt_trichotomy j i with h | h | h
       ·exact h
       ·subst h;omega
       ·have:=rB h hb;omega
      have:=gy kh ho iR (ch1 i j hb sD m_)
      have:=(hT j sD).1 this
      omega
    have jB:=qu 1 mask _ i hlt hb;rw [qh i _ jX ho,hq] at jB;have MV : q < (jR 1 mask (ops.toList.take k)).length:=(List.getElem?_eq_some_iff.1 jB).1;rw [List.drop_eq_getElem_cons MV,(List.getElem?_eq_some_iff.1 jB).2] at MX
    obtain ⟨he,wY⟩:=fC (ops:=ops) (a':=a') (A:=A) (fun t ht => i8.agree wX t (fun j oj hj fw hd => by
     have lO : j < k:=hj.elim (fun h => om j h) (fun h => h.elim (e_ j _) (fun h => e_ j _ h.1))
     obtain ⟨d1,d2⟩:=look t ht j oj lO fw hd;refine ⟨d1,?_⟩;rcases c1 i o j hb ho d2 with hb' | hb'
     ·exact .inl hb'
     ·exact .inr ⟨hb',(hT j hb').1 d1⟩)) (fun cs b => gD.nosel i o cs b ho)
    have next : ∀ u W',aa W W' → qx P ops JE ((jR 1 mask (ops.toList.take k)).drop (q + 1)) (A.put o.dst u) W' → J (fun j => D j ∨ j = i) (a'.put o.dst u) W':=by
     intro u W' hS ht
     let V' : Nat → Value:=fun j => if j = i then u else V j
     have e1 : ∀ j,j ≠ i → V' j = V j:=fun j hj => if_neg hj
     have e2 : V' i = u:=if_pos rfl;refine .inl ⟨hW.after hS,JF,fun j hj h => h.elim (h3 j hj) (JG j 3 hj (by decide)),V',q + 1,A.put o.dst u,fun j hj => ?_,fun j hj => ?_,fun j hj h => ?_,?_,?_,ht⟩
     ·rw [e1 j (JG j 0 hj (by decide))];exact hV j hj
     ·constructor
      ·rintro (h | rfl)
       ·have:=(hT j hj).1 h;omega
       ·omega
      ·intro h
       by_cases e : iH 1 mask j = q
       ·exact .inr (qw hj hb (by omega))
       ·exact .inl ((hT j hj).2 (by omega))
     ·rw [e1 j (JG j 2 hj (by decide))];exact hR j W W' _ (hU j hj (h.elim id (fun e => absurd e (JG j 2 hj (by decide))))) hS
     ·have:=(i8.vals2 (v':=V') (fun j _ hj => (e1 j (fun e => by subst e;exact oo hj)).symm)).put (i:=i) ho (pC D om oo)
      rwa [e2] at this
     ·have Qb : ¬ (mask[i]? = some 0 ∨ (mask[i]? = some 1 ∧ iH 1 mask i < q)):=by
       rintro (h | ⟨-,h⟩)
       ·rw [hb] at h;cases h
       ·omega
      have:=((wX.vals2 (v':=V') (fun j _ hj => (e1 j (fun e => by subst e;exact Qb hj)).symm)).put (i:=i) ho (pC _ (fun j hj => hj.elim (e_ j _) (fun h => e_ j _ h.1)) Qb)).same (E:=fun j => mask[j]? = some 0 ∨ (mask[j]? = some 1 ∧ iH 1 mask j < q + 1)) (fun j => by
        constructor
        ·rintro ((h | ⟨h,h'⟩) | rfl)
         ·exact .inl h
         ·exact .inr ⟨h,by omega⟩
         ·exact .inr ⟨hb,by omega⟩
        ·rintro (h | ⟨h,h'⟩)
         ·exact .inl (.inl h)
         ·by_cases e : iH 1 mask j = q
          ·exact .inr (qw h hb (by omega))
          ·exact .inl (.inr ⟨h,by omega⟩))
      rwa [e2] at this
    obtain ⟨hw,dt⟩:=MX W (ad _);rw [if_pos (wY.trans hw)];refine .inl ?_;unfold Oper.wp;rw [he]
    generalize (execOp A.eval o).run P W = r at dt ⊢
    cases r with
    | ok nx W' =>
     cases nx with
     | value u => exact next u W' dt.1 dt.2
     | enter f args =>
      simp only [Oper.upon]
      exact Calls.mono dt fun e mZ ⟨u,Da,h3,h4⟩ => by subst Da;exact next u mZ h3 h4
     | _ => exact dt.elim
    | halt x W' => exact dt.elim
   ·-- a free one
    rcases hJ with ⟨hW,-,h3,V,q,A,hV,hT,hU,i8,wX,MX⟩ | ⟨hW,-,jZ,-⟩ | hJ
    rotate_left
    ·exact absurd (jZ i (.inr hb)) oo
    ·exact MY hJ
    obtain ⟨hw,pD⟩:=OU i ((tR i).2 hb) o ho
    obtain ⟨he,wY⟩:=fC (ops:=ops) (a':=a') (A:=F (mask.count 0)) (fun t ht => i8.agree ((xU _ (Nat.le_refl _)).vals (v':=V) (fun j hj => (hV j hj.1).symm)) t (fun j oj hj fw hd => by
     have lO : j < k:=hj.elim (fun h => om j h) (fun h => e_ j _ h.1)
     obtain ⟨d1,d2⟩:=look t ht j oj lO fw hd;have OR:=c2 i o j hb ho d2
     exact ⟨d1,OR,gz OR⟩)) (fun cs b => gD.nosel i o cs b ho)
    have next : ∀ u W',R i W' u → aa W W' → J (fun j => D j ∨ j = i) (a'.put o.dst u) W':=by
     intro u W' hr hS
     let V' : Nat → Value:=fun j => if j = i then u else V j
     have e1 : ∀ j,j ≠ i → V' j = V j:=fun j hj => if_neg hj
     have e2 : V' i = u:=if_pos rfl;refine .inl ⟨hW.after hS,JF,fun j hj h => h.elim (h3 j hj) (JG j 3 hj (by decide)),V',q,A,fun j hj => ?_,fun j hj => ?_,fun j hj h => ?_,?_,?_,qx.since TY _ _ _ _ MX hS⟩
     ·rw [e1 j (JG j 0 hj (by decide))];exact hV j hj
     ·rw [← hT j hj];exact ⟨fun h => h.elim id (fun e => absurd e (JG j 1 hj (by decide))),.inl⟩
     ·by_cases e : j = i
      ·subst e;rw [e2];exact hr
      ·rw [e1 j e];exact hR j W W' _ (hU j hj (h.elim id (fun e' => absurd e' e))) hS
     ·have:=(i8.vals2 (v':=V') (fun j _ hj => (e1 j (fun e => by subst e;exact oo hj)).symm)).put (i:=i) ho (pC D om oo)
      rwa [e2] at this
     ·exact wX.vals2 (fun j _ hj => (e1 j (by
       rcases hj with hj | ⟨hj,-⟩
       ·exact JG j 0 hj (by decide)
       ·exact JG j 1 hj (by decide))).symm)
    rw [if_pos (wY.trans hw)];refine .inl ?_;unfold Oper.wp;rw [he];have pD:=pD W hW;unfold ku at pD
    generalize (execOp (F (mask.count 0)).eval o).run P W = r at pD ⊢
    cases r with
    | ok nx W' =>
     cases nx with
     | value u' => exact next u' W' pD.1 pD.2
     | enter f args =>
      simp only [Oper.upon]
      exact Calls.mono pD fun e mZ ⟨u,Da,h3,h4⟩ => by subst Da;exact next u mZ h3 h4
     | _ => exact pD.elim
    | halt x W' => exact pD.elim
   ·-- the chain behind
    have jZ : ∀ j,mask[j]? = some 1 ∨ mask[j]? = some 2 → D j:=fun j hj => gy kh ho iR (ch3 i j hb (hj.elim .inl (fun h => .inr (.inl h))))
    rcases TZ D a' W hJ jZ om with ⟨hW,V,q,A,hV,hT,i8,wX,CQ⟩ | hJ'
    rotate_left
    ·exact MY hJ'
    have hq : iH 3 mask i = q:=by
     have h1 : ¬ iH 3 mask i < q:=fun h => oo ((hT i hb).2 h)
     by_cases e : iH 3 mask i = q
     ·exact e
     ·obtain ⟨j,sD,xF⟩:=mq (b:=3) mask q (by have:=gz hb;omega)
      have m_ : j < i:=by
       rcases Nat.lt_trichotomy j i with h | h | h
       ·exact h
       ·subst h;omega
       ·have:=rB h hb;omega
      have:=gy kh ho iR (ch3 i j hb (.inr (.inr ⟨sD,m_⟩)))
      have:=(hT j sD).1 this
      omega
    have jB:=qu 3 mask _ i hlt hb;rw [qh i _ jX ho,hq] at jB;have MV : q < (jR 3 mask (ops.toList.take k)).length:=(List.getElem?_eq_some_iff.1 jB).1;rw [List.drop_eq_getElem_cons MV,(List.getElem?_eq_some_iff.1 jB).2] at CQ
    obtain ⟨he,wY⟩:=fC (ops:=ops) (a':=a') (A:=A) (fun t ht => i8.agree wX t (fun j oj hj fw hd => by
     have lO : j < k:=hj.elim (fun h => om j h) (fun h => h.elim (e_ j _) (fun h => h.elim (e_ j _) (fun h => h.elim (e_ j _) (fun h => e_ j _ h.1))))
     obtain ⟨d1,d2⟩:=look t ht j oj lO fw hd;refine ⟨d1,?_⟩;obtain ⟨b,hb',xV⟩:=IS j lO
     have : b = 0 ∨ b = 1 ∨ b = 2 ∨ b = 3:=by omega
     rcases this with rfl | rfl | rfl | rfl
     ·exact .inl hb'
     ·exact .inr (.inl hb')
     ·exact .inr (.inr (.inl hb'))
     ·exact .inr (.inr (.inr ⟨hb',(hT j hb').1 d1⟩)))) (fun cs b => gD.nosel i o cs b ho)
    have next : ∀ u W',aa w0 W' → bA P ops (aa w0) (fun A W => wpList P ops Q (ops.toList.drop k) A W) ((jR 3 mask (ops.toList.take k)).drop (q + 1)) (A.put o.dst u) W' → J (fun j => D j ∨ j = i) (a'.put o.dst u) W':=by
     intro u W' hS ht
     let V' : Nat → Value:=fun j => if j = i then u else V j
     have e1 : ∀ j,j ≠ i → V' j = V j:=fun j hj => if_neg hj
     have e2 : V' i = u:=if_pos rfl;refine .inr (.inl ⟨hS,JF,fun j hj => .inl (jZ j hj),V',q + 1,A.put o.dst u,fun j hj => ?_,fun j hj => ?_,?_,?_,ht⟩)
     ·rw [e1 j (JG j 0 hj (by decide))];exact hV j hj
     ·constructor
      ·rintro (h | rfl)
       ·have:=(hT j hj).1 h;omega
       ·omega
      ·intro h
       by_cases e : iH 3 mask j = q
       ·exact .inr (qw hj hb (by omega))
       ·exact .inl ((hT j hj).2 (by omega))
     ·have:=(i8.vals2 (v':=V') (fun j _ hj => (e1 j (fun e => by subst e;exact oo hj)).symm)).put (i:=i) ho (pC D om oo)
      rwa [e2] at this
     ·have Qb : ¬ (mask[i]? = some 0 ∨ mask[i]? = some 1 ∨ mask[i]? = some 2 ∨ (mask[i]? = some 3 ∧ iH 3 mask i < q)):=by
       rintro (h | h | h | ⟨-,h⟩)
       ·rw [hb] at h;cases h
       ·rw [hb] at h;cases h
       ·rw [hb] at h;cases h
       ·omega
      have:=((wX.vals2 (v':=V') (fun j _ hj => (e1 j (fun e => by subst e;exact Qb hj)).symm)).put (i:=i) ho (pC _ (fun j hj => hj.elim (e_ j _) (fun h => h.elim (e_ j _) (fun h => h.elim (e_ j _) (fun h => e_ j _ h.1)))) Qb)).same (E:=fun j => mask[j]? = some 0 ∨ mask[j]? = some 1 ∨ mask[j]? = some 2 ∨ (mask[j]? = some 3 ∧ iH 3 mask j < q + 1)) (fun j => by
        constructor
        ·rintro ((h | h | h | ⟨h,h'⟩) | rfl)
         ·exact .inl h
         ·exact .inr (.inl h)
         ·exact .inr (.inr (.inl h))
         ·exact .inr (.inr (.inr ⟨h,by omega⟩))
         ·exact .inr (.inr (.inr ⟨hb,by omega⟩))
        ·rintro (h | h | h | ⟨h,h'⟩)
         ·exact .inl (.inl h)
         ·exact .inl (.inr (.inl h))
         ·exact .inl (.inr (.inr (.inl h)))
         ·by_cases e : iH 3 mask j = q
          ·exact .inr (qw h hb (by omega))
          ·exact .inl (.inr (.inr (.inr ⟨h,by omega⟩))))
      rwa [e2] at this
    rcases CQ with ⟨hw,dt⟩ | ⟨hw,dt⟩
    ·rw [if_pos (wY.trans hw)];refine .inl ?_;unfold Oper.wp;rw [he]
     generalize (execOp A.eval o).run P W = r at dt ⊢
     cases r with
     | ok nx W' =>
      cases nx with
      | value u => exact next u W' dt.1 dt.2
      | skip => exact next undef W' dt.1 dt.2
      | row row args => exact Rows.mono dt fun u mZ h => next u mZ h.1 h.2
      | enter f args =>
       simp only [Oper.upon]
       exact Calls.mono dt fun e mZ ⟨u,Da,h3,h4⟩ => by subst Da;exact next u mZ h3 h4
      | _ => exact dt.elim
     | halt x W' => exact dt.elim
    ·rw [if_neg (by rw [wY.trans hw];simp)]
     exact next _ _ hW dt
  ·-- the tail
   have bW : ∀ j,j < i → D j:=fun j hj => gy kh ho iR (gD.tail i (by omega) dC j hj)
   obtain ⟨m,h1,h2,h3,h4⟩:=A4 D a' W hJ (fun j hj => bW j (by omega))
   have yU : m = i:=by
    by_cases e1 : i < m
    ·exact absurd ((h3 i dC).2 e1) oo
    ·by_cases e2 : m < i
     ·have:=(h3 m (by omega)).1 (bW m e2);omega
     ·omega
   subst yU
   have Ft : ops.toList.drop m = o :: ops.toList.drop (m + 1):=by
    have : m < ops.toList.length:=by simpa using dC
    rw [List.drop_eq_getElem_cons this];congr 1
    have:=(Array.getElem?_eq_some_iff.1 ho).2
    simpa using this
   rw [Ft] at h4;unfold wpList at h4
   have next : ∀ a W,wpList P ops Q (ops.toList.drop (m + 1)) a W → J (fun j => D j ∨ j = m) a W:=fun a W h => .inr (.inr ⟨m + 1,by omega,by omega,fun j hj => by
    constructor
    ·rintro (h | rfl)
     ·have:=(h3 j hj).1 h;omega
     ·omega
    ·intro h
     by_cases e : j = m
     ·exact .inr e
     ·exact .inl ((h3 j hj).2 (by omega)),h⟩)
   split
   ·rename_i hw
    rw [if_pos hw] at h4;exact h4.imp (Oper.wp_mono next) id
   ·rename_i hw
    rw [if_neg hw] at h4;exact next _ _ h4
 ·intro D a' W hJ bW;obtain ⟨m,h1,h2,h3,h4⟩:=A4 D a' W hJ (fun j hj => bW j (by omega))
  have TV : m = ops.size:=by
   by_cases e : m < ops.size
   ·have:=(h3 m e).1 (bW m e);omega
   ·omega
  subst TV;rw [List.drop_eq_nil_of_le (by simp)] at h4;exact h4
def yV (v : Int) (W : World) (u : Value) : Prop:=∃ g,u = .slice (some ⟨g,0,none⟩) 1 1 ∧ W.cell? ⟨g,0,none⟩ = some (.int .i64 v)
theorem yV.keep {v : Int} {W W' : World} {u : Value} (h : yV v W u) (hs : aa W W') : yV v W' u:=h.elim fun g hg => ⟨g,hg.1,hs.cell hg.2⟩
theorem yV.new (v : Int) (W : World) (t : TypeId) : yV v (W.alloc (.cells #[.int .i64 v] t)) (.slice (some ⟨W.heap.size,0,none⟩) 1 1):=⟨_,rfl,by simp⟩
end
end Go.Proofs.YtgmdpppljkmabaaGreat
