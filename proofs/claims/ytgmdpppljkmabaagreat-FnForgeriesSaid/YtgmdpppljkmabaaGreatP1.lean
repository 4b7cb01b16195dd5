/- Parts of the proof: walks of functions and plain laws. -/
import Derived.Test.YtgmdpppljkmabaaGreatP0
import Derived.Orders
import Derived.Below
import Derived.Tactics
set_option maxRecDepth 100000
set_option maxHeartbeats 16000000
namespace Go.Proofs.YtgmdpppljkmabaaGreat
open Go Go.RowKit
section
variable {P : Program} {ops : Array Oper} {Inv : World → Prop}
def aa (w0 W : World) : Prop:=Below w0.heap.size w0 W
theorem aa.drew (w0 : World) : aa w0 w0.drew:=(Below.refl _ _).drew
theorem aa.trans {w0 W W' : World} (h : aa w0 W) (h' : Below W.heap.size W W') : aa w0 W':=Below.trans h (h'.mono h.size)
def bG (P : Program) (Inv : World → Prop) (o : Oper) (A : Act) (W : World) (v : Value) : Prop:=
 match (execOp A.eval o).run P W with
 | .ok (.value u) W' => u = v ∧ Inv W'
 | .ok .skip W' => undef = v ∧ Inv W'
 | .ok (.enter f args) W' => Calls P f args W' fun e mZ => e = .returned v ∧ Inv mZ
 | _ => False
def C8 (P : Program) (ops : Array Oper) (Inv : World → Prop) (o : Oper) (A : Act) (v : Value) : Prop:=
 ∀ W,Inv W → (Region.wanted o (yielded ops A.tmps) = true ∧ bG P Inv o A W v) ∨ (Region.wanted o (yielded ops A.tmps) = false ∧ v = undef)
def iD (P : Program) (ops : Array Oper) (Inv : World → Prop) (fin : Act → Prop) : List Oper → Act → Prop
 | [],A => fin A
 | o :: rest,A => ∃ v,C8 P ops Inv o A v ∧ iD P ops Inv fin rest (A.put o.dst v)
def bS (o : Oper) : List Nat:=o.after.toList.filterMap fun e => if Region.binds .any e then some e.on else none
theorem Am {o : Oper} {j : Nat} : j ∈ bS o ↔ ∃ e ∈ o.after,Region.binds .any e = true ∧ e.on = j:=by
 unfold bS;rw [List.mem_filterMap];constructor
 ·rintro ⟨e,he,h⟩
  split at h
  ·rename_i hb;cases h;exact ⟨e,by simpa using he,hb,rfl⟩
  ·cases h
 ·rintro ⟨e,he,hb,rfl⟩;exact ⟨e,by simpa using he,by simp [hb]⟩
inductive Mh (ops : Array Oper) (j : Nat) : Nat → Prop
 | dep {i : Nat} {o : Oper} : ops[i]? = some o → j ∈ bS o → Mh ops j i
 | step {m i : Nat} {o : Oper} : Mh ops j m → ops[i]? = some o → m ∈ bS o → Mh ops j i
def Fl (ops : Array Oper) (tbl : List (List Nat)) (i : Nat) : List Nat:=
 match ops[i]? with
 | none => []
 | some o => (List.range i).filter fun j => (bS o).contains j || (bS o).any fun m => (tbl.getD m []).contains j
def j8 (ops : Array Oper) : Nat → List (List Nat)
 | 0 => []
 | n + 1 => let t:=j8 ops n;t ++ [Fl ops t n]
theorem An (n : Nat) : (j8 ops n).length = n:=by
 induction n with
 | zero => rfl
 | succ n ih => simp [j8,ih]
theorem fR (n : Nat) : ∀ i j,j ∈ (j8 ops n).getD i [] → Mh ops j i:=by
 induction n with
 | zero => intro i j h;simp [j8] at h
 | succ n ih =>
  intro i j h;have hl:=An (ops:=ops) n;simp only [j8] at h;rcases Nat.lt_trichotomy i n with hi | hi | hi
  ·rw [zDd,List.getElem?_append_left (by omega),← zDd] at h;exact ih i j h
  ·subst hi;rw [zDd,List.getElem?_append_right (by omega),hl,Nat.sub_self] at h;simp only [List.getElem?_cons_zero,Option.getD_some,Fl] at h
   cases ho : ops[i]? with
   | none => simp [ho] at h
   | some o =>
    simp only [ho,List.mem_filter,Bool.or_eq_true,List.any_eq_true,List.contains_iff_mem] at h;rcases h.2 with h | ⟨m,hm,hj⟩
    ·exact .dep ho h
    ·exact .step (ih m j hj) ho hm
  ·rw [zDd,List.getElem?_append_right (by omega),hl,List.getElem?_eq_none (by simp;omega)] at h;simp at h
def tK (ops : Array Oper) (k : Nat) : Bool:=
 Region.noSelect ops &&
 ((List.range ops.size).all fun i => match ops[i]? with
  | none => true
  | some o => ((bS o).all fun j => decide (j < i)) &&
   (decide (k ≤ i) ||
    (((o.looksAt ops).all fun t => (List.range k).all fun j => match ops[j]? with
     | none => true
     | some oj => if oj.dst = some t then (bS o).contains j else true) &&
    ((List.range k).all fun j => match ops[j]? with
     | none => true
     | some oj => decide (j = i) || (match o.dst with | none => true | some d => oj.dst != some d)))) &&
   (decide (i < k) || ((List.range i).all fun j => ((j8 ops (i + 1)).getD i []).contains j)))
structure C9 (ops : Array Oper) (k : Nat) : Prop where
 nosel : ∀ (j : Nat) (o : Oper) cs b,ops[j]? = some o → o.op ≠ .select cs b
 back : ∀ i o,ops[i]? = some o → ∀ j ∈ bS o,j < i
 looks : ∀ i o,i < k → ops[i]? = some o → ∀ t ∈ o.looksAt ops,∀ j oj,j < k → ops[j]? = some oj → oj.dst = some t → j ∈ bS o
 dsts : ∀ i o,i < k → ops[i]? = some o → ∀ j oj,j < k → ops[j]? = some oj → ∀ d,o.dst = some d → oj.dst = some d → j = i
 tail : ∀ i,k ≤ i → i < ops.size → ∀ j,j < i → Mh ops j i
theorem qg {k : Nat} (h : tK ops k = true) : C9 ops k:=by
 unfold tK at h;rw [Bool.and_eq_true,List.all_eq_true] at h;obtain ⟨hs,h⟩:=h
 have n8 : ∀ (i : Nat) (o : Oper),ops[i]? = some o → _:=fun i o ho => by
  have:=h i (List.mem_range.2 (Array.getElem?_eq_some_iff.1 ho).1)
  simp only [ho,Bool.and_eq_true] at this;exact this
 refine ⟨fun j o cs b ho => Region.noSelect_spec hs j o cs b ho,fun i o ho j hj => ?_,fun i o hi ho t ht j oj hj fw hd => ?_,fun i o hi ho j oj hj fw d hd iz => ?_,fun i YU hi j hj => ?_⟩
 ·have:=(n8 i o ho).1.1
  rw [List.all_eq_true] at this;simpa using this j hj
 ·have:=(n8 i o ho).1.2
  rw [Bool.or_eq_true] at this;rcases this with h1 | h1
  ·simp at h1;omega
  ·rw [Bool.and_eq_true] at h1;have h2:=List.all_eq_true.1 (List.all_eq_true.1 h1.1 t ht) j (List.mem_range.2 hj);simp only [fw,hd,if_true] at h2;simpa using h2
 ·have:=(n8 i o ho).1.2
  rw [Bool.or_eq_true] at this;rcases this with h1 | h1
  ·simp at h1;omega
  ·rw [Bool.and_eq_true] at h1;have h2:=List.all_eq_true.1 h1.2 j (List.mem_range.2 hj);simp only [fw,hd,iz,Bool.or_eq_true,decide_eq_true_eq] at h2;rcases h2 with h2 | h2
   ·exact h2
   ·simp at h2
 ·obtain ⟨o,ho⟩ : ∃ o,ops[i]? = some o:=⟨_,Array.getElem?_eq_getElem hi⟩
  have:=(n8 i o ho).2
  rw [Bool.or_eq_true] at this;rcases this with h1 | h1
  ·simp at h1;omega
  ·have h2:=List.all_eq_true.1 h1 j (List.mem_range.2 hj);exact fR (i + 1) i j (by simpa using h2)
structure aX (a : Act) (ops : Array Oper) (vals : Nat → Value) (D : Nat → Prop) (a' : Act) : Prop where
 defers : a'.defers = a.defers
 size : a'.tmps.size = a.tmps.size
 on : ∀ j o t,D j → ops[j]? = some o → o.dst = some t → t < a.tmps.size → a'.tmps[t]? = some (vals j)
 off : ∀ t,(∀ j o,D j → ops[j]? = some o → o.dst ≠ some t) → a'.tmps[t]? = a.tmps[t]?
theorem aX.start (a : Act) (vals : Nat → Value) : aX a ops vals (fun _ => False) a:=⟨rfl,rfl,fun _ _ _ h => h.elim,fun _ _ => rfl⟩
theorem aX.put {a a' : Act} {vals : Nat → Value} {D : Nat → Prop} {i : Nat} {o : Oper} (h : aX a ops vals D a') (ho : ops[i]? = some o) (hd : ∀ j oj d,D j → ops[j]? = some oj → o.dst = some d → oj.dst ≠ some d) :
  aX a ops vals (fun j => D j ∨ j = i) (a'.put o.dst (vals i)):=by
 cases OI : o.dst with
 | none =>
  refine ⟨h.defers,h.size,fun j oj t hj fw ht hlt => ?_,fun t ht => h.off t (fun j oj hj => ht j oj (.inl hj))⟩
  rcases hj with hj | rfl
  ·exact h.on j oj t hj fw ht hlt
  ·rw [ho] at fw;cases fw;rw [OI] at ht;cases ht
 | some d =>
  refine ⟨h.defers,by simp [Act.put,h.size],fun j oj t hj fw ht hlt => ?_,fun t ht => ?_⟩
  ·rcases hj with hj | rfl
   ·have fS : d ≠ t:=fun e => hd j oj d hj fw OI (by rw [e];exact ht)
    simp only [Act.put];rw [Array.getElem?_setIfInBounds_ne fS];exact h.on j oj t hj fw ht hlt
   ·rw [ho] at fw;cases fw;rw [OI] at ht;cases ht
    simp only [Act.put]
    rw [Array.getElem?_setIfInBounds_self_of_lt (by rw [h.size];exact hlt)]
  ·have fS : d ≠ t:=fun e => ht i o (.inr rfl) ho (by rw [OI,e])
   simp only [Act.put];rw [Array.getElem?_setIfInBounds_ne fS];exact h.off t (fun j oj hj => ht j oj (.inl hj))
theorem aX.agree {a a1 a2 : Act} {vals : Nat → Value} {D E : Nat → Prop} (h1 : aX a ops vals D a1) (h2 : aX a ops vals E a2) (t : Tmp)
  (ht : ∀ j o,(D j ∨ E j) → ops[j]? = some o → o.dst = some t → D j ∧ E j) : a1.tmps[t]? = a2.tmps[t]?:=by
 rcases Nat.lt_or_ge t a.tmps.size with hlt | hge
 ·by_cases YV : ∃ j o,(D j ∨ E j) ∧ ops[j]? = some o ∧ o.dst = some t
  ·obtain ⟨j,o,hj,ho,hd⟩:=YV;obtain ⟨hD,hE⟩:=ht j o hj ho hd;rw [h1.on j o t hD ho hd hlt,h2.on j o t hE ho hd hlt]
  ·rw [h1.off t (fun j o hj ho hd => YV ⟨j,o,.inl hj,ho,hd⟩),h2.off t (fun j o hj ho hd => YV ⟨j,o,.inr hj,ho,hd⟩)]
 ·rw [Array.getElem?_eq_none (by rw [h1.size];exact hge),Array.getElem?_eq_none (by rw [h2.size];exact hge)]
theorem aX.ext {a a1 a2 : Act} {vals : Nat → Value} {D E : Nat → Prop} (h1 : aX a ops vals D a1) (h2 : aX a ops vals E a2) (hDE : ∀ j,j < ops.size → (D j ↔ E j)) : a1 = a2:=by
 have ht : a1.tmps = a2.tmps:=by
  apply Array.ext_getElem?
  intro t;refine h1.agree h2 t (fun j o hj ho _ => ?_)
  have:=hDE j (Array.getElem?_eq_some_iff.1 ho).1
  rcases hj with hj | hj
  ·exact ⟨hj,this.1 hj⟩
  ·exact ⟨this.2 hj,hj⟩
 have hd : a1.defers = a2.defers:=h1.defers.trans h2.defers.symm
 cases a1;cases a2;simp_all
theorem Ao {fin : Act → Prop} (l : List Oper) : ∀ (A : Act),iD P ops Inv fin l A →
  ∃ (vals : Nat → Value) (F : Nat → Act),F 0 = A ∧ fin (F l.length) ∧ ∀ i o,l[i]? = some o → C8 P ops Inv o (F i) (vals i) ∧ F (i + 1) = (F i).put o.dst (vals i):=by
 induction l with
 | nil => intro A h;exact ⟨fun _ => undef,fun _ => A,rfl,h,fun i o h => by simp at h⟩
 | cons o l ih =>
  intro A h;obtain ⟨v,hs,hf⟩:=h;obtain ⟨vals,F,h0,fA,fI⟩:=ih _ hf;refine ⟨fun i => match i with | 0 => v | i + 1 => vals i,fun i => match i with | 0 => A | i + 1 => F i,rfl,fA,?_⟩
  intro i o' hi
  cases i with
  | zero => simp at hi;subst hi;exact ⟨hs,h0⟩
  | succ i => exact fI i o' (by simpa using hi)
theorem filter_lt {l : List Nat} {p q : Nat → Bool} (h : ∀ x,q x = true → p x = true) {x : Nat} (hx : x ∈ l) (hp : p x = true) (hq : q x = false) : (l.filter q).length < (l.filter p).length:=by
 induction l with
 | nil => simp at hx
 | cons y l ih =>
  have n9 : (l.filter q).length ≤ (l.filter p).length:=by
   clear ih hx
   induction l with
   | nil => simp
   | cons z l ih2 =>
    rw [List.filter_cons,List.filter_cons];cases hqz : q z
    ·cases hpz : p z <;> simp <;> omega
    ·rw [h z hqz];simpa using ih2
  rw [List.filter_cons,List.filter_cons];rcases List.mem_cons.1 hx with rfl | hx
  ·rw [hp,hq];simp;omega
  ·have:=ih hx
   cases hqy : q y
   ·cases XG : p y <;> simp <;> omega
   ·rw [h y hqy];simpa using this
theorem C_ {D : Nat → Prop} (hc : ∀ i o,D i → ops[i]? = some o → ∀ j ∈ bS o,D j) {j i : Nat} (h : Mh ops j i) : D i → D j:=by
 induction h with
 | dep ho hj => intro hi;exact hc _ _ hi ho _ hj
 | step _ ho hm ih => intro hi;exact ih (hc _ _ hi ho _ hm)
theorem gy {D : Nat → Prop} (hc : ∀ i o,D i → ops[i]? = some o → ∀ j ∈ bS o,D j) {j i : Nat} {o : Oper} (ho : ops[i]? = some o) (hr : ∀ m ∈ bS o,D m) (h : Mh ops j i) : D j:=by
 cases h with
 | dep rt hj => rw [ho] at rt;cases rt;exact hr _ hj
 | step ha rt hm => rw [ho] at rt;cases rt;exact C_ hc ha (hr _ hm)
theorem dT {j : Nat} {ar : Array Bool} : j ∈ Region.ready .any ops ar ↔ ar.getD j true = false ∧ ∃ o,ops[j]? = some o ∧ ∀ m ∈ bS o,ar.getD m false = true:=by
 rw [mem_ready];constructor
 ·rintro ⟨h0,o,ho,h⟩;refine ⟨h0,o,ho,fun m hm => ?_⟩
  obtain ⟨e,he,hb,rfl⟩:=Am.1 hm;exact h e he hb
 ·rintro ⟨h0,o,ho,h⟩;exact ⟨h0,o,ho,fun e he hb => h e.on (Am.2 ⟨e,he,hb,rfl⟩)⟩
theorem gP {ar : Array Bool} {j : Nat} (hj : j < ar.size) : ar.getD j true = ar.getD j false:=by simp [hj]
theorem xI {Q : Exit → Act → World → Prop} {k : Nat} (hf : C9 ops k) : ∀ (iE m : Nat) (ar : Array Bool) (a : Act) (W : World),k ≤ m → m ≤ ops.size → ops.size - m ≤ iE → ar.size = ops.size →
  (∀ j,j < ops.size → ar.getD j false = decide (j < m)) → wpList P ops Q (ops.toList.drop m) a W → wpAny P .any ops Q iE ar a W:=by
 have Jl : ∀ (m : Nat) (ar : Array Bool),k ≤ m → m ≤ ops.size → ar.size = ops.size → (∀ j,j < ops.size → ar.getD j false = decide (j < m)) → ∀ i ∈ Region.ready .any ops ar,i = m:=by
  intro m ar IQ hm ed hl i hi;obtain ⟨h0,o,ho,iR⟩:=dT.1 hi;have dC : i < ops.size:=(Array.getElem?_eq_some_iff.1 ho).1;rw [gP (by omega),hl i dC] at h0;simp at h0
  rcases Nat.lt_or_ge m i with hlt | hge
  ·have:=gy (D:=fun j => j < m) (fun i' o' wu rt j hj => by have:=hf.back i' o' rt j hj;omega) ho (fun d hd => by
    have h1:=iR d hd;have h2:=hf.back i o ho d hd;rw [hl d (by omega)] at h1
    simpa using h1) (hf.tail i (by omega) dC m hlt)
   omega
  ·omega
 intro iE
 induction iE with
 | zero =>
  intro m ar a W IQ hm PX ed hl h;obtain rfl : m = ops.size:=by omega
  refine ⟨List.eq_nil_iff_forall_not_mem.2 (fun i hi => ?_),?_⟩
  ·have:=Jl ops.size ar IQ hm ed hl i hi
   obtain ⟨_,o,ho,_⟩:=dT.1 hi
   have:=(Array.getElem?_eq_some_iff.1 ho).1
   omega
  ·rw [List.drop_of_length_le (by simp)] at h;exact h
 | succ iE ih =>
  intro m ar a W IQ hm PX ed hl h;refine ⟨fun tL => ?_,fun i hi => ?_⟩
  ·rcases Nat.lt_or_ge m ops.size with hlt | hge
   ·exfalso
    have jy : m ∈ Region.ready .any ops ar:=by
     refine dT.2 ⟨by rw [gP (by omega),hl m hlt];simp,ops[m],Array.getElem?_eq_getElem hlt,fun d hd => ?_⟩
     have h2:=hf.back m _ (Array.getElem?_eq_getElem hlt) d hd
     rw [hl d (by omega)];simpa using h2
    rw [tL] at jy;simp at jy
   ·rw [List.drop_of_length_le (by simp;omega)] at h;exact h
  ·obtain rfl:=Jl m ar IQ hm ed hl i hi
   obtain ⟨_,o,ho,_⟩:=dT.1 hi;have dC : i < ops.size:=(Array.getElem?_eq_some_iff.1 ho).1;rw [List.drop_eq_getElem_cons (by simpa using dC)] at h
   have TI : ops.toList[i]'(by simpa using dC) = o:=by
    have:=(Array.getElem?_eq_some_iff.1 ho).2
    simpa using this
   rw [TI] at h;unfold wpList at h;unfold wpOp;simp only [ho]
   have next : ∀ a W,wpList P ops Q (ops.toList.drop (i + 1)) a W → wpAny P .any ops Q iE (ar.setIfInBounds i true) a W:=fun a W h' =>
    ih (i + 1) _ a W (by omega) (by omega) (by omega) (by simpa using ed) (fun j hj => by
     by_cases m_ : i = j
     ·subst m_;simp [ed,dC]
     ·rw [getD_set_ne false m_,hl j hj]
      simp;omega) h'
   split
   ·rename_i hw
    rw [if_pos hw] at h;exact h.imp (Oper.wp_mono next) id
   ·rename_i hw
    rw [if_neg hw] at h;exact next _ _ h
theorem Gr {Q : Exit → Act → World → Prop} {k : Nat} (hf : C9 ops k) (hk : k ≤ ops.size) (a : Act) (vals : Nat → Value) (F : Nat → Act) (hF : ∀ i,i ≤ k → aX a ops vals (fun j => j < i) (F i))
  (fI : ∀ i o,i < k → ops[i]? = some o → C8 P ops Inv o (F i) (vals i)) (fA : ∀ W,Inv W → wpList P ops Q (ops.toList.drop k) (F k) W) :
  ∀ (iE : Nat) (ar : Array Bool) (a' : Act) (W : World),ar.size = ops.size → (∀ i o,ar.getD i false = true → ops[i]? = some o → ∀ j ∈ bS o,ar.getD j false = true) → (∀ j,ar.getD j false = true → j < k) →
   (ops.size - k) + ((List.range k).filter fun j => !ar.getD j false).length ≤ iE → aX a ops vals (fun j => ar.getD j false = true) a' → Inv W → wpAny P .any ops Q iE ar a' W:=by
 intro iE
 induction iE with
 | zero =>
  intro ar a' W ed kh hlt PX i8 hI
  have bW : ∀ j,j < k → ar.getD j false = true:=fun j hj => by
   rcases hb : ar.getD j false with _ | _
   ·have : 0 < ((List.range k).filter fun j => !ar.getD j false).length:=List.length_pos_of_mem (List.mem_filter.2 ⟨List.mem_range.2 hj,by simp [hb]⟩)
    omega
   ·rfl
  have hl : ∀ j,j < ops.size → ar.getD j false = decide (j < k):=fun j _ => by
   by_cases h : j < k
   ·rw [bW j h];simp [h]
   ·cases hb : ar.getD j false
    ·simp [h]
    ·exact absurd (hlt j hb) h
  have : a' = F k:=i8.ext (hF k (Nat.le_refl _)) (fun j hj => by rw [hl j hj];simp)
  subst this;exact xI hf 0 k ar _ W (Nat.le_refl _) hk (by omega) ed hl (fA W hI)
 | succ iE ih =>
  intro ar a' W ed kh hlt PX i8 hI
  by_cases bW : ∀ j,j < k → ar.getD j false = true
  ·have hl : ∀ j,j < ops.size → ar.getD j false = decide (j < k):=fun j _ => by
    by_cases h : j < k
    ·rw [bW j h];simp [h]
    ·cases hb : ar.getD j false
     ·simp [h]
     ·exact absurd (hlt j hb) h
   have : a' = F k:=i8.ext (hF k (Nat.le_refl _)) (fun j hj => by rw [hl j hj];simp)
   subst this;exact xI hf (iE + 1) k ar _ W (Nat.le_refl _) hk (by omega) ed hl (fA W hI)
  ·obtain ⟨j0,TJ,TK⟩ : ∃ j,j < k ∧ ar.getD j false = false:=by
    refine Classical.byContradiction fun lN => bW fun j hj => ?_
    cases hb : ar.getD j false
    ·exact absurd ⟨j,hj,hb⟩ lN
    ·rfl
   refine ⟨fun tL => ?_,fun i hi => ?_⟩
   ·exfalso
    have : ∀ m,∀ j,j ≤ m → j < k → ar.getD j false = false → False:=by
     intro m
     induction m using Nat.strongRecOn with
     | ind m ihm =>
      intro j hjm lO yO;have OJ : j < ops.size:=by omega
      by_cases hd : ∀ d ∈ bS ops[j],ar.getD d false = true
      ·have jy : j ∈ Region.ready .any ops ar:=dT.2 ⟨by rw [gP (by omega)];exact yO,ops[j],Array.getElem?_eq_getElem OJ,hd⟩
       rw [tL] at jy;simp at jy
      ·obtain ⟨d,kV,iz⟩ : ∃ d,d ∈ bS ops[j] ∧ ar.getD d false = false:=by
        refine Classical.byContradiction fun lN => hd fun d hd => ?_
        cases hb : ar.getD d false
        ·exact absurd ⟨d,hd,hb⟩ lN
        ·rfl
       have hdj:=hf.back j _ (Array.getElem?_eq_getElem OJ) d kV;exact ihm d (by omega) d (Nat.le_refl _) (by omega) iz
    exact this j0 j0 (Nat.le_refl _) TJ TK
   ·obtain ⟨h0,o,ho,iR⟩:=dT.1 hi;have dC : i < ops.size:=(Array.getElem?_eq_some_iff.1 ho).1;rw [gP (by omega)] at h0
    have jX : i < k:=by
     rcases Nat.lt_or_ge i k with h | h
     ·exact h
     ·have:=gy (D:=fun j => ar.getD j false = true) kh ho iR (hf.tail i h dC j0 (by omega))
      simp only [TK] at this;cases this
    have TL : ∀ t ∈ o.looksAt ops,a'.tmps[t]? = (F i).tmps[t]?:=fun t ht => i8.agree (hF i (by omega)) t (fun j oj hj fw hd => by
     have lO : j < k:=by
      rcases hj with hj | hj
      ·exact hlt j hj
      ·omega
     have:=hf.looks i o jX ho t ht j oj lO fw hd
     exact ⟨iR j this,hf.back i o ho j this⟩)
    have he : execOp a'.eval o = execOp (F i).eval o:=execOp_congr o (fun cs b => hf.nosel i o cs b ho) (fun x hx => by
     cases x with
     | tmp t =>
      have:=TL t (List.mem_append_left _ (List.mem_filterMap.2 ⟨.tmp t,by simpa using hx,rfl⟩))
      simp [Act.eval,this]
     | _ => rfl)
    have hw : Region.wanted o (yielded ops a'.tmps) = Region.wanted o (yielded ops (F i).tmps):=by
     unfold Region.wanted
     cases hg : o.guard with
     | none => rfl
     | some gw =>
      obtain ⟨g,YW⟩:=gw
      have : yielded ops a'.tmps g = yielded ops (F i).tmps g:=by
       unfold yielded
       cases ht : (ops[g]?).bind (·.dst) with
       | none => rfl
       | some t =>
        have:=TL t (by simp [Oper.looksAt,hg,ht])
        simp [this]
      simp only [this]
    have next : ∀ W',Inv W' → wpAny P .any ops Q iE (ar.setIfInBounds i true) (a'.put o.dst (vals i)) W':=fun W' SD => by
     have gH : ∀ j,(ar.setIfInBounds i true).getD j false = true ↔ (ar.getD j false = true ∨ j = i):=fun j => by
      by_cases m_ : i = j
      ·subst m_;simp [ed,dC]
      ·rw [getD_set_ne false m_];constructor
       ·exact .inl
       ·rintro (h | h)
        ·exact h
        ·exact absurd h.symm m_
     refine ih _ _ W' (by simpa using ed) (fun i' o' wu rt j hj => ?_) (fun j hj => ?_) ?_ ?_ SD
     ·rcases (gH i').1 wu with h | rfl
      ·exact (gH j).2 (.inl (kh i' o' h rt j hj))
      ·rw [ho] at rt;cases rt
       exact (gH j).2 (.inl (iR j hj))
     ·rcases (gH j).1 hj with h | rfl
      ·exact hlt j h
      ·exact jX
     ·have TM:=filter_lt (l:=List.range k) (p:=fun j => !ar.getD j false) (q:=fun j => !(ar.setIfInBounds i true).getD j false) (fun x hx => by
       cases hb : ar.getD x false
       ·rfl
       ·have:=(gH x).2 (.inl hb)
        simp only [this] at hx
        cases hx) (List.mem_range.2 jX) (by simp only [h0];rfl) (by simp only [(gH i).2 (.inr rfl)];rfl)
      omega
     ·have:=i8.put (i:=i) ho (fun j oj d hj fw hd iz => by
       have:=hf.dsts i o jX ho j oj (hlt j hj) fw d hd iz
       subst this;rw [h0] at hj
       cases hj)
      refine ⟨this.defers,this.size,fun j oj t hj => this.on j oj t ((gH j).1 hj),fun t ht => this.off t (fun j oj hj => ht j oj ((gH j).2 hj))⟩
    unfold wpOp;simp only [ho,hw];rcases fI i o jX ho W hI with ⟨h1,h2⟩ | ⟨h1,h2⟩
    ·rw [if_pos h1];refine .inl ?_;unfold Oper.wp;unfold bG at h2;rw [he]
     generalize (execOp (F i).eval o).run P W = r at h2 ⊢
     cases r with
     | ok nx W' =>
      cases nx with
      | value u => simp only at h2;obtain ⟨rfl,h3⟩:=h2;exact next W' h3
      | skip => simp only at h2;obtain ⟨h4,h3⟩:=h2;simp only [Oper.upon];rw [h4];exact next W' h3
      | enter f args =>
       simp only at h2
       simp only [Oper.upon]
       exact h2.mono fun e mZ ⟨Da,h3⟩ => by subst Da;exact next mZ h3
      | _ => exact h2.elim
     | halt x W' => exact h2.elim
    ·rw [if_neg (by rw [h1];simp)]
     have:=next W hI
     rw [h2] at this;exact this
theorem i9 (n j : Nat) : (Array.replicate n false).getD j false = false:=by
 rcases Nat.lt_or_ge j n with h | h
 ·simp [h]
 ·simp [h]
theorem ao {Q : Exit → Act → World → Prop} {id : Nat} {a : Act} {w : World} (k : Nat) (Inv : World → Prop) (hm : P.follows .mixedOrders = true) (hf : tK ops k = true) (hk : k ≤ ops.size) (hI : Inv w.drew)
  (h : iD P ops Inv (fun A => ∀ W,Inv W → wpList P ops Q (ops.toList.drop k) A W) (ops.toList.take k) a) : (Code.region id ops true).wp P Q a w:=by
 have gD:=qg hf;obtain ⟨vals,F,h0,fA,gE⟩:=Ao _ a h
 have hlen : (ops.toList.take k).length = k:=by simp;omega
 rw [hlen] at fA
 have qh : ∀ i o,i < k → ops[i]? = some o → (ops.toList.take k)[i]? = some o:=fun i o hi ho => by
  rw [List.getElem?_take,if_pos hi];simpa using ho
 have hF : ∀ i,i ≤ k → aX a ops vals (fun j => j < i) (F i):=by
  intro i
  induction i with
  | zero => intro _;rw [h0];exact ⟨rfl,rfl,fun j _ _ hj => absurd hj (by omega),fun _ _ => rfl⟩
  | succ i ih =>
   intro hi;have wu : i < ops.size:=by omega
   have ho : ops[i]? = some ops[i]:=Array.getElem?_eq_getElem wu;rw [(gE i _ (qh i _ (by omega) ho)).2]
   have:=(ih (by omega)).put ho (fun j oj d hj fw hd iz => by
    have:=gD.dsts i _ (by omega) ho j oj (by omega) fw d hd iz
    omega)
   exact ⟨this.defers,this.size,fun j oj t hj => this.on j oj t (by omega),fun t ht => this.off t (fun j oj hj => ht j oj (by omega))⟩
 refine wp_region_any hm ?_
 have:=Gr (P:=P) (Inv:=Inv) gD hk a vals F hF (fun i o hi ho => (gE i o (qh i o hi ho)).1) fA ops.size (Array.replicate ops.size false) a w.drew (by simp)
  (fun i o hi => by rw [i9] at hi;cases hi) (fun j hj => by rw [i9] at hj;cases hj) (by
   have : ((List.range k).filter fun j => !(Array.replicate ops.size false).getD j false).length ≤ k:=by
    have:=List.length_filter_le (fun j => !(Array.replicate ops.size false).getD j false) (List.range k)
    simpa using this
   omega) ⟨rfl,rfl,(fun j _ _ hj => by rw [i9] at hj;cases hj),fun _ _ => rfl⟩ hI
 exact this
theorem ag {fin : Act → Prop} {o : Oper} {rest : List Oper} {A : Act} {v : Value} (hw : Region.wanted o (yielded ops A.tmps) = true) (h : ∀ W,Inv W → (execOp A.eval o).run P W = .ok (.value v) W)
  (hr : iD P ops Inv fin rest (A.put o.dst v)) : iD P ops Inv fin (o :: rest) A:=
 ⟨v,fun W hI => .inl ⟨hw,by unfold bG;rw [h W hI];exact ⟨rfl,hI⟩⟩,hr⟩
theorem xJ {fin : Act → Prop} {o : Oper} {rest : List Oper} {A : Act} (hw : Region.wanted o (yielded ops A.tmps) = false)
  (hr : iD P ops Inv fin rest (A.put o.dst undef)) : iD P ops Inv fin (o :: rest) A:=⟨undef,fun _ _ => .inr ⟨hw,rfl⟩,hr⟩
theorem dn {fin : Act → Prop} {o : Oper} {rest : List Oper} {A : Act} (v : Value) (hw : Region.wanted o (yielded ops A.tmps) = true) (h : ∀ W,Inv W → bG P Inv o A W v)
  (hr : iD P ops Inv fin rest (A.put o.dst v)) : iD P ops Inv fin (o :: rest) A:=⟨v,fun W hI => .inl ⟨hw,h W hI⟩,hr⟩
end
section
variable {P : Program} {ops : Array Oper} {Inv : World → Prop}
theorem xK {Q : Exit → Act → World → Prop} {fin : Act → Prop} {rest : List Oper} (fA : ∀ A,fin A → ∀ W,Inv W → wpList P ops Q rest A W) :
  ∀ (l : List Oper) (A : Act) (W : World),Inv W → iD P ops Inv fin l A → wpList P ops Q (l ++ rest) A W
 | [],A,W,hI,h => fA A h W hI
 | o :: l,A,W,hI,⟨v,hv,h⟩ => by
  have next : ∀ W',Inv W' → wpList P ops Q (l ++ rest) (A.put o.dst v) W':=fun W' SD => xK fA l _ W' SD h
  show wpList P ops Q (o :: (l ++ rest)) A W
  unfold wpList;rcases hv W hI with ⟨h1,h2⟩ | ⟨h1,h2⟩
  ·rw [if_pos h1];refine .inl ?_;unfold Oper.wp;unfold bG at h2
   generalize (execOp A.eval o).run P W = r at h2 ⊢
   cases r with
   | ok nx W' =>
    cases nx with
    | value u => simp only at h2;obtain ⟨rfl,h3⟩:=h2;exact next W' h3
    | skip => simp only at h2;obtain ⟨h4,h3⟩:=h2;simp only [Oper.upon];rw [h4];exact next W' h3
    | enter f args =>
     simp only at h2
     simp only [Oper.upon]
     exact h2.mono fun e mZ ⟨Da,h3⟩ => by subst Da;exact next mZ h3
    | _ => exact h2.elim
   | halt x W' => exact h2.elim
  ·rw [if_neg (by rw [h1];simp)]
   have:=next W hI
   rw [h2] at this;exact this
theorem aB {Q : Exit → Act → World → Prop} {id : Nat} {a : Act} {w : World} (k : Nat) (Inv : World → Prop) (hI : Inv w)
  (h : iD P ops Inv (fun A => ∀ W,Inv W → wpList P ops Q (ops.toList.drop k) A W) (ops.toList.take k) a) : (Code.region id ops false).wp P Q a w:=by
 refine wp_region_list ?_
 have:=xK (P:=P) (ops:=ops) (Q:=Q) (rest:=ops.toList.drop k) (fun A h => h) _ a w hI h
 rwa [List.take_append_drop] at this
theorem qi {o : Oper} {tmps : Array Value} {g : Nat} {e b : Bool} (hg : o.guard = some (g,e)) (hy : yielded ops tmps g = some b) : Region.wanted o (yielded ops tmps) = (b == e):=by
 unfold Region.wanted;rw [hg];show (yielded ops tmps g == some e) = _
 rw [hy]
 cases b <;> cases e <;> rfl
def gv (b e : Bool) (v : Value) : Value:=if b = e then v else undef
@[simp] theorem j9 {b e : Bool} {v : Value} (h : b = e) : gv b e v = v:=if_pos h
theorem bC {fin : Act → Prop} {o : Oper} {rest : List Oper} {A : Act} {g : Nat} {e b : Bool} {v : Value} (hg : o.guard = some (g,e)) (hy : yielded ops A.tmps g = some b)
  (h : b = e → ∀ W,Inv W → bG P Inv o A W v) (hr : iD P ops Inv fin rest (A.put o.dst (gv b e v))) : iD P ops Inv fin (o :: rest) A:=by
 refine ⟨_,fun W hI => ?_,hr⟩
 rw [qi hg hy]
 by_cases me : b = e
 ·rw [j9 me];exact .inl ⟨by simp [me],h me W hI⟩
 ·rw [show gv b e v = undef from if_neg me];exact .inr ⟨by simpa using me,rfl⟩
theorem aj {fin : Act → Prop} {o : Oper} {rest : List Oper} {A : Act} {g : Nat} {e b : Bool} {v : Value} (hg : o.guard = some (g,e)) (hy : yielded ops A.tmps g = some b)
  (h : b = e → ∀ W,Inv W → (execOp A.eval o).run P W = .ok (.value v) W) (hr : iD P ops Inv fin rest (A.put o.dst (gv b e v))) : iD P ops Inv fin (o :: rest) A:=
 bC hg hy (fun hb W hI => by unfold bG;rw [h hb W hI];exact ⟨rfl,hI⟩) hr
theorem wQ {o : Oper} {tmps : Array Value} {g : Nat} {e' b e x : Bool} (hg : o.guard = some (g,e')) (hy : ((ops[g]?).bind (·.dst)).bind (tmps[·]?) = some (gv b e (.bool x))) : Region.wanted o (yielded ops tmps) = ((b == e) && (x == e')):=by
 unfold Region.wanted;rw [hg];show (yielded ops tmps g == some e') = _
 unfold yielded;rw [hy]
 by_cases me : b = e
 ·rw [j9 me];subst me
  cases x <;> cases e' <;> simp
 ·rw [show gv b e (.bool x) = undef from if_neg me]
  have : (b == e) = false:=by simpa using me
  rw [this];rfl
theorem Gs {fin : Act → Prop} {o : Oper} {rest : List Oper} {A : Act} {g : Nat} {e' b e x : Bool} {v : Value} (hg : o.guard = some (g,e')) (hy : ((ops[g]?).bind (·.dst)).bind (A.tmps[·]?) = some (gv b e (.bool x)))
  (h : b = e → x = e' → ∀ W,Inv W → bG P Inv o A W v) (hr : iD P ops Inv fin rest (A.put o.dst (gv ((b == e) && (x == e')) true v))) : iD P ops Inv fin (o :: rest) A:=by
 refine ⟨_,fun W hI => ?_,hr⟩
 rw [wQ hg hy]
 by_cases me : ((b == e) && (x == e')) = true
 ·rw [j9 me];have YX:=me;rw [Bool.and_eq_true,beq_iff_eq,beq_iff_eq] at me;exact .inl ⟨YX,h me.1 me.2 W hI⟩
 ·rw [show gv _ true v = undef from if_neg me];exact .inr ⟨by simpa using me,rfl⟩
theorem fB {fin : Act → Prop} {o : Oper} {rest : List Oper} {A : Act} {g : Nat} {e' b e x : Bool} {v : Value} (hg : o.guard = some (g,e')) (hy : ((ops[g]?).bind (·.dst)).bind (A.tmps[·]?) = some (gv b e (.bool x)))
  (h : b = e → x = e' → ∀ W,Inv W → (execOp A.eval o).run P W = .ok (.value v) W) (hr : iD P ops Inv fin rest (A.put o.dst (gv ((b == e) && (x == e')) true v))) : iD P ops Inv fin (o :: rest) A:=
 Gs hg hy (fun hb hx W hI => by unfold bG;rw [h hb hx W hI];exact ⟨rfl,hI⟩) hr
theorem h_ {fin : Act → Prop} {d : Option Tmp} {ty : TypeId} {pos : String} {af : Array Edge} {c t : Operand} {rest : List Oper} {A : Act} {g : Nat} {e b x y : Bool} (hy : yielded ops A.tmps g = some b) (hc : A.eval c = gv b e (.bool x)) (hx : A.eval t = gv ((b == e) && (x == true)) true (.bool y))
  (hr : iD P ops Inv fin rest (A.put d (gv b e (.bool (x && y))))) : iD P ops Inv fin (⟨d,.pick c t (.const (.bool false)),ty,pos,af,some (g,e)⟩ :: rest) A:=by
 refine aj (v:=.bool (x && y)) rfl hy (fun hb W hW => ?_) hr
 have hk : A.eval (.const (.bool false)) = .bool false:=rfl;clear hr;rw [j9 hb] at hc;subst hb
 generalize A.eval = ev at hc hx hk ⊢
 cases x
 ·simp [execOp,hc,hk,go_sem]
 ·rw [j9 (by simp)] at hx;simp [execOp,hc,hx,hk,go_sem]
theorem Jm {fin : Act → Prop} {d : Option Tmp} {ty : TypeId} {pos : String} {af : Array Edge} {c t : Operand} {rest : List Oper} {A : Act} {g : Nat} {e b x y : Bool} (hy : yielded ops A.tmps g = some b) (hc : A.eval c = gv b e (.bool x)) (hx : A.eval t = gv ((b == e) && (x == false)) true (.bool y))
  (hr : iD P ops Inv fin rest (A.put d (gv b e (.bool (x || y))))) : iD P ops Inv fin (⟨d,.pick c (.const (.bool true)) t,ty,pos,af,some (g,e)⟩ :: rest) A:=by
 refine aj (v:=.bool (x || y)) rfl hy (fun hb W hW => ?_) hr
 have hk : A.eval (.const (.bool true)) = .bool true:=rfl;clear hr;rw [j9 hb] at hc;subst hb
 generalize A.eval = ev at hc hx hk ⊢
 cases x
 ·rw [j9 (by simp)] at hx;simp [execOp,hc,hx,hk,go_sem]
 ·simp [execOp,hc,hk,go_sem]
theorem km {fin : Act → Prop} {o : Oper} {rest : List Oper} {A : Act} {g : Nat} {e b : Bool} (hg : o.guard = some (g,e)) (hy : yielded ops A.tmps g = some b)
  (h : (b == e) = false) (hr : iD P ops Inv fin rest (A.put o.dst undef)) : iD P ops Inv fin (o :: rest) A:=
 xJ (by rw [qi hg hy];exact h) hr
theorem bu {fin : Act → Prop} {d : Option Tmp} {ty : TypeId} {pos : String} {af : Array Edge} {c x : Operand} {rest : List Oper} {A : Act} {b y : Bool} (hc : A.eval c = .bool b) (hx : A.eval x = gv b false (.bool y))
  (hr : iD P ops Inv fin rest (A.put d (.bool (b || y)))) : iD P ops Inv fin (⟨d,.pick c (.const (.bool true)) x,ty,pos,af,none⟩ :: rest) A:=by
 refine ag (v:=.bool (b || y)) rfl (fun W hW => ?_) hr
 have hk : A.eval (.const (.bool true)) = .bool true:=rfl;clear hr
 generalize A.eval = ev at hc hx hk ⊢
 cases b
 ·rw [j9 rfl] at hx;simp [execOp,hc,hx,hk,go_sem]
 ·simp [execOp,hc,hk,go_sem]
theorem bJ {fin : Act → Prop} {d : Option Tmp} {ty : TypeId} {pos : String} {af : Array Edge} {c x : Operand} {rest : List Oper} {A : Act} {b y : Bool} (hc : A.eval c = .bool b) (hx : A.eval x = gv b true (.bool y))
  (hr : iD P ops Inv fin rest (A.put d (.bool (b && y)))) : iD P ops Inv fin (⟨d,.pick c x (.const (.bool false)),ty,pos,af,none⟩ :: rest) A:=by
 refine ag (v:=.bool (b && y)) rfl (fun W hW => ?_) hr
 have hk : A.eval (.const (.bool false)) = .bool false:=rfl;clear hr
 generalize A.eval = ev at hc hx hk ⊢
 cases b
 ·simp [execOp,hc,hk,go_sem]
 ·rw [j9 rfl] at hx;simp [execOp,hc,hx,hk,go_sem]
end
@[simp] theorem ad (w : World) : aa w w:=Below.refl _ _
@[simp] theorem ah {w0 W : World} (o : Obj) (h : aa w0 W) : aa w0 (W.alloc o):=Below.alloc h h.size o
@[simp] theorem ak {w0 W : World} (h : aa w0 W) : aa w0 W.drew:=Below.drew h
theorem OK {w W : World} (h : Below w.heap.size w W) : aa w W:=h
theorem aa.below {w W : World} (h : aa w W) : Below w.heap.size w W:=h
theorem aa.after {a b c : World} (h : aa a b) (h' : aa b c) : aa a c:=aa.trans h h'
theorem aa.cell {a b : World} (h : aa a b) {p : Addr} {v : Value} (hc : a.cell? p = some v) : b.cell? p = some v:=bc h hc
theorem ai {w0 w1 : World} {p : Addr} {v : Value} (f : ∀ W,aa w0 W → W.cell? p = some v) (h : aa w0 w1) : ∀ W,aa w1 W → W.cell? p = some v:=fun W hW => f W (h.after hW)
theorem ae {w0 : World} {p : Addr} {v : Value} (h : w0.cell? p = some v) : ∀ W,aa w0 W → W.cell? p = some v:=fun _ hW => bc hW h
section
variable {P : Program} {ops : Array Oper}
theorem Jn {Q : Exit → Act → World → Prop} (oY : ∀ i o,ops[i]? = some o → ∀ j ∈ bS o,j < i) (J : (Nat → Prop) → Act → World → Prop)
  (fI : ∀ (D : Nat → Prop) a w i o,J D a w → ops[i]? = some o → ¬ D i → (∀ d ∈ bS o,D d) → (∀ i o,D i → ops[i]? = some o → ∀ d ∈ bS o,D d) →
   if Region.wanted o (yielded ops a.tmps) = true then Oper.wp P o a w (J (fun j => D j ∨ j = i)) Q else J (fun j => D j ∨ j = i) (a.put o.dst undef) w)
  (tM : ∀ (D : Nat → Prop) a w,J D a w → (∀ i,i < ops.size → D i) → Q .normal a w) :
  ∀ (iE : Nat) (ar : Array Bool) (a : Act) (W : World),ar.size = ops.size → (∀ i o,ar.getD i false = true → ops[i]? = some o → ∀ j ∈ bS o,ar.getD j false = true) →
   ((List.range ops.size).filter fun j => !ar.getD j false).length ≤ iE → J (fun j => ar.getD j false = true) a W → wpAny P .any ops Q iE ar a W:=by
 have Jo : ∀ (ar : Array Bool),ar.size = ops.size → Region.ready .any ops ar = [] → ∀ m,∀ j,j ≤ m → j < ops.size → ar.getD j false = true:=by
  intro ar ed tL m
  induction m using Nat.strongRecOn with
  | ind m ihm =>
   intro j hjm OJ;refine Classical.byContradiction fun yO => ?_
   have yO : ar.getD j false = false:=by cases hb : ar.getD j false <;> simp_all
   have jy : j ∈ Region.ready .any ops ar:=dT.2 ⟨by rw [gP (by omega)];exact yO,ops[j],Array.getElem?_eq_getElem OJ,fun d hd => by
    have hdj:=oY j _ (Array.getElem?_eq_getElem OJ) d hd
    exact ihm d (by omega) d (Nat.le_refl _) (by omega)⟩
   rw [tL] at jy;simp at jy
 intro iE
 induction iE with
 | zero =>
  intro ar a W ed kh PX hJ
  have bW : ∀ j,j < ops.size → ar.getD j false = true:=fun j hj => by
   rcases hb : ar.getD j false with _ | _
   ·have : 0 < ((List.range ops.size).filter fun j => !ar.getD j false).length:=List.length_pos_of_mem (List.mem_filter.2 ⟨List.mem_range.2 hj,by simp [hb]⟩)
    omega
   ·rfl
  refine ⟨List.eq_nil_iff_forall_not_mem.2 fun i hi => ?_,tM _ a W hJ bW⟩
  obtain ⟨h0,o,ho,_⟩:=dT.1 hi;have dC : i < ops.size:=(Array.getElem?_eq_some_iff.1 ho).1;rw [gP (by omega),bW i dC] at h0;cases h0
 | succ iE ih =>
  intro ar a W ed kh PX hJ;refine ⟨fun tL => tM _ a W hJ fun j hj => Jo ar ed tL j j (Nat.le_refl _) hj,fun i hi => ?_⟩
  obtain ⟨h0,o,ho,iR⟩:=dT.1 hi;have dC : i < ops.size:=(Array.getElem?_eq_some_iff.1 ho).1;rw [gP (by omega)] at h0
  have gH : ∀ j,(ar.setIfInBounds i true).getD j false = true ↔ (ar.getD j false = true ∨ j = i):=fun j => by
   by_cases m_ : i = j
   ·subst m_;simp [ed,dC]
   ·rw [getD_set_ne false m_];constructor
    ·exact .inl
    ·rintro (h | h)
     ·exact h
     ·exact absurd h.symm m_
  have hD : (fun j => (ar.setIfInBounds i true).getD j false = true) = fun j => ar.getD j false = true ∨ j = i:=funext fun j => propext (gH j)
  have next : ∀ a W,J (fun j => ar.getD j false = true ∨ j = i) a W → wpAny P .any ops Q iE (ar.setIfInBounds i true) a W:=fun a W hJ' => by
   refine ih _ a W (by simpa using ed) (fun i' o' wu rt j hj => ?_) ?_ (by rw [hD];exact hJ')
   ·rcases (gH i').1 wu with h | rfl
    ·exact (gH j).2 (.inl (kh i' o' h rt j hj))
    ·rw [ho] at rt;cases rt
     exact (gH j).2 (.inl (iR j hj))
   ·have TM:=filter_lt (l:=List.range ops.size) (p:=fun j => !ar.getD j false) (q:=fun j => !(ar.setIfInBounds i true).getD j false) (fun x hx => by
     cases hb : ar.getD x false
     ·rfl
     ·have:=(gH x).2 (.inl hb)
      simp only [this] at hx
      cases hx) (List.mem_range.2 dC) (by simp only [h0];rfl) (by simp only [(gH i).2 (.inr rfl)];rfl)
    omega
  have:=fI (fun j => ar.getD j false = true) a W i o hJ ho (by rw [h0];simp) iR kh
  unfold wpOp;simp only [ho]
  split
  ·rename_i hw
   rw [if_pos hw] at this;exact .inl (Oper.wp_mono next this)
  ·rename_i hw
   rw [if_neg hw] at this;exact next _ _ this
theorem wR {Q : Exit → Act → World → Prop} {id : Nat} {a : Act} {w : World} (hm : P.follows .mixedOrders = true) (oY : ∀ i o,ops[i]? = some o → ∀ j ∈ bS o,j < i) (J : (Nat → Prop) → Act → World → Prop)
  (h0 : J (fun _ => False) a w.drew)
  (fI : ∀ (D : Nat → Prop) a w i o,J D a w → ops[i]? = some o → ¬ D i → (∀ d ∈ bS o,D d) → (∀ i o,D i → ops[i]? = some o → ∀ d ∈ bS o,D d) →
   if Region.wanted o (yielded ops a.tmps) = true then Oper.wp P o a w (J (fun j => D j ∨ j = i)) Q else J (fun j => D j ∨ j = i) (a.put o.dst undef) w)
  (tM : ∀ (D : Nat → Prop) a w,J D a w → (∀ i,i < ops.size → D i) → Q .normal a w) : (Code.region id ops true).wp P Q a w:=by
 refine wp_region_any hm ?_
 refine Jn (P:=P) (Q:=Q) oY J fI tM ops.size (Array.replicate ops.size false) a w.drew (by simp) (fun i o hi => by rw [i9] at hi;cases hi) ?_ ?_
 ·have:=List.length_filter_le (fun j => !(Array.replicate ops.size false).getD j false) (List.range ops.size)
  simpa using this
 ·have : (fun j => (Array.replicate ops.size false).getD j false = true) = fun _ => False:=funext fun j => propext ⟨(fun h => by rw [i9] at h;cases h),fun h => h.elim⟩
  rw [this];exact h0
def k7 (P : Program) (ops : Array Oper) (w0 : World) (fin : Act → Prop) : List Oper → Act → Prop
 | [],A => fin A
 | o :: rest,A => ∃ v,(Region.wanted o (yielded ops A.tmps) = true ∧ ∀ W,aa w0 W → (execOp A.eval o).run P W = .ok (.value v) W) ∧ k7 P ops w0 fin rest (A.put o.dst v)
theorem bB {w0 : World} {fin : Act → Prop} {o : Oper} {rest : List Oper} {A : Act} {v : Value} (hw : Region.wanted o (yielded ops A.tmps) = true) (h : ∀ W,aa w0 W → (execOp A.eval o).run P W = .ok (.value v) W)
  (hr : k7 P ops w0 fin rest (A.put o.dst v)) : k7 P ops w0 fin (o :: rest) A:=⟨v,⟨hw,h⟩,hr⟩
theorem qj {w0 : World} {fin : Act → Prop} (l : List Oper) : ∀ (A : Act),k7 P ops w0 fin l A →
  ∃ (vals : Nat → Value) (F : Nat → Act),F 0 = A ∧ fin (F l.length) ∧ ∀ i o,l[i]? = some o → (Region.wanted o (yielded ops (F i).tmps) = true ∧ ∀ W,aa w0 W → (execOp (F i).eval o).run P W = .ok (.value (vals i)) W) ∧ F (i + 1) = (F i).put o.dst (vals i):=by
 induction l with
 | nil => intro A h;exact ⟨fun _ => undef,fun _ => A,rfl,h,fun i o h => by simp at h⟩
 | cons o l ih =>
  intro A h;obtain ⟨v,hs,hf⟩:=h;obtain ⟨vals,F,h0,fA,fI⟩:=ih _ hf;refine ⟨fun i => match i with | 0 => v | i + 1 => vals i,fun i => match i with | 0 => A | i + 1 => F i,rfl,fA,?_⟩
  intro i o' hi
  cases i with
  | zero => simp at hi;subst hi;exact ⟨hs,h0⟩
  | succ i => exact fI i o' (by simpa using hi)
theorem aX.vals {a a' : Act} {v v' : Nat → Value} {D : Nat → Prop} (h : aX a ops v D a') (e : ∀ j,D j → v j = v' j) : aX a ops v' D a':=
 ⟨h.defers,h.size,fun j o t hj ho hd hl => by rw [← e j hj];exact h.on j o t hj ho hd hl,h.off⟩
theorem aX.same {a a' : Act} {v : Nat → Value} {D E : Nat → Prop} (h : aX a ops v D a') (e : ∀ j,D j ↔ E j) : aX a ops v E a':=by
 have : D = E:=funext fun j => propext (e j)
 rw [← this];exact h
def E2 (W : World) (T : TypeId) (b : Nat) (x y : Int) : Prop:=W.heap[b]? = some (.cells #[.int .i64 x,.int .i64 y] T)
def MM (b : Nat) : Value:=.pointer (some ⟨b,0,none⟩)
end
section
variable {P : Program} {ops : Array Oper}
def ku (P : Program) (R : World → Value → Prop) (o : Oper) (A : Act) (W : World) : Prop:=
 match (execOp A.eval o).run P W with
 | .ok (.value u) W' => R W' u ∧ aa W W'
 | .ok (.enter f args) W' => Calls P f args W' fun e mZ => ∃ u,e = .returned u ∧ R mZ u ∧ aa W mZ
 | _ => False
theorem fC {o : Oper} {a' A : Act} (TL : ∀ t ∈ o.looksAt ops,a'.tmps[t]? = A.tmps[t]?) (hns : ∀ cs b,o.op ≠ .select cs b) : execOp a'.eval o = execOp A.eval o ∧ Region.wanted o (yielded ops a'.tmps) = Region.wanted o (yielded ops A.tmps):=by
 refine ⟨execOp_congr o hns (fun x hx => ?_),?_⟩
 ·cases x with
  | tmp t =>
   have:=TL t (List.mem_append_left _ (List.mem_filterMap.2 ⟨.tmp t,by simpa using hx,rfl⟩))
   simp [Act.eval,this]
  | _ => rfl
 ·unfold Region.wanted
  cases hg : o.guard with
  | none => rfl
  | some gw =>
   obtain ⟨g,YW⟩:=gw
   have : yielded ops a'.tmps g = yielded ops A.tmps g:=by
    unfold yielded
    cases ht : (ops[g]?).bind (·.dst) with
    | none => rfl
    | some t =>
     have:=TL t (by simp [Oper.looksAt,hg,ht])
     simp [this]
   simp only [this]
theorem aX.vals2 {a a' : Act} {v v' : Nat → Value} {D : Nat → Prop} (h : aX a ops v D a') (e : ∀ j,j < ops.size → D j → v j = v' j) : aX a ops v' D a':=
 ⟨h.defers,h.size,fun j o t hj ho hd hl => by rw [← e j (Array.getElem?_eq_some_iff.1 ho).1 hj];exact h.on j o t hj ho hd hl,h.off⟩
end
theorem zB {w : World} {ve vi vn : Value} {n : am} (h : aT w ve vi vn n) : ∃ w0 A c A2 c2 A3 c3,ve = .slice A n.ends.length c ∧ vi = .slice A2 n.ids.length c2 ∧ vn = .slice A3 n.inputs.length c3 ∧ n.ends.length ≤ c ∧ c ≤ 2 ^ 63 - 1 ∧ c2 ≤ 2 ^ 63 - 1 ∧ c3 ≤ 2 ^ 63 - 1 ∧ Hid (∀ k es,n.ends[k]? = some es → ∃ b off u,A = some ⟨b,off,none⟩ ∧ w0.cell? ⟨b,off + k,none⟩ = some u ∧ tJ w0 u es) ∧ Hid (w0 = w.alloc (.cells #[.slice A n.ends.length c,.slice A2 n.ids.length c2,.slice A3 n.inputs.length c3] 27)) ∧ Hid (Below w.heap.size w w0) ∧ Hid (aT w0 (.slice A n.ends.length c) (.slice A2 n.ids.length c2) (.slice A3 n.inputs.length c3) n) ∧ (∀ W,aa w0 W → W.cell? ⟨w.heap.size,0,none⟩ = some (.slice A n.ends.length c)) ∧ (∀ W,aa w0 W → W.cell? ⟨w.heap.size,1,none⟩ = some (.slice A2 n.ids.length c2)) ∧ ∀ W,aa w0 W → W.cell? ⟨w.heap.size,2,none⟩ = some (.slice A3 n.inputs.length c3):=by
 obtain ⟨w0,ck⟩ : ∃ w0,w0 = w.alloc (.cells #[ve,vi,vn] 27):=⟨_,rfl⟩
 have jL : Below w.heap.size w w0:=by rw [ck];exact ((Below.refl _ _).alloc (by simp) _)
 have H:=h.keep jL;obtain ⟨h1,h2,h3⟩:=h.keep jL;obtain ⟨A,c,rfl,ft,hm,hA⟩:=h1;obtain ⟨A2,c2,rfl,_,f6,_⟩:=h2;obtain ⟨A3,c3,rfl,_,gF,_⟩:=h3;unfold maxLen at hm f6 gF
 exact ⟨w0,A,c,A2,c2,A3,c3,rfl,rfl,rfl,ft,hm,f6,gF,hA,ck,jL,H,ae (by rw [ck];simp),ae (by rw [ck];simp),ae (by rw [ck];simp)⟩
end Go.Proofs.YtgmdpppljkmabaaGreat
