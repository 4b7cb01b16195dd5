/- Parts of the proof: walks of functions and plain laws. -/
import Derived.Test.YtnioemnkfojmkaaGreatP0
import Derived.Orders
import Derived.Below
import Derived.Tactics
set_option maxRecDepth 100000
set_option maxHeartbeats 16000000
namespace Go.Proofs.YtnioemnkfojmkaaGreat
open Go Go.RowKit
section
variable {P : Program} {ops : Array Oper} {Inv : World → Prop}
def aa (w0 W:World):Prop:=Below w0.heap.size w0 W
theorem aa.drew (w0:World):aa w0 w0.drew:=(Below.refl _ _).drew
theorem aa.trans {w0 W W':World} (h:aa w0 W) (h':Below W.heap.size W W'):aa w0 W':=Below.trans h (h'.mono h.size)
def ba (P:Program) (Inv:World->Prop) (o:Oper) (A:Act) (W:World) (v:Value):Prop:=
 match (execOp A.eval o).run P W with
 | .ok (.value u) W'=>u=v/\Inv W'
 | .ok .skip W'=>undef=v/\Inv W'
 | .ok (.enter f args) W'=>Calls P f args W' fun e kM=>e=.returned v/\Inv kM
 | _=>False
def vz (P:Program) (ops:Array Oper) (Inv:World->Prop) (o:Oper) (A:Act) (v:Value):Prop:=
 ∀W,Inv W->(Region.wanted o (yielded ops A.tmps)=true/\ba P Inv o A W v)\/(Region.wanted o (yielded ops A.tmps)=false/\v=undef)
def gS (P:Program) (ops:Array Oper) (Inv:World->Prop) (ew:Act->Prop):List Oper->Act->Prop
 | [],A=>ew A
 | o::rest,A=>∃v,vz P ops Inv o A v/\gS P ops Inv ew rest (A.put o.dst v)
def bU (o:Oper):List Nat:=o.after.toList.filterMap fun e=>if Region.binds .any e then some e.on else none
theorem BL {o:Oper} {j:Nat}:j∈bU o↔∃e∈o.after,Region.binds .any e=true/\e.on=j:=by
 unfold bU;rw[List.mem_filterMap];constructor
 ·rintro⟨e,he,h⟩
  split at h
  ·rename_i hb;cases h;exact⟨e,by simpa using he,hb,rfl⟩
  ·cases h
 ·rintro⟨e,he,hb,rfl⟩;exact⟨e,by simpa using he,by simp[hb]⟩
inductive Jk (ops:Array Oper) (j:Nat):Nat->Prop
 | dep {i:Nat} {o:Oper}:ops[i]?=some o->j∈bU o->Jk ops j i
 | step {m i:Nat} {o:Oper}:Jk ops j m->ops[i]?=some o->m∈bU o->Jk ops j i
def FS (ops:Array Oper) (tbl:List (List Nat)) (i:Nat):List Nat:=
 match ops[i]? with
 | none=>[]
 | some o=>(List.range i).filter fun j=>(bU o).contains j||(bU o).any fun m=>(tbl.getD m []).contains j
def iQ (ops:Array Oper):Nat->List (List Nat)
 | 0=>[]
 | n+1=>let t:=iQ ops n;t++[FS ops t n]
theorem BM (n:Nat):(iQ ops n).length=n:=by
 induction n with
 | zero=>rfl
 | succ n ih=>simp[iQ,ih]
theorem eT (n:Nat):∀i j,j∈(iQ ops n).getD i []->Jk ops j i:=by
 induction n with
 | zero=>intro i j h;simp[iQ]at h
 | succ n ih=>
  intro i j h;have hl:=BM (ops:=ops) n;simp only[iQ]at h;rcases Nat.lt_trichotomy i n with hi | hi | hi
  ·rw[zDd,List.getElem?_append_left (by omega),<- zDd]at h;exact ih i j h
  ·subst hi;rw[zDd,List.getElem?_append_right (by omega),hl,Nat.sub_self]at h;simp only[List.getElem?_cons_zero,Option.getD_some,FS]at h
   cases ho:ops[i]? with
   | none=>simp[ho]at h
   | some o=>
    simp only[ho,List.mem_filter,Bool.or_eq_true,List.any_eq_true,List.contains_iff_mem]at h;rcases h.2 with h | ⟨m,hm,hj⟩
    ·exact .dep ho h
    ·exact .step (ih m j hj) ho hm
  ·rw[zDd,List.getElem?_append_right (by omega),hl,List.getElem?_eq_none (by simp;omega)]at h;simp at h
def ra (ops:Array Oper) (k:Nat):Bool:=
 Region.noSelect ops &&
 ((List.range ops.size).all fun i=>match ops[i]? with
  | none=>true
  | some o=>((bU o).all fun j=>decide (j<i)) &&
   (decide (k<=i) ||
    (((o.looksAt ops).all fun t=>(List.range k).all fun j=>match ops[j]? with
     | none=>true
     | some oj=>if oj.dst=some t then (bU o).contains j else true) &&
    ((List.range k).all fun j=>match ops[j]? with
     | none=>true
     | some oj=>decide (j=i)||(match o.dst with | none=>true | some d=>oj.dst != some d)))) &&
   (decide (i<k)||((List.range i).all fun j=>((iQ ops (i+1)).getD i []).contains j)))
structure DV (ops:Array Oper) (k:Nat):Prop where
 adi:∀(j:Nat) (o:Oper) cs b,ops[j]?=some o->o.op ≠ .select cs b
 back:∀i o,ops[i]?=some o->∀j∈bU o,j<i
 looks:∀i o,i<k->ops[i]?=some o->∀t∈o.looksAt ops,∀j oj,j<k->ops[j]?=some oj->oj.dst=some t->j∈bU o
 adk:∀i o,i<k->ops[i]?=some o->∀j oj,j<k->ops[j]?=some oj->∀d,o.dst=some d->oj.dst=some d->j=i
 tail:∀i,k<=i->i<ops.size->∀j,j<i->Jk ops j i
theorem ph {k:Nat} (h:ra ops k=true):DV ops k:=by
 unfold ra at h;rw[Bool.and_eq_true,List.all_eq_true]at h;obtain⟨hs,h⟩:=h
 have ts:∀(i:Nat) (o:Oper),ops[i]?=some o->_:=fun i o ho=>by
  have:=h i (List.mem_range.2 (Array.getElem?_eq_some_iff.1 ho).1)
  simp only[ho,Bool.and_eq_true]at this;exact this
 refine⟨fun j o cs b ho=>Region.noSelect_spec hs j o cs b ho,fun i o ho j hj=>?_,fun i o hi ho t ht j oj hj fW hd=>?_,fun i o hi ho j oj hj fW d hd kq=>?_,fun i P2 hi j hj=>?_⟩
 ·have:=(ts i o ho).1.1
  rw[List.all_eq_true]at this;simpa using this j hj
 ·have:=(ts i o ho).1.2
  rw[Bool.or_eq_true]at this;rcases this with h1 | h1
  ·simp at h1;omega
  ·rw[Bool.and_eq_true]at h1;have h2:=List.all_eq_true.1 (List.all_eq_true.1 h1.1 t ht) j (List.mem_range.2 hj);simp only[fW,hd,if_true]at h2;simpa using h2
 ·have:=(ts i o ho).1.2
  rw[Bool.or_eq_true]at this;rcases this with h1 | h1
  ·simp at h1;omega
  ·rw[Bool.and_eq_true]at h1;have h2:=List.all_eq_true.1 h1.2 j (List.mem_range.2 hj);simp only[fW,hd,kq,Bool.or_eq_true,decide_eq_true_eq]at h2;rcases h2 with h2 | h2
   ·exact h2
   ·simp at h2
 ·obtain⟨o,ho⟩:∃o,ops[i]?=some o:=⟨_,Array.getElem?_eq_getElem hi⟩
  have:=(ts i o ho).2
  rw[Bool.or_eq_true]at this;rcases this with h1 | h1
  ·simp at h1;omega
  ·have h2:=List.all_eq_true.1 h1 j (List.mem_range.2 hj);exact eT (i+1) i j (by simpa using h2)
structure aN (a:Act) (ops:Array Oper) (ac6:Nat->Value) (D:Nat->Prop) (a':Act):Prop where
 defers:a'.defers=a.defers
 size:a'.tmps.size=a.tmps.size
 on:∀j o t,D j->ops[j]?=some o->o.dst=some t->t<a.tmps.size->a'.tmps[t]?=some (ac6 j)
 off:∀t,(∀j o,D j->ops[j]?=some o->o.dst≠some t)->a'.tmps[t]?=a.tmps[t]?
theorem aN.start (a:Act) (ac6:Nat->Value):aN a ops ac6 (fun _=>False) a:=⟨rfl,rfl,fun _ _ _ h=>h.elim,fun _ _=>rfl⟩
theorem aN.put {a a':Act} {ac6:Nat->Value} {D:Nat->Prop} {i:Nat} {o:Oper} (h:aN a ops ac6 D a') (ho:ops[i]?=some o) (hd:∀j oj d,D j->ops[j]?=some oj->o.dst=some d->oj.dst≠some d):
  aN a ops ac6 (fun j=>D j\/j=i) (a'.put o.dst (ac6 i)):=by
 cases hod:o.dst with
 | none=>
  refine⟨h.defers,h.size,fun j oj t hj fW ht aH=>?_,fun t ht=>h.off t (fun j oj hj=>ht j oj (.inl hj))⟩
  rcases hj with hj | rfl
  ·exact h.on j oj t hj fW ht aH
  ·rw[ho]at fW;cases fW;rw[hod]at ht;cases ht
 | some d=>
  refine⟨h.defers,by simp[Act.put,h.size],fun j oj t hj fW ht aH=>?_,fun t ht=>?_⟩
  ·rcases hj with hj | rfl
   ·have yJ:d≠t:=fun e=>hd j oj d hj fW hod (by rw[e];exact ht)
    simp only[Act.put];rw[Array.getElem?_setIfInBounds_ne yJ];exact h.on j oj t hj fW ht aH
   ·rw[ho]at fW;cases fW;rw[hod]at ht;cases ht
    simp only[Act.put]
    rw[Array.getElem?_setIfInBounds_self_of_lt (by rw[h.size];exact aH)]
  ·have yJ:d≠t:=fun e=>ht i o (.inr rfl) ho (by rw[hod,e])
   simp only[Act.put];rw[Array.getElem?_setIfInBounds_ne yJ];exact h.off t (fun j oj hj=>ht j oj (.inl hj))
theorem aN.agree {a a1 a2:Act} {ac6:Nat->Value} {D E:Nat->Prop} (h1:aN a ops ac6 D a1) (h2:aN a ops ac6 E a2) (t:Tmp)
  (ht:∀j o,(D j\/E j)->ops[j]?=some o->o.dst=some t->D j/\E j):a1.tmps[t]?=a2.tmps[t]?:=by
 rcases Nat.lt_or_ge t a.tmps.size with aH | hge
 ·by_cases hex:∃j o,(D j\/E j)/\ops[j]?=some o/\o.dst=some t
  ·obtain⟨j,o,hj,ho,hd⟩:=hex;obtain⟨hD,hE⟩:=ht j o hj ho hd;rw[h1.on j o t hD ho hd aH,h2.on j o t hE ho hd aH]
  ·rw[h1.off t (fun j o hj ho hd=>hex ⟨j,o,.inl hj,ho,hd⟩),h2.off t (fun j o hj ho hd=>hex ⟨j,o,.inr hj,ho,hd⟩)]
 ·rw[Array.getElem?_eq_none (by rw[h1.size];exact hge),Array.getElem?_eq_none (by rw[h2.size];exact hge)]
theorem aN.ext {a a1 a2:Act} {ac6:Nat->Value} {D E:Nat->Prop} (h1:aN a ops ac6 D a1) (h2:aN a ops ac6 E a2) (hDE:∀j,j<ops.size->(D j↔E j)):a1=a2:=by
 have ht:a1.tmps=a2.tmps:=by
  apply Array.ext_getElem?
  intro t;refine h1.agree h2 t (fun j o hj ho _=>?_)
  have:=hDE j (Array.getElem?_eq_some_iff.1 ho).1
  rcases hj with hj | hj
  ·exact⟨hj,this.1 hj⟩
  ·exact⟨this.2 hj,hj⟩
 have hd:a1.defers=a2.defers:=h1.defers.trans h2.defers.symm
 cases a1;cases a2;simp_all
theorem tu {ew:Act->Prop} (l:List Oper):∀(A:Act),gS P ops Inv ew l A ->
  ∃(ac6:Nat->Value) (F:Nat->Act),F 0=A/\ew (F l.length)/\∀i o,l[i]?=some o->vz P ops Inv o (F i) (ac6 i)/\F (i+1)=(F i).put o.dst (ac6 i):=by
 induction l with
 | nil=>intro A h;exact⟨fun _=>undef,fun _=>A,rfl,h,fun i o h=>by simp at h⟩
 | cons o l ih=>
  intro A h;obtain⟨v,hs,hf⟩:=h;obtain⟨ac6,F,h0,iK,gz⟩:=ih _ hf;refine⟨fun i=>match i with | 0=>v | i+1=>ac6 i,fun i=>match i with | 0=>A | i+1=>F i,rfl,iK,?_⟩
  intro i o' hi
  cases i with
  | zero=>simp at hi;subst hi;exact⟨hs,h0⟩
  | succ i=>exact gz i o' (by simpa using hi)
theorem filter_lt {l:List Nat} {p q:Nat->Bool} (h:∀x,q x=true->p x=true) {x:Nat} (hx:x∈l) (hp:p x=true) (hq:q x=false):(l.filter q).length<(l.filter p).length:=by
 induction l with
 | nil=>simp at hx
 | cons y l ih=>
  have uG:(l.filter q).length<=(l.filter p).length:=by
   clear ih hx
   induction l with
   | nil=>simp
   | cons z l ih2=>
    rw[List.filter_cons,List.filter_cons];cases hqz:q z
    ·cases pi:p z <;> simp <;> omega
    ·rw[h z hqz];simpa using ih2
  rw[List.filter_cons,List.filter_cons];rcases List.mem_cons.1 hx with rfl | hx
  ·rw[hp,hq];simp;omega
  ·have:=ih hx
   cases hqy:q y
   ·cases hpy:p y <;> simp <;> omega
   ·rw[h y hqy];simpa using this
theorem DX {D:Nat->Prop} (hc:∀i o,D i->ops[i]?=some o->∀j∈bU o,D j) {j i:Nat} (h:Jk ops j i):D i->D j:=by
 induction h with
 | dep ho hj=>intro hi;exact hc _ _ hi ho _ hj
 | step _ ho hm ih=>intro hi;exact ih (hc _ _ hi ho _ hm)
theorem fg {D:Nat->Prop} (hc:∀i o,D i->ops[i]?=some o->∀j∈bU o,D j) {j i:Nat} {o:Oper} (ho:ops[i]?=some o) (hr:∀m∈bU o,D m) (h:Jk ops j i):D j:=by
 cases h with
 | dep Bk hj=>rw[ho]at Bk;cases Bk;exact hr _ hj
 | step ha Bk hm=>rw[ho]at Bk;cases Bk;exact DX hc ha (hr _ hm)
theorem fN {j:Nat} {aA:Array Bool}:j∈Region.ready .any ops aA↔aA.getD j true=false/\∃o,ops[j]?=some o/\∀m∈bU o,aA.getD m false=true:=by
 rw[mem_ready];constructor
 ·rintro⟨h0,o,ho,h⟩;refine⟨h0,o,ho,fun m hm=>?_⟩
  obtain⟨e,he,hb,rfl⟩:=BL.1 hm;exact h e he hb
 ·rintro⟨h0,o,ho,h⟩;exact⟨h0,o,ho,fun e he hb=>h e.on (BL.2 ⟨e,he,hb,rfl⟩)⟩
theorem kN {aA:Array Bool} {j:Nat} (hj:j<aA.size):aA.getD j true=aA.getD j false:=by simp[hj]
theorem yM {Q:Exit->Act->World->Prop} {k:Nat} (hf:DV ops k):∀(li m:Nat) (aA:Array Bool) (a:Act) (W:World),k<=m->m<=ops.size->ops.size-m<=li->aA.size=ops.size ->
  (∀j,j<ops.size->aA.getD j false=decide (j<m))->wpList P ops Q (ops.toList.drop m) a W->wpAny P .any ops Q li aA a W:=by
 have JL:∀(m:Nat) (aA:Array Bool),k<=m->m<=ops.size->aA.size=ops.size->(∀j,j<ops.size->aA.getD j false=decide (j<m))->∀i∈Region.ready .any ops aA,i=m:=by
  intro m aA hkm hm eR hl i hi;obtain⟨h0,o,ho,io⟩:=fN.1 hi;have dH:i<ops.size:=(Array.getElem?_eq_some_iff.1 ho).1;rw[kN (by omega),hl i dH]at h0;simp at h0
  rcases Nat.lt_or_ge m i with aH | hge
  ·have:=fg (D:=fun j=>j<m) (fun i' o' rc Bk j hj=>by have:=hf.back i' o' Bk j hj;omega) ho (fun d hd=>by
    have h1:=io d hd;have h2:=hf.back i o ho d hd;rw[hl d (by omega)]at h1
    simpa using h1) (hf.tail i (by omega) dH m aH)
   omega
  ·omega
 intro li
 induction li with
 | zero=>
  intro m aA a W hkm hm Rv eR hl h;obtain rfl:m=ops.size:=by omega
  refine⟨List.eq_nil_iff_forall_not_mem.2 (fun i hi=>?_),?_⟩
  ·have:=JL ops.size aA hkm hm eR hl i hi
   obtain⟨_,o,ho,_⟩:=fN.1 hi
   have:=(Array.getElem?_eq_some_iff.1 ho).1
   omega
  ·rw[List.drop_of_length_le (by simp)]at h;exact h
 | succ li ih=>
  intro m aA a W hkm hm Rv eR hl h;refine⟨fun DY=>?_,fun i hi=>?_⟩
  ·rcases Nat.lt_or_ge m ops.size with aH | hge
   ·exfalso
    have fp:m∈Region.ready .any ops aA:=by
     refine fN.2 ⟨by rw[kN (by omega),hl m aH];simp,ops[m],Array.getElem?_eq_getElem aH,fun d hd=>?_⟩
     have h2:=hf.back m _ (Array.getElem?_eq_getElem aH) d hd
     rw[hl d (by omega)];simpa using h2
    rw[DY]at fp;simp at fp
   ·rw[List.drop_of_length_le (by simp;omega)]at h;exact h
  ·obtain rfl:=JL m aA hkm hm eR hl i hi
   obtain⟨_,o,ho,_⟩:=fN.1 hi;have dH:i<ops.size:=(Array.getElem?_eq_some_iff.1 ho).1;rw[List.drop_eq_getElem_cons (by simpa using dH)]at h
   have P3:ops.toList[i]'(by simpa using dH)=o:=by
    have:=(Array.getElem?_eq_some_iff.1 ho).2
    simpa using this
   rw[P3]at h;unfold wpList at h;unfold wpOp;simp only[ho]
   have next:∀a W,wpList P ops Q (ops.toList.drop (i+1)) a W->wpAny P .any ops Q li (aA.setIfInBounds i true) a W:=fun a W h'=>
    ih (i+1) _ a W (by omega) (by omega) (by omega) (by simpa using eR) (fun j hj=>by
     by_cases nV:i=j
     ·subst nV;simp[eR,dH]
     ·rw[getD_set_ne false nV,hl j hj]
      simp;omega) h'
   split
   ·rename_i hw
    rw[if_pos hw]at h;exact h.imp (Oper.wp_mono next) id
   ·rename_i hw
    rw[if_neg hw]at h;exact next _ _ h
theorem G9 {Q:Exit->Act->World->Prop} {k:Nat} (hf:DV ops k) (hk:k<=ops.size) (a:Act) (ac6:Nat->Value) (F:Nat->Act) (hF:∀i,i<=k->aN a ops ac6 (fun j=>j<i) (F i))
  (gz:∀i o,i<k->ops[i]?=some o->vz P ops Inv o (F i) (ac6 i)) (iK:∀W,Inv W->wpList P ops Q (ops.toList.drop k) (F k) W):
  ∀(li:Nat) (aA:Array Bool) (a':Act) (W:World),aA.size=ops.size->(∀i o,aA.getD i false=true->ops[i]?=some o->∀j∈bU o,aA.getD j false=true)->(∀j,aA.getD j false=true->j<k) ->
   (ops.size-k)+((List.range k).filter fun j => !aA.getD j false).length<=li->aN a ops ac6 (fun j=>aA.getD j false=true) a'->Inv W->wpAny P .any ops Q li aA a' W:=by
 intro li
 induction li with
 | zero=>
  intro aA a' W eR qs aH Rv ip hI
  have bH:∀j,j<k->aA.getD j false=true:=fun j hj=>by
   rcases hb:aA.getD j false with _ | _
   ·have:0<((List.range k).filter fun j => !aA.getD j false).length:=List.length_pos_of_mem (List.mem_filter.2 ⟨List.mem_range.2 hj,by simp[hb]⟩)
    omega
   ·rfl
  have hl:∀j,j<ops.size->aA.getD j false=decide (j<k):=fun j _=>by
   by_cases h:j<k
   ·rw[bH j h];simp[h]
   ·cases hb:aA.getD j false
    ·simp[h]
    ·exact absurd (aH j hb) h
  have:a'=F k:=ip.ext (hF k (Nat.le_refl _)) (fun j hj=>by rw[hl j hj];simp)
  subst this;exact yM hf 0 k aA _ W (Nat.le_refl _) hk (by omega) eR hl (iK W hI)
 | succ li ih=>
  intro aA a' W eR qs aH Rv ip hI
  by_cases bH:∀j,j<k->aA.getD j false=true
  ·have hl:∀j,j<ops.size->aA.getD j false=decide (j<k):=fun j _=>by
    by_cases h:j<k
    ·rw[bH j h];simp[h]
    ·cases hb:aA.getD j false
     ·simp[h]
     ·exact absurd (aH j hb) h
   have:a'=F k:=ip.ext (hF k (Nat.le_refl _)) (fun j hj=>by rw[hl j hj];simp)
   subst this;exact yM hf (li+1) k aA _ W (Nat.le_refl _) hk (by omega) eR hl (iK W hI)
  ·obtain⟨j0,hj0,VX⟩:∃j,j<k/\aA.getD j false=false:=by
    refine Classical.byContradiction fun me=>bH fun j hj=>?_
    cases hb:aA.getD j false
    ·exact absurd ⟨j,hj,hb⟩ me
    ·rfl
   refine⟨fun DY=>?_,fun i hi=>?_⟩
   ·exfalso
    have:∀m,∀j,j<=m->j<k->aA.getD j false=false->False:=by
     intro m
     induction m using Nat.strongRecOn with
     | ind m ihm=>
      intro j hjm lJ UX;have VY:j<ops.size:=by omega
      by_cases hd:∀d∈bU ops[j],aA.getD d false=true
      ·have fp:j∈Region.ready .any ops aA:=fN.2 ⟨by rw[kN (by omega)];exact UX,ops[j],Array.getElem?_eq_getElem VY,hd⟩
       rw[DY]at fp;simp at fp
      ·obtain⟨d,yN,kq⟩:∃d,d∈bU ops[j]/\aA.getD d false=false:=by
        refine Classical.byContradiction fun me=>hd fun d hd=>?_
        cases hb:aA.getD d false
        ·exact absurd ⟨d,hd,hb⟩ me
        ·rfl
       have hdj:=hf.back j _ (Array.getElem?_eq_getElem VY) d yN;exact ihm d (by omega) d (Nat.le_refl _) (by omega) kq
    exact this j0 j0 (Nat.le_refl _) hj0 VX
   ·obtain⟨h0,o,ho,io⟩:=fN.1 hi;have dH:i<ops.size:=(Array.getElem?_eq_some_iff.1 ho).1;rw[kN (by omega)]at h0
    have g7:i<k:=by
     rcases Nat.lt_or_ge i k with h | h
     ·exact h
     ·have:=fg (D:=fun j=>aA.getD j false=true) qs ho io (hf.tail i h dH j0 (by omega))
      simp only[VX]at this;cases this
    have VZ:∀t∈o.looksAt ops,a'.tmps[t]?=(F i).tmps[t]?:=fun t ht=>ip.agree (hF i (by omega)) t (fun j oj hj fW hd=>by
     have lJ:j<k:=by
      rcases hj with hj | hj
      ·exact aH j hj
      ·omega
     have:=hf.looks i o g7 ho t ht j oj lJ fW hd
     exact⟨io j this,hf.back i o ho j this⟩)
    have he:execOp a'.eval o=execOp (F i).eval o:=execOp_congr o (fun cs b=>hf.adi i o cs b ho) (fun x hx=>by
     cases x with
     | tmp t=>
      have:=VZ t (List.mem_append_left _ (List.mem_filterMap.2 ⟨.tmp t,by simpa using hx,rfl⟩))
      simp[Act.eval,this]
     | _=>rfl)
    have hw:Region.wanted o (yielded ops a'.tmps)=Region.wanted o (yielded ops (F i).tmps):=by
     unfold Region.wanted
     cases hg:o.guard with
     | none=>rfl
     | some gw=>
      obtain⟨g,aaj⟩:=gw
      have:yielded ops a'.tmps g=yielded ops (F i).tmps g:=by
       unfold yielded
       cases ht:(ops[g]?).bind (·.dst) with
       | none=>rfl
       | some t=>
        have:=VZ t (by simp[Oper.looksAt,hg,ht])
        simp[this]
      simp only[this]
    have next:∀W',Inv W'->wpAny P .any ops Q li (aA.setIfInBounds i true) (a'.put o.dst (ac6 i)) W':=fun W' V0=>by
     have jh:∀j,(aA.setIfInBounds i true).getD j false=true↔(aA.getD j false=true\/j=i):=fun j=>by
      by_cases nV:i=j
      ·subst nV;simp[eR,dH]
      ·rw[getD_set_ne false nV];constructor
       ·exact .inl
       ·rintro(h | h)
        ·exact h
        ·exact absurd h.symm nV
     refine ih _ _ W' (by simpa using eR) (fun i' o' rc Bk j hj=>?_) (fun j hj=>?_) ?_ ?_ V0
     ·rcases(jh i').1 rc with h | rfl
      ·exact(jh j).2 (.inl (qs i' o' h Bk j hj))
      ·rw[ho]at Bk;cases Bk
       exact(jh j).2 (.inl (io j hj))
     ·rcases(jh j).1 hj with h | rfl
      ·exact aH j h
      ·exact g7
     ·have aak:=filter_lt (l:=List.range k) (p:=fun j => !aA.getD j false) (q:=fun j => !(aA.setIfInBounds i true).getD j false) (fun x hx=>by
       cases hb:aA.getD x false
       ·rfl
       ·have:=(jh x).2 (.inl hb)
        simp only[this]at hx
        cases hx) (List.mem_range.2 g7) (by simp only[h0];rfl) (by simp only[(jh i).2 (.inr rfl)];rfl)
      omega
     ·have:=ip.put (i:=i) ho (fun j oj d hj fW hd kq=>by
       have:=hf.adk i o g7 ho j oj (aH j hj) fW d hd kq
       subst this;rw[h0]at hj
       cases hj)
      refine⟨this.defers,this.size,fun j oj t hj=>this.on j oj t ((jh j).1 hj),fun t ht=>this.off t (fun j oj hj=>ht j oj ((jh j).2 hj))⟩
    unfold wpOp;simp only[ho,hw];rcases gz i o g7 ho W hI with⟨h1,h2⟩ | ⟨h1,h2⟩
    ·rw[if_pos h1];refine .inl ?_;unfold Oper.wp;unfold ba at h2;rw[he]
     generalize (execOp (F i).eval o).run P W=r at h2 ⊢
     cases r with
     | ok nx W'=>
      cases nx with
      | value u=>simp only at h2;obtain⟨rfl,h3⟩:=h2;exact next W' h3
      | skip=>simp only at h2;obtain⟨h4,h3⟩:=h2;simp only[Oper.upon];rw[h4];exact next W' h3
      | enter f args=>
       simp only at h2
       simp only[Oper.upon]
       exact h2.mono fun e kM ⟨x6,h3⟩=>by subst x6;exact next kM h3
      | _=>exact h2.elim
     | halt x W'=>exact h2.elim
    ·rw[if_neg (by rw[h1];simp)]
     have:=next W hI
     rw[h2]at this;exact this
theorem mf (n j:Nat):(Array.replicate n false).getD j false=false:=by
 rcases Nat.lt_or_ge j n with h | h
 ·simp[h]
 ·simp[h]
theorem am {Q:Exit->Act->World->Prop} {id:Nat} {a:Act} {w:World} (k:Nat) (Inv:World->Prop) (hm:P.follows .mixedOrders=true) (hf:ra ops k=true) (hk:k<=ops.size) (hI:Inv w.drew)
  (h:gS P ops Inv (fun A=>∀W,Inv W->wpList P ops Q (ops.toList.drop k) A W) (ops.toList.take k) a):(Code.region id ops true).wp P Q a w:=by
 have dJ:=ph hf;obtain⟨ac6,F,h0,iK,ct⟩:=tu _ a h
 have dQ:(ops.toList.take k).length=k:=by simp;omega
 rw[dQ]at iK
 have nA:∀i o,i<k->ops[i]?=some o->(ops.toList.take k)[i]?=some o:=fun i o hi ho=>by
  rw[List.getElem?_take,if_pos hi];simpa using ho
 have hF:∀i,i<=k->aN a ops ac6 (fun j=>j<i) (F i):=by
  intro i
  induction i with
  | zero=>intro _;rw[h0];exact⟨rfl,rfl,fun j _ _ hj=>absurd hj (by omega),fun _ _=>rfl⟩
  | succ i ih=>
   intro hi;have rc:i<ops.size:=by omega
   have ho:ops[i]?=some ops[i]:=Array.getElem?_eq_getElem rc;rw[(ct i _ (nA i _ (by omega) ho)).2]
   have:=(ih (by omega)).put ho (fun j oj d hj fW hd kq=>by
    have:=dJ.adk i _ (by omega) ho j oj (by omega) fW d hd kq
    omega)
   exact⟨this.defers,this.size,fun j oj t hj=>this.on j oj t (by omega),fun t ht=>this.off t (fun j oj hj=>ht j oj (by omega))⟩
 refine wp_region_any hm ?_
 have:=G9 (P:=P) (Inv:=Inv) dJ hk a ac6 F hF (fun i o hi ho=>(ct i o (nA i o hi ho)).1) iK ops.size (Array.replicate ops.size false) a w.drew (by simp)
  (fun i o hi=>by rw[mf]at hi;cases hi) (fun j hj=>by rw[mf]at hj;cases hj) (by
   have:((List.range k).filter fun j => !(Array.replicate ops.size false).getD j false).length<=k:=by
    have:=List.length_filter_le (fun j => !(Array.replicate ops.size false).getD j false) (List.range k)
    simpa using this
   omega) ⟨rfl,rfl,(fun j _ _ hj=>by rw[mf]at hj;cases hj),fun _ _=>rfl⟩ hI
 exact this
theorem cG {ew:Act->Prop} {o:Oper} {rest:List Oper} {A:Act} {v:Value} (hw:Region.wanted o (yielded ops A.tmps)=true) (h:∀W,Inv W->(execOp A.eval o).run P W=.ok (.value v) W)
  (hr:gS P ops Inv ew rest (A.put o.dst v)):gS P ops Inv ew (o::rest) A:=
 ⟨v,fun W hI=>.inl ⟨hw,by unfold ba;rw[h W hI];exact⟨rfl,hI⟩⟩,hr⟩
theorem bF {ew:Act->Prop} {o:Oper} {rest:List Oper} {A:Act} {v:Value} (hw:Region.wanted o (yielded ops A.tmps)=true) (hr:gS P ops Inv ew rest (A.put o.dst v)) (h:∀W,Inv W->(execOp A.eval o).run P W=.ok (.value v) W:=by intro W hW;go_simp;with_reducible rfl):gS P ops Inv ew (o::rest) A:=cG hw h hr
theorem yO {ew:Act->Prop} {o:Oper} {rest:List Oper} {A:Act} (hw:Region.wanted o (yielded ops A.tmps)=false)
  (hr:gS P ops Inv ew rest (A.put o.dst undef)):gS P ops Inv ew (o::rest) A:=⟨undef,fun _ _=>.inr ⟨hw,rfl⟩,hr⟩
theorem cH {ew:Act->Prop} {o:Oper} {rest:List Oper} {A:Act} (v:Value) (hw:Region.wanted o (yielded ops A.tmps)=true) (h:∀W,Inv W->ba P Inv o A W v)
  (hr:gS P ops Inv ew rest (A.put o.dst v)):gS P ops Inv ew (o::rest) A:=⟨v,fun W hI=>.inl ⟨hw,h W hI⟩,hr⟩
end
section
variable {P : Program} {ops : Array Oper} {Inv : World → Prop}
theorem yP {Q:Exit->Act->World->Prop} {ew:Act->Prop} {rest:List Oper} (iK:∀A,ew A->∀W,Inv W->wpList P ops Q rest A W):
  ∀(l:List Oper) (A:Act) (W:World),Inv W->gS P ops Inv ew l A->wpList P ops Q (l++rest) A W
 | [],A,W,hI,h=>iK A h W hI
 | o::l,A,W,hI,⟨v,hv,h⟩=>by
  have next:∀W',Inv W'->wpList P ops Q (l++rest) (A.put o.dst v) W':=fun W' V0=>yP iK l _ W' V0 h
  show wpList P ops Q (o::(l++rest)) A W
  unfold wpList;rcases hv W hI with⟨h1,h2⟩ | ⟨h1,h2⟩
  ·rw[if_pos h1];refine .inl ?_;unfold Oper.wp;unfold ba at h2
   generalize (execOp A.eval o).run P W=r at h2 ⊢
   cases r with
   | ok nx W'=>
    cases nx with
    | value u=>simp only at h2;obtain⟨rfl,h3⟩:=h2;exact next W' h3
    | skip=>simp only at h2;obtain⟨h4,h3⟩:=h2;simp only[Oper.upon];rw[h4];exact next W' h3
    | enter f args=>
     simp only at h2
     simp only[Oper.upon]
     exact h2.mono fun e kM ⟨x6,h3⟩=>by subst x6;exact next kM h3
    | _=>exact h2.elim
   | halt x W'=>exact h2.elim
  ·rw[if_neg (by rw[h1];simp)]
   have:=next W hI
   rw[h2]at this;exact this
theorem bD {Q:Exit->Act->World->Prop} {id:Nat} {a:Act} {w:World} (k:Nat) (Inv:World->Prop) (hI:Inv w)
  (h:gS P ops Inv (fun A=>∀W,Inv W->wpList P ops Q (ops.toList.drop k) A W) (ops.toList.take k) a):(Code.region id ops false).wp P Q a w:=by
 refine wp_region_list ?_
 have:=yP (P:=P) (ops:=ops) (Q:=Q) (rest:=ops.toList.drop k) (fun A h=>h) _ a w hI h
 rwa [List.take_append_drop]at this
theorem re {o:Oper} {tmps:Array Value} {g:Nat} {e b:Bool} (hg:o.guard=some (g,e)) (hy:yielded ops tmps g=some b):Region.wanted o (yielded ops tmps)=(b==e):=by
 unfold Region.wanted;rw[hg];show(yielded ops tmps g==some e)=_
 rw[hy]
 cases b <;> cases e <;> rfl
def gv (b e:Bool) (v:Value):Value:=if b=e then v else undef
@[simp] theorem mD {b e:Bool} {v:Value} (h:b=e):gv b e v=v:=if_pos h
theorem bv {ew:Act->Prop} {o:Oper} {rest:List Oper} {A:Act} {g:Nat} {e b:Bool} {v:Value} (hg:o.guard=some (g,e)) (hy:yielded ops A.tmps g=some b)
  (h:b=e->∀W,Inv W->ba P Inv o A W v) (hr:gS P ops Inv ew rest (A.put o.dst (gv b e v))):gS P ops Inv ew (o::rest) A:=by
 refine⟨_,fun W hI=>?_,hr⟩
 rw[re hg hy]
 by_cases fH:b=e
 ·rw[mD fH];exact .inl ⟨by simp[fH],h fH W hI⟩
 ·rw[show gv b e v=undef from if_neg fH];exact .inr ⟨by simpa using fH,rfl⟩
theorem pj {ew:Act->Prop} {o:Oper} {rest:List Oper} {A:Act} {g:Nat} {e b:Bool} {v:Value} (hg:o.guard=some (g,e)) (hy:yielded ops A.tmps g=some b)
  (h:b=e->∀W,Inv W->(execOp A.eval o).run P W=.ok (.value v) W) (hr:gS P ops Inv ew rest (A.put o.dst (gv b e v))):gS P ops Inv ew (o::rest) A:=
 bv hg hy (fun hb W hI=>by unfold ba;rw[h hb W hI];exact⟨rfl,hI⟩) hr
theorem gT {ew:Act->Prop} {o:Oper} {rest:List Oper} {A:Act} {g:Nat} {e b:Bool} {v:Value} (hg:o.guard=some (g,e)) (hy:yielded ops A.tmps g=some b) (hr:gS P ops Inv ew rest (A.put o.dst (gv b e v))) (h:b=e->∀W,Inv W->(execOp A.eval o).run P W=.ok (.value v) W:=by intro hb;intro W hW;go_simp;with_reducible rfl):gS P ops Inv ew (o::rest) A:=pj hg hy h hr
theorem x8 {o:Oper} {tmps:Array Value} {g:Nat} {e' b e x:Bool} (hg:o.guard=some (g,e')) (hy:((ops[g]?).bind (·.dst)).bind (tmps[·]?)=some (gv b e (.bool x))):Region.wanted o (yielded ops tmps)=((b==e)&&(x==e')):=by
 unfold Region.wanted;rw[hg];show(yielded ops tmps g==some e')=_
 unfold yielded;rw[hy]
 by_cases fH:b=e
 ·rw[mD fH];subst fH
  cases x <;> cases e' <;> simp
 ·rw[show gv b e (.bool x)=undef from if_neg fH]
  have:(b==e)=false:=by simpa using fH
  rw[this];rfl
theorem sD {ew:Act->Prop} {o:Oper} {rest:List Oper} {A:Act} {g:Nat} {e' b e x:Bool} {v:Value} (hg:o.guard=some (g,e')) (hy:((ops[g]?).bind (·.dst)).bind (A.tmps[·]?)=some (gv b e (.bool x)))
  (h:b=e->x=e'->∀W,Inv W->ba P Inv o A W v) (hr:gS P ops Inv ew rest (A.put o.dst (gv ((b==e)&&(x==e')) true v))):gS P ops Inv ew (o::rest) A:=by
 refine⟨_,fun W hI=>?_,hr⟩
 rw[x8 hg hy]
 by_cases fH:((b==e)&&(x==e'))=true
 ·rw[mD fH];have aal:=fH;rw[Bool.and_eq_true,beq_iff_eq,beq_iff_eq]at fH;exact .inl ⟨aal,h fH.1 fH.2 W hI⟩
 ·rw[show gv _ true v=undef from if_neg fH];exact .inr ⟨by simpa using fH,rfl⟩
theorem kO {ew:Act->Prop} {o:Oper} {rest:List Oper} {A:Act} {g:Nat} {e' b e x:Bool} {v:Value} (hg:o.guard=some (g,e')) (hy:((ops[g]?).bind (·.dst)).bind (A.tmps[·]?)=some (gv b e (.bool x)))
  (h:b=e->x=e'->∀W,Inv W->(execOp A.eval o).run P W=.ok (.value v) W) (hr:gS P ops Inv ew rest (A.put o.dst (gv ((b==e)&&(x==e')) true v))):gS P ops Inv ew (o::rest) A:=
 sD hg hy (fun hb hx W hI=>by unfold ba;rw[h hb hx W hI];exact⟨rfl,hI⟩) hr
theorem sE {ew:Act->Prop} {d:Option Tmp} {ty:TypeId} {aO:String} {af:Array Edge} {c t:Operand} {rest:List Oper} {A:Act} {g:Nat} {e b x y:Bool} (hy:yielded ops A.tmps g=some b) (hc:A.eval c=gv b e (.bool x)) (hx:A.eval t=gv ((b==e)&&(x==true)) true (.bool y))
  (hr:gS P ops Inv ew rest (A.put d (gv b e (.bool (x&&y))))):gS P ops Inv ew (⟨d,.pick c t (.const (.bool false)),ty,aO,af,some (g,e)⟩::rest) A:=by
 refine pj (v:=.bool (x&&y)) rfl hy (fun hb W hW=>?_) hr
 have hk:A.eval (.const (.bool false))=.bool false:=rfl;clear hr;rw[mD hb]at hc;subst hb
 generalize A.eval=ev at hc hx hk ⊢
 cases x
 ·simp[execOp,hc,hk,go_sem]
 ·rw[mD (by simp)]at hx;simp[execOp,hc,hx,hk,go_sem]
theorem mg {ew:Act->Prop} {o:Oper} {rest:List Oper} {A:Act} {g:Nat} {e b:Bool} (hg:o.guard=some (g,e)) (hy:yielded ops A.tmps g=some b)
  (h:(b==e)=false) (hr:gS P ops Inv ew rest (A.put o.dst undef)):gS P ops Inv ew (o::rest) A:=
 yO (by rw[re hg hy];exact h) hr
theorem cd {ew:Act->Prop} {d:Option Tmp} {ty:TypeId} {aO:String} {af:Array Edge} {c x:Operand} {rest:List Oper} {A:Act} {b y:Bool} (hc:A.eval c=.bool b) (hx:A.eval x=gv b false (.bool y))
  (hr:gS P ops Inv ew rest (A.put d (.bool (b||y)))):gS P ops Inv ew (⟨d,.pick c (.const (.bool true)) x,ty,aO,af,none⟩::rest) A:=by
 refine cG (v:=.bool (b||y)) rfl (fun W hW=>?_) hr
 have hk:A.eval (.const (.bool true))=.bool true:=rfl;clear hr
 generalize A.eval=ev at hc hx hk ⊢
 cases b
 ·rw[mD rfl]at hx;simp[execOp,hc,hx,hk,go_sem]
 ·simp[execOp,hc,hk,go_sem]
theorem eF {ew:Act->Prop} {d:Option Tmp} {ty:TypeId} {aO:String} {af:Array Edge} {c x:Operand} {rest:List Oper} {A:Act} {b y:Bool} (hc:A.eval c=.bool b) (hx:A.eval x=gv b true (.bool y))
  (hr:gS P ops Inv ew rest (A.put d (.bool (b&&y)))):gS P ops Inv ew (⟨d,.pick c x (.const (.bool false)),ty,aO,af,none⟩::rest) A:=by
 refine cG (v:=.bool (b&&y)) rfl (fun W hW=>?_) hr
 have hk:A.eval (.const (.bool false))=.bool false:=rfl;clear hr
 generalize A.eval=ev at hc hx hk ⊢
 cases b
 ·simp[execOp,hc,hk,go_sem]
 ·rw[mD rfl]at hx;simp[execOp,hc,hx,hk,go_sem]
end
@[simp] theorem ad (w:World):aa w w:=Below.refl _ _
@[simp] theorem ae {w0 W:World} (o:Obj) (h:aa w0 W):aa w0 (W.alloc o):=Below.alloc h h.size o
@[simp] theorem ag {w0 W:World} (h:aa w0 W):aa w0 W.drew:=Below.drew h
theorem P7 {w W:World} (h:Below w.heap.size w W):aa w W:=h
theorem aa.below {w W:World} (h:aa w W):Below w.heap.size w W:=h
theorem aa.after {a b c:World} (h:aa a b) (h':aa b c):aa a c:=aa.trans h h'
theorem aa.cell {a b:World} (h:aa a b) {p:Addr} {v:Value} (hc:a.cell? p=some v):b.cell? p=some v:=bc h hc
theorem aj {w0 w1:World} {p:Addr} {v:Value} (f:∀W,aa w0 W->W.cell? p=some v) (h:aa w0 w1):∀W,aa w1 W->W.cell? p=some v:=fun W hW=>f W (h.after hW)
theorem ab {w0:World} {p:Addr} {v:Value} (h:w0.cell? p=some v):∀W,aa w0 W->W.cell? p=some v:=fun _ hW=>bc hW h
section
variable {P : Program} {ops : Array Oper}
def ly (P:Program) (ops:Array Oper) (w0:World) (ew:Act->Prop):List Oper->Act->Prop
 | [],A=>ew A
 | o::rest,A=>∃v,(Region.wanted o (yielded ops A.tmps)=true/\∀W,aa w0 W->(execOp A.eval o).run P W=.ok (.value v) W)/\ly P ops w0 ew rest (A.put o.dst v)
theorem ei {w0:World} {ew:Act->Prop} {o:Oper} {rest:List Oper} {A:Act} {v:Value} (hw:Region.wanted o (yielded ops A.tmps)=true) (h:∀W,aa w0 W->(execOp A.eval o).run P W=.ok (.value v) W)
  (hr:ly P ops w0 ew rest (A.put o.dst v)):ly P ops w0 ew (o::rest) A:=⟨v,⟨hw,h⟩,hr⟩
theorem rf {w0:World} {ew:Act->Prop} (l:List Oper):∀(A:Act),ly P ops w0 ew l A ->
  ∃(ac6:Nat->Value) (F:Nat->Act),F 0=A/\ew (F l.length)/\∀i o,l[i]?=some o->(Region.wanted o (yielded ops (F i).tmps)=true/\∀W,aa w0 W->(execOp (F i).eval o).run P W=.ok (.value (ac6 i)) W)/\F (i+1)=(F i).put o.dst (ac6 i):=by
 induction l with
 | nil=>intro A h;exact⟨fun _=>undef,fun _=>A,rfl,h,fun i o h=>by simp at h⟩
 | cons o l ih=>
  intro A h;obtain⟨v,hs,hf⟩:=h;obtain⟨ac6,F,h0,iK,gz⟩:=ih _ hf;refine⟨fun i=>match i with | 0=>v | i+1=>ac6 i,fun i=>match i with | 0=>A | i+1=>F i,rfl,iK,?_⟩
  intro i o' hi
  cases i with
  | zero=>simp at hi;subst hi;exact⟨hs,h0⟩
  | succ i=>exact gz i o' (by simpa using hi)
theorem aN.ac6 {a a':Act} {v v':Nat->Value} {D:Nat->Prop} (h:aN a ops v D a') (e:∀j,D j->v j=v' j):aN a ops v' D a':=
 ⟨h.defers,h.size,fun j o t hj ho hd hl=>by rw[<- e j hj];exact h.on j o t hj ho hd hl,h.off⟩
theorem aN.same {a a':Act} {v:Nat->Value} {D E:Nat->Prop} (h:aN a ops v D a') (e:∀j,D j↔E j):aN a ops v E a':=by
 have:D=E:=funext fun j=>propext (e j)
 rw[<- this];exact h
def E2 (W:World) (T:TypeId) (b:Nat) (x y:Int):Prop:=W.heap[b]?=some (.cells #[.int .i64 x,.int .i64 y] T)
end
section
variable {P : Program} {ops : Array Oper}
def rg (P:Program) (R:World->Value->Prop) (o:Oper) (A:Act) (W:World):Prop:=
 match (execOp A.eval o).run P W with
 | .ok (.value u) W'=>R W' u/\aa W W'
 | .ok (.enter f args) W'=>Calls P f args W' fun e kM=>∃u,e=.returned u/\R kM u/\aa W kM
 | _=>False
theorem eW {o:Oper} {a' A:Act} (VZ:∀t∈o.looksAt ops,a'.tmps[t]?=A.tmps[t]?) (UY:∀cs b,o.op ≠ .select cs b):execOp a'.eval o=execOp A.eval o/\Region.wanted o (yielded ops a'.tmps)=Region.wanted o (yielded ops A.tmps):=by
 refine⟨execOp_congr o UY (fun x hx=>?_),?_⟩
 ·cases x with
  | tmp t=>
   have:=VZ t (List.mem_append_left _ (List.mem_filterMap.2 ⟨.tmp t,by simpa using hx,rfl⟩))
   simp[Act.eval,this]
  | _=>rfl
 ·unfold Region.wanted
  cases hg:o.guard with
  | none=>rfl
  | some gw=>
   obtain⟨g,aaj⟩:=gw
   have:yielded ops a'.tmps g=yielded ops A.tmps g:=by
    unfold yielded
    cases ht:(ops[g]?).bind (·.dst) with
    | none=>rfl
    | some t=>
     have:=VZ t (by simp[Oper.looksAt,hg,ht])
     simp[this]
   simp only[this]
theorem aN.adf {a a':Act} {v v':Nat->Value} {D:Nat->Prop} (h:aN a ops v D a') (e:∀j,j<ops.size->D j->v j=v' j):aN a ops v' D a':=
 ⟨h.defers,h.size,fun j o t hj ho hd hl=>by rw[<- e j (Array.getElem?_eq_some_iff.1 ho).1 hj];exact h.on j o t hj ho hd hl,h.off⟩
end
theorem zB {w:World} {ve vi vn:Value} {n:aw} (h:aU w ve vi vn n):∃w0 A c A2 c2 A3 c3,ve=.slice A n.ends.length c/\vi=.slice A2 n.ids.length c2/\vn=.slice A3 n.ac1.length c3/\n.ends.length<=c/\c<=2^63-1/\c2<=2^63-1/\c3<=2^63-1/\Hid (∀k es,n.ends[k]?=some es->∃b off u,A=some ⟨b,off,none⟩/\w0.cell? ⟨b,off+k,none⟩=some u/\zL w0 u es)/\Hid (w0=w.alloc (.cells #[.slice A n.ends.length c,.slice A2 n.ids.length c2,.slice A3 n.ac1.length c3] 30))/\Hid (Below w.heap.size w w0)/\Hid (aU w0 (.slice A n.ends.length c) (.slice A2 n.ids.length c2) (.slice A3 n.ac1.length c3) n)/\(∀W,aa w0 W->W.cell? ⟨w.heap.size,0,none⟩=some (.slice A n.ends.length c))/\(∀W,aa w0 W->W.cell? ⟨w.heap.size,1,none⟩=some (.slice A2 n.ids.length c2))/\∀W,aa w0 W->W.cell? ⟨w.heap.size,2,none⟩=some (.slice A3 n.ac1.length c3):=by
 obtain⟨w0,ar⟩:∃w0,w0=w.alloc (.cells #[ve,vi,vn] 30):=⟨_,rfl⟩
 have bG:Below w.heap.size w w0:=by rw[ar];exact((Below.refl _ _).alloc (by simp) _)
 have H:=h.ac2 bG;obtain⟨h1,h2,h3⟩:=h.ac2 bG;obtain⟨A,c,rfl,f_,hm,hA⟩:=h1;obtain⟨A2,c2,rfl,_,fq,_⟩:=h2;obtain⟨A3,c3,rfl,_,fF,_⟩:=h3;unfold maxLen at hm fq fF
 exact⟨w0,A,c,A2,c2,A3,c3,rfl,rfl,rfl,f_,hm,fq,fF,hA,ar,bG,H,ab (by rw[ar];simp),ab (by rw[ar];simp),ab (by rw[ar];simp)⟩
theorem eX {k:Nat} {p:Nat->Bool}:(List.range (k+1)).all p=((List.range k).all p&&p k):=by rw[List.range_succ,List.all_append];simp
theorem bV {n k:Nat} {p:Nat->Bool} (hk:k<n) (h:p k=false):(List.range n).all p=false:=by
 rw[List.all_eq_false];exact⟨k,List.mem_range.2 hk,by simp[h]⟩
def rh (lo hi:Int) (xs:List Int):Bool:=(List.range xs.length).all fun i=>fT lo hi (xs.getD i 0)&&(i==0||decide (xs.getD (i-1) 0<xs.getD i 0))
theorem ak {α:Type} {xs:List α} {k:Nat} {x d:α} (h:xs[k]?=some x):xs.getD k d=x:=by simp[h]
theorem vA (v:Value) (xs:List Int) (lo hi:Int) (w:World) (h:bO w v xs):
  Calls Tryz.prog 135 #[v,.int .i64 lo,.int .i64 hi] w fun e w'=>e=.returned (.bool (rh lo hi xs))/\w=w':=by
 obtain⟨A,c,rfl,f_,hm,hA⟩:=h;unfold maxLen at hm;have HA:=zh hA;clear hA
 go_enter Tryz.func135,Tryz.ntmps135
 go_wp2
 go_loop [11] (fun i=>∃k:Nat,k<=xs.length/\i=.int .i64 k/\((List.range k).all fun i=>fT lo hi (xs.getD i 0)&&(i==0||decide (xs.getD (i-1) 0<xs.getD i 0)))=true) (fun i=>xs.length-(intOf i).toNat)
 case atStart=>exact⟨0,Nat.zero_le _,rfl,rfl⟩
 case round=>
  obtain⟨k,hk,rfl,bH⟩:=hrel;have eV:=zh bH;clear bH
  by_cases aH:k<xs.length
  ·obtain⟨x,hx⟩:=ay xs k aH;obtain⟨b,off,rfl,fJ⟩:=HA.out k x hx;have Hx:=zh hx;cases hb:fT lo hi x
   ·have Hb:=zh hb;clear hx
    go_wp2_with (go_at_call 34;refine(fj _ _ _ _).mono ?_;rintro e w' ⟨rfl,rfl⟩)
    go_ret
    exact⟨aB (bV aH (by rw[ak Hx.out,Hb.out];rfl)),rfl⟩
   ·have Hb:=zh hb
    by_cases M7:k=0
    ·subst M7;simp only[Nat.add_zero]at fJ;clear hx
     go_wp2_with (go_at_call 34;refine(fj _ _ _ _).mono ?_;rintro e w' ⟨rfl,rfl⟩)
     go_round
     case rel=>exact⟨0+1,by omega,by go_num,by rw[eX,eV.out,ak Hx.out,Hb.out];rfl⟩
     case measure=>simp[intOf];omega
    ·obtain⟨y,hy⟩:=ay xs (k-1) (by omega);obtain⟨b',md,he,aam⟩:=HA.out (k-1) y hy
     injection he with he
     injection he with e1 e2
     subst e1 e2;have Hy:=zh hy;have pM:0<k:=by omega
     cases M8:decide (x<=y)
     all_goals
      have Hyx:=zh M8
     ·have hn:¬x<=y:=by simpa using M8
      clear hx hy M8
      go_wp2_with (go_at_call 34;refine(fj _ _ _ _).mono ?_;rintro e w' ⟨rfl,rfl⟩)
      go_round
      case rel=>exact⟨k+1,by omega,by go_num,by rw[eX,eV.out,ak Hx.out,ak Hy.out,Hb.out];simp;omega⟩
      case measure=>simp[intOf];omega
     ·have hn:x<=y:=by simpa using M8
      clear hx hy M8
      go_wp2_with (go_at_call 34;refine(fj _ _ _ _).mono ?_;rintro e w' ⟨rfl,rfl⟩)
      go_ret
      exact⟨aB (bV aH (by rw[ak Hx.out,ak Hy.out,Hb.out];simp;omega)),rfl⟩
  ·obtain rfl:k=xs.length:=by omega
   go_wp2;go_ret;exact⟨dn eV.out,rfl⟩
def BO (ids:List Int) (nodes:Int):Bool:=ids.isEmpty||((ids.length:Int)==nodes&&rh 1 999999 (ids.mergeSort fun x y=>decide (x<=y)))
theorem vB {w w1 w2:World} {v:Value} {xs:List Int} (h:Below w.heap.size w w1) (ho:Own w1 w.heap.size v xs) (hg:w1.grownBy w2 v.ownBlock):Below w.heap.size w w2:=
 h.grown hg h.size (fun k hk=>(World.ownsRow.lt ho k hk).1)
theorem sF (v:Value) (ids:List Int) (nodes:Int) (w:World) (h:bO w v ids) (hl:ids.length<=17592186044416):
  Calls Tryz.prog 78 #[v,.int .i64 nodes] w fun e w'=>e=.returned (.bool (BO ids nodes))/\Below w.heap.size w w':=by
 have H:=zh h;obtain⟨A,c,rfl,f_,hm,hA⟩:=h;clear hA;unfold maxLen at hm
 by_cases h0:ids.length=0
 ·obtain rfl:ids=[]:=List.eq_nil_of_length_eq_zero h0
  go_enter Tryz.func78,Tryz.ntmps78
  go_wp2;go_ret;exact⟨rfl,Below.refl _ _⟩
 ·have h0':(((ids.length:Nat):Int)==0)=false:=by simp;intro h;simp[h]at h0
  have V1:ids.isEmpty=false:=by cases ids <;> simp_all
  have Hr:=zh (show BO ids nodes=((ids.length:Int)==nodes&&rh 1 999999 (ids.mergeSort fun x y=>decide (x<=y)))by simp[BO,V1])
  clear V1 h0;cases hn:((ids.length:Int)==nodes)
  all_goals
   have Hn:=zh hn
   go_enter Tryz.func78,Tryz.ntmps78
   go_wp2_with fail;refine(yK _ ids _ H.out hl).mono ?_;rintro e w1 ⟨u,rfl,ho,hb⟩;have Ho:=zh ho;have Hb:=zh hb;clear ho hb;go_wp2_with fail;refine(vx _ ids _ _ Ho.out hl).mono ?_;rintro e w2 ⟨rfl,dW,hg⟩;have nW:=zh dW;have kP:=zh (vB Hb.out Ho.out hg);clear dW hg;go_wp2_with fail
  ·go_ret
   exact⟨aB (by rw[Hr.out,Hn.out];rfl),kP.out⟩
  ·refine(vA _ _ _ _ _ nW.out.ints).mono ?_;rintro e w3 ⟨rfl,rfl⟩;go_wp2;go_ret
   exact⟨ce (by rw[Hr.out,Hn.out];rfl),kP.out⟩
def pk (ac1:List Int) (nodes:Int):Bool:=(ac1.length:Int)==nodes&&ac1.all (fT 0 9)
theorem ri (v:Value) (xs:List Int) (nodes:Int) (w:World) (h:bO w v xs):
  Calls Tryz.prog 79 #[v,.int .i64 nodes] w fun e w'=>e=.returned (.bool (pk xs nodes))/\Below w.heap.size w w':=by
 have H:=zh h;obtain⟨A,c,rfl,f_,hm,hA⟩:=h;clear hA;unfold maxLen at hm;unfold pk;cases hn:((xs.length:Int)==nodes)
 all_goals
  go_enter Tryz.func79,Tryz.ntmps79
  go_wp2_with fail
 ·go_ret;exact⟨rfl,Below.refl _ _⟩
 ·refine(qd _ xs _ _ _ H.out).mono ?_;rintro e w1 ⟨rfl,hb⟩;have Hb:=zh hb;clear hb;go_wp2;go_ret;exact⟨rfl,Hb.out⟩
theorem tv (ve vi vn:Value) (dl:List (List (Int×Int))) (v:Int) (w:World) (h:no w ve dl):
  Calls Tryz.prog 118 #[.agg #[ve,vi,vn],.int .i64 v] w fun e w'=>e=.returned (.bool (fT 0 ((dl.length:Int)-1) v))/\Below w.heap.size w w':=by
 obtain⟨A,c,rfl,f_,hm,hA⟩:=h;clear hA;unfold maxLen at hm
 go_enter Tryz.func118,Tryz.ntmps118
 go_wp2_with (go_at_call 34;refine(fj _ _ _ _).mono ?_;rintro e w' ⟨rfl,rfl⟩)
 go_ret;exact⟨rfl,ao _ _⟩
def dq (dl:List (List (Int×Int))) (v i:Int):Bool:=fT 0 ((dl.length:Int)-1) v&&fT 0 (((dl.getD v.toNat []).length:Int)-1) i
theorem tw (ve vi vn:Value) (dl:List (List (Int×Int))) (v i:Int) (w:World) (h:no w ve dl):
  Calls Tryz.prog 68 #[.agg #[ve,vi,vn],.int .i64 v,.int .i64 i] w fun e w'=>e=.returned (.bool (dq dl v i))/\Below w.heap.size w w':=by
 have bG:Below w.heap.size w (w.alloc (.cells #[ve,vi,vn] 30)):=ao _ _;have H:=zh (h.ac2 bG);obtain⟨A,c,rfl,f_,hm,hA⟩:=h;unfold maxLen at hm;have bQ:=zh bG;clear bG;unfold dq;cases hn:fT 0 ((dl.length:Int)-1) v
 ·clear hA
  go_enter Tryz.func68,Tryz.ntmps68
  go_wp2_with fail;refine(tv _ _ _ dl v _ H.out).mono ?_;rintro e w1 ⟨rfl,aX⟩;have fE:=zh (bQ.out.trans (aX.mono (by simp)));clear aX;go_wp2;go_ret;exact⟨rfl,fE.out⟩
 ·obtain⟨G_,M9⟩:=aL.1 hn;obtain⟨k,rfl⟩:=Int.eq_ofNat_of_zero_le G_;have hk:k<dl.length:=by omega
  obtain⟨es,ca⟩:=ay dl k hk;obtain⟨b,off,u,rfl,dG,hr⟩:=hA k es ca;obtain⟨A1,z1,rfl,dP,eO,_⟩:=hr;unfold maxLen at eO;have hg:=zh (show(dl.getD ((k:Int)).toNat [])=es by rw[Int.toNat_natCast,ak ca])
  rw[hg.out];have lK:=bc bQ.out dG;clear hA ca dG
  go_enter Tryz.func68,Tryz.ntmps68
  go_wp2_with fail;refine(tv _ _ _ dl k _ H.out).mono ?_;rintro e w1 ⟨rfl,aX⟩;have DZ:=bc aX lK;have hc4:w1.cell? ⟨w.heap.size,0,none⟩=some (.slice (some ⟨b,off,none⟩) dl.length c):=bc aX (by simp);have fE:=zh (bQ.out.trans (aX.mono (by simp)));clear aX lK
  go_wp2_with (go_at_call 34;refine(fj _ _ _ _).mono ?_;rintro e w' ⟨rfl,rfl⟩)
  go_ret;exact⟨rfl,fE.out⟩
def kc (dl:List (List (Int×Int))) (v i:Nat) (e:Int×Int):Bool:=dq dl e.1 e.2&&yL ((dl.getD e.1.toNat []).getD e.2.toNat (0,0)) ((v:Int),(i:Int))
def gA (dl:List (List (Int×Int))) (v:Nat) (es:List (Int×Int)):Bool:=decide (es.length<=6)&&(List.range es.length).all fun i=>kc dl v i (es.getD i (0,0))
def aW (n:aw):Bool:=fT 1 40 n.ends.length&&BO n.ids n.ends.length&&pk n.ac1 n.ends.length&&(List.range n.ends.length).all fun v=>gA n.ends v (n.ends.getD v [])
theorem g8 (ve vi vn:Value) (n:aw) (w:World) (h:aU w ve vi vn n) (hl:n.ids.length<=17592186044416):
  Calls Tryz.prog 32 #[.agg #[ve,vi,vn]] w fun e w'=>e=.returned (.bool (aW n))/\Below w.heap.size w w':=by
 have bG:Below w.heap.size w (w.alloc (.cells #[ve,vi,vn] 30)):=ao _ _;have H:=zh (h.ac2 bG);obtain⟨h1,h2,h3⟩:=h;obtain⟨A,c,rfl,f_,hm,hA⟩:=h1;obtain⟨A2,c2,rfl,_,fq,_⟩:=h2;obtain⟨A3,c3,rfl,_,fF,_⟩:=h3;unfold maxLen at hm fq fF;have bQ:=zh bG;have HA:=zh hA;clear bG hA;cases t1:fT 1 40 (n.ends.length:Int)
 ·have hr:=zh (show aW n=false by simp[aW,t1])
  go_enter Tryz.func32,Tryz.ntmps32
  go_wp2_with (go_at_call 34;refine(fj _ _ _ _).mono ?_;rintro e w' ⟨rfl,rfl⟩)
  go_ret;exact⟨aB hr.out,bQ.out⟩
 ·cases t2:BO n.ids n.ends.length
  ·have hr:=zh (show aW n=false by simp[aW,t2])
   go_enter Tryz.func32,Tryz.ntmps32
   go_wp2_with (go_at_call 34;refine(fj _ _ _ _).mono ?_;rintro e w' ⟨rfl,rfl⟩)
   refine(sF _ n.ids _ _ H.out.2.1 hl).mono ?_;rintro e w1 ⟨rfl,aX⟩;have fE:=zh (bQ.out.trans (aX.mono (by simp)));clear aX;go_wp2;go_ret;exact⟨aB hr.out,fE.out⟩
  ·cases t3:pk n.ac1 n.ends.length
   ·have hr:=zh (show aW n=false by simp[aW,t3])
    go_enter Tryz.func32,Tryz.ntmps32
    go_wp2_with (go_at_call 34;refine(fj _ _ _ _).mono ?_;rintro e w' ⟨rfl,rfl⟩)
    refine(sF _ n.ids _ _ H.out.2.1 hl).mono ?_;rintro e w1 ⟨rfl,aX⟩;have fE:=zh (bQ.out.trans (aX.mono (by simp)));have H1:=zh (H.out.ac2 aX);have d0:w1.cell? ⟨w.heap.size,0,none⟩=some (.slice A n.ends.length c):=bc aX (by simp);have d2:w1.cell? ⟨w.heap.size,2,none⟩=some (.slice A3 n.ac1.length c3):=bc aX (by simp);clear aX;go_wp2_with fail;refine(ri _ n.ac1 _ _ H1.out.2.2).mono ?_;rintro e w2 ⟨rfl,bJ⟩;have kP:=zh (fE.out.trans (bJ.mono fE.out.size));clear bJ;go_wp2;go_ret;exact⟨aB hr.out,kP.out⟩
   ·have hr:=zh (show aW n=(List.range n.ends.length).all fun v=>gA n.ends v (n.ends.getD v [])by simp[aW,t1,t2,t3])
    go_enter Tryz.func32,Tryz.ntmps32
    go_wp2_with (go_at_call 34;refine(fj _ _ _ _).mono ?_;rintro e w' ⟨rfl,rfl⟩)
    refine(sF _ n.ids _ _ H.out.2.1 hl).mono ?_;rintro e w1 ⟨rfl,aX⟩;have fE:=zh (bQ.out.trans (aX.mono (by simp)));have H1:=zh (H.out.ac2 aX);have d0:w1.cell? ⟨w.heap.size,0,none⟩=some (.slice A n.ends.length c):=bc aX (by simp);have d1:w1.cell? ⟨w.heap.size,1,none⟩=some (.slice A2 n.ids.length c2):=bc aX (by simp);have d2:w1.cell? ⟨w.heap.size,2,none⟩=some (.slice A3 n.ac1.length c3):=bc aX (by simp);clear aX;go_wp2_with fail;refine(ri _ n.ac1 _ _ H1.out.2.2).mono ?_;rintro e w2 ⟨rfl,bJ⟩;have kP:=zh (fE.out.trans (bJ.mono fE.out.size));have H2:=zh (H1.out.ac2 bJ);have e0:=bc bJ d0;have e1:=bc bJ d1;have e2:=bc bJ d2;have eR:w.heap.size<w2.heap.size:=World.block_lt_of_cell? w2 _ e0;have E:=zh (And.intro e0 (And.intro e1 e2));clear bJ d0 d1 d2 H H1;go_wp2
    go_loopw [33] (fun i wr=>∃k:Nat,k<=n.ends.length/\i=.int .i64 k/\((List.range k).all fun v=>gA n.ends v (n.ends.getD v []))=true/\Below w2.heap.size w2 wr) (fun i _=>n.ends.length-(intOf i).toNat)
    case atStart=>exact⟨0,Nat.zero_le _,rfl,rfl,Below.refl _ _⟩
    case round=>
     obtain⟨k,hk,rfl,bH,BP⟩:=hrel;have eV:=zh bH;have P8:=zh BP;clear bH BP
     by_cases aH:k<n.ends.length
     ·obtain⟨es,ca⟩:=ay n.ends k aH;obtain⟨b,off,u,rfl,dG,aD⟩:=HA.out k es ca;have hbA:=kP.out.trans (P8.out.mono kP.out.size);have lK:=bc hbA dG;have ch:=zh (aD.ac2 hbA);obtain⟨A1,z1,rfl,dP,eO,nN⟩:=aD;have NF:=zh nN;unfold maxLen at eO;have nO:=zh ca;have D4:=zh hbA;clear ca hbA dG nN
      by_cases h6:es.length<=6
      ·go_wp2;obtain⟨wo,rfl⟩:∃wo:World,wo=wr:=⟨_,rfl⟩
       go_loopw [43] (fun i wq=>∃j:Nat,j<=es.length/\i=.int .i64 j/\((List.range j).all fun i=>kc n.ends k i (es.getD i (0,0)))=true/\Below wo.heap.size wo wq) (fun i _=>es.length-(intOf i).toNat)
       case atStart=>exact⟨0,Nat.zero_le _,rfl,rfl,Below.refl _ _⟩
       case round=>
        obtain⟨j,hj,rfl,BQ,M_⟩:=hrel;have BS:=zh BQ;have Hbq:=zh M_;have P9:=D4.out.trans (M_.mono D4.out.size);have Na:=P8.out.trans (M_.mono P8.out.size);clear BQ M_
        by_cases eD:j<es.length
        ·obtain⟨⟨x1,x2⟩,he⟩:=ay es j eD;obtain⟨b1,D5,rfl,yN,kq⟩:=NF.out j _ he;have q1:=bc P9 yN;have q2:=bc P9 kq;obtain⟨n0,n1,n2⟩:=E.out;have m0:=bc Na n0;have m1:=bc Na n1;have m2:=bc Na n2;have ach:w.heap.size<wr.heap.size:=World.block_lt_of_cell? wr _ m0;have He:=zh he;have NG:=zh P9;have HN:=zh (H2.out.1.ac2 Na);clear he P9 Na n0 n1 n2 yN kq lK;cases hp:dq n.ends x1 x2
         ·have Hp:=zh hp;go_wp2;obtain⟨w0,ar⟩:∃w0,(wr.alloc (Obj.cells #[Value.int IntKind.i64 x1,Value.int IntKind.i64 x2] 104))=w0:=⟨_,rfl⟩
          rw[ar]
          have uH:Below wr.heap.size wr w0:=by rw[<- ar];exact ao _ _
          have hi0:∀W,aa w0 W->W.cell? ⟨w.heap.size,0,none⟩=some (.slice (some ⟨b,off,none⟩) n.ends.length c):=fun W hW=>bc hW (bc uH m0)
          have qt:∀W,aa w0 W->W.cell? ⟨w.heap.size,1,none⟩=some (.slice A2 n.ids.length c2):=fun W hW=>bc hW (bc uH m1)
          have tZ:∀W,aa w0 W->W.cell? ⟨w.heap.size,2,none⟩=some (.slice A3 n.ac1.length c3):=fun W hW=>bc hW (bc uH m2)
          have hi3:∀W,aa w0 W->W.cell? ⟨wr.heap.size,0,none⟩=some (.int .i64 x1):=fun W hW=>bc hW (by rw[<- ar];simp)
          have hi4:∀W,aa w0 W->W.cell? ⟨wr.heap.size,1,none⟩=some (.int .i64 x2):=fun W hW=>bc hW (by rw[<- ar];simp)
          have HN0:=zh (HN.out.ac2 uH);have Hh:=zh uH;clear ar uH m0 m1 m2;refine am 23 (aa w0) (by kernel_rfl) (by kernel_rfl) (by simp) (aa.drew w0) ?_;simp only[zT]
          iterate 5 (refine bF rfl ?_;simp only[zA])
          refine cH (.bool false) rfl (fun W hW=>?_) ?_
          ·unfold ba
           go_simp
           refine(tw _ _ _ n.ends x1 x2 W (HN0.out.ac2 hW)).mono ?_;rintro e W' ⟨rfl,aG⟩;exact⟨by rw[Hp.out],hW.trans aG⟩
          simp only[zA]
          iterate 2 (refine bF rfl ?_;simp only[zA])
          iterate 14 (refine yO rfl ?_;simp only[zA])
          iterate 1 (refine bF rfl ?_;simp only[zA])
          intro W hW;have HW:=zh hW;clear hW;go_wp2;go_ret
          exact⟨aB (by rw[hr.out];refine bV aH ?_;rw[ak nO.out];simp only[gA];rw[Bool.and_eq_false_iff];exact .inr (bV eD (by rw[ak He.out];simp[kc,Hp.out]))),(NG.out.trans (Hh.out.mono NG.out.size)).trans ((show Below w0.heap.size w0 W from HW.out).mono (by have:=NG.out.size;have:=Hh.out.size;omega))⟩
         ·have Hp:=zh hp;have sG:=hp;unfold dq at sG;rw[Bool.and_eq_true]at sG;obtain⟨p1,p2⟩:=sG;obtain⟨p3,p4⟩:=aL.1 p1;obtain⟨k1,rfl⟩:=Int.eq_ofNat_of_zero_le p3;have pM:k1<n.ends.length:=by omega
          obtain⟨FT,BU⟩:=ay n.ends k1 pM;rw[Int.toNat_natCast,ak BU]at p2;obtain⟨p5,p6⟩:=aL.1 p2;obtain⟨i1,rfl⟩:=Int.eq_ofNat_of_zero_le p5;have qt:i1<FT.length:=by omega
          obtain⟨⟨y1,y2⟩,hy⟩:=ay FT i1 qt;obtain⟨b2,rj,u',vv,DZ,JM⟩:=HA.out k1 FT BU
          injection vv with vv
          injection vv with q3 q4
          subst q3 q4;obtain⟨Bl,P_,rfl,NH,Rw,D6⟩:=JM;obtain⟨b3,NI,rfl,V2,Qa⟩:=D6 i1 _ hy;unfold maxLen at Rw;have Hy:=zh hy;have Ht:=zh BU;have g3:=bc NG.out DZ;have g5:=bc NG.out V2;have g6:=bc NG.out Qa;clear BU hy DZ V2 Qa D6 p1 p2 hp;go_wp2;obtain⟨w0,ar⟩:∃w0,(wr.alloc (Obj.cells #[Value.int IntKind.i64 (k1:Int),Value.int IntKind.i64 (i1:Int)] 104))=w0:=⟨_,rfl⟩
          rw[ar]
          have uH:Below wr.heap.size wr w0:=by rw[<- ar];exact ao _ _
          have i0:∀W,aa w0 W->W.cell? ⟨w.heap.size,0,none⟩=some (.slice (some ⟨b,off,none⟩) n.ends.length c):=fun W hW=>bc hW (bc uH m0)
          have i1':∀W,aa w0 W->W.cell? ⟨w.heap.size,1,none⟩=some (.slice A2 n.ids.length c2):=fun W hW=>bc hW (bc uH m1)
          have i2:∀W,aa w0 W->W.cell? ⟨w.heap.size,2,none⟩=some (.slice A3 n.ac1.length c3):=fun W hW=>bc hW (bc uH m2)
          have i3:∀W,aa w0 W->W.cell? ⟨wr.heap.size,0,none⟩=some (.int .i64 (k1:Int)):=fun W hW=>bc hW (by rw[<- ar];simp)
          have i4:∀W,aa w0 W->W.cell? ⟨wr.heap.size,1,none⟩=some (.int .i64 (i1:Int)):=fun W hW=>bc hW (by rw[<- ar];simp)
          have i5:∀W,aa w0 W->W.cell? ⟨b,off+k1,none⟩=some (.slice (some ⟨b3,NI,none⟩) FT.length P_):=fun W hW=>bc hW (bc uH g3)
          have i6:∀W,aa w0 W->W.cell? ⟨b3,NI+i1*2,none⟩=some (.int .i64 y1):=fun W hW=>bc hW (bc uH g5)
          have i7:∀W,aa w0 W->W.cell? ⟨b3,NI+i1*2+1,none⟩=some (.int .i64 y2):=fun W hW=>bc hW (bc uH g6)
          have HN0:=zh (HN.out.ac2 uH);have Hh:=zh uH;clear ar uH m0 m1 m2 g3 g5 g6;refine am 23 (aa w0) (by kernel_rfl) (by kernel_rfl) (by simp) (aa.drew w0) ?_;simp only[zT]
          iterate 5 (refine bF rfl ?_;simp only[zA])
          refine cH (.bool true) rfl (fun W hW=>?_) ?_
          ·unfold ba
           go_simp
           refine(tw _ _ _ n.ends k1 i1 W (HN0.out.ac2 hW)).mono ?_;rintro e W' ⟨rfl,aG⟩;exact⟨by rw[Hp.out],hW.trans aG⟩
          simp only[zA]
          iterate 15 (refine bF rfl ?_;simp only[zA])
          refine cH (.bool (!yL (y1,y2) ((k:Int),(j:Int)))) rfl (fun W hW=>?_) ?_
          ·unfold ba
           go_simp
           by_cases f1:y1=(k:Int)
           ·by_cases f2:y2=(j:Int)
            ·simp[f1,f2,yL,hW]
            ·simp[f1,f2,yL,hW]
           ·simp[f1,yL,hW]
          simp only[zA];cases hq:yL (y1,y2) ((k:Int),(j:Int))
          all_goals
           have Hq:=zh hq;clear hq
           iterate 1 (refine bF rfl ?_;simp only[zA])
           intro W hW;have HW:=zh hW
           have HbW:=zh ((NG.out.trans (Hh.out.mono NG.out.size)).trans ((show Below w0.heap.size w0 W from hW).mono (by have:=NG.out.size;have:=Hh.out.size;omega)))
           have aan:=zh ((Hbq.out.trans (Hh.out.mono Hbq.out.size)).trans ((show Below w0.heap.size w0 W from hW).mono (by have:=Hbq.out.size;have:=Hh.out.size;omega)))
           clear hW;go_wp2
          ·go_ret
           exact⟨aB (by rw[hr.out];refine bV aH ?_;rw[ak nO.out];simp only[gA];rw[Bool.and_eq_false_iff];exact .inr (bV eD (by rw[ak He.out];simp[kc,Hp.out,Ht.out,Hy.out,Hq.out]))),HbW.out⟩
          ·go_roundw
           case rel=>exact⟨j+1,by omega,by go_num,by rw[eX,BS.out,ak He.out];simp[kc,Hp.out,Ht.out,Hy.out,Hq.out],aan.out⟩
           case measure=>simp[intOf];omega
        ·obtain rfl:j=es.length:=by omega
         have aao:=zh Na;clear P9 Na;go_wp2;go_roundw
         case rel=>exact⟨k+1,by omega,by go_num,by rw[eX,eV.out,ak nO.out,Bool.true_and];unfold gA;rw[BS.out];simp[h6],aao.out⟩
         case measure=>simp[intOf];omega
      ·go_wp2;go_ret
       exact⟨aB (by rw[hr.out];exact bV aH (by rw[ak nO.out];simp[gA,h6])),D4.out⟩
     ·obtain rfl:k=n.ends.length:=by omega
      go_wp2;go_ret
      exact⟨dn (by rw[hr.out];exact eV.out),kP.out.trans (P8.out.mono kP.out.size)⟩
end Go.Proofs.YtnioemnkfojmkaaGreat
