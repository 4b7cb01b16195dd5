/- Parts of the proof: walks of functions and plain laws. -/
import Derived.Test.YtgmdpppljkmabaaGreatQ0
import Derived.Orders
import Derived.Below
import Derived.Tactics
set_option maxRecDepth 100000
set_option maxHeartbeats 16000000
namespace Go.Proofs.YtgmdpppljkmabaaGreat
open Go Go.RowKit
section
variable {P : Program} {ops : Array Oper} {Inv : World → Prop}
def aa (w0 W:World):Prop:=Below w0.heap.size w0 W
theorem aa.drew (w0:World):aa w0 w0.drew:=(Below.refl _ _).drew
theorem aa.trans {w0 W W':World} (h:aa w0 W) (h':Below W.heap.size W W'):aa w0 W':=Below.trans h (h'.mono h.size)
def dr (P:Program) (Inv:World->Prop) (o:Oper) (A:Act) (W:World) (v:Value):Prop:=
 match (execOp A.eval o).run P W with
 | .ok (.value u) W'=>u=v/\Inv W'
 | .ok .skip W'=>undef=v/\Inv W'
 | .ok (.enter f args) W'=>Calls P f args W' fun e oN=>e=.returned v/\Inv oN
 | _=>False
def Fv (P:Program) (ops:Array Oper) (Inv:World->Prop) (o:Oper) (A:Act) (v:Value):Prop:=
 ∀W,Inv W->(Region.wanted o (yielded ops A.tmps)=true/\dr P Inv o A W v)\/(Region.wanted o (yielded ops A.tmps)=false/\v=undef)
def iz (P:Program) (ops:Array Oper) (Inv:World->Prop) (fin:Act->Prop):List Oper->Act->Prop
 | [],A=>fin A
 | o::rest,A=>∃v,Fv P ops Inv o A v/\iz P ops Inv fin rest (A.put o.dst v)
def bM (o:Oper):List Nat:=o.after.toList.filterMap fun e=>if Region.binds .any e then some e.on else none
theorem CZ {o:Oper} {j:Nat}:j∈bM o↔∃e∈o.after,Region.binds .any e=true/\e.on=j:=by
 unfold bM;rw[List.mem_filterMap];constructor
 ·rintro⟨e,he,h⟩
  split at h
  ·rename_i hb;cases h;exact⟨e,by simpa using he,hb,rfl⟩
  ·cases h
 ·rintro⟨e,he,hb,rfl⟩;exact⟨e,by simpa using he,by simp[hb]⟩
inductive PY (ops:Array Oper) (j:Nat):Nat->Prop
 | dep {i:Nat} {o:Oper}:ops[i]?=some o->j∈bM o->PY ops j i
 | step {m i:Nat} {o:Oper}:PY ops j m->ops[i]?=some o->m∈bM o->PY ops j i
def IC (ops:Array Oper) (tbl:List (List Nat)) (i:Nat):List Nat:=
 match ops[i]? with
 | none=>[]
 | some o=>(List.range i).filter fun j=>(bM o).contains j||(bM o).any fun m=>(tbl.getD m []).contains j
def kO (ops:Array Oper):Nat->List (List Nat)
 | 0=>[]
 | n+1=>let t:=kO ops n;t++[IC ops t n]
theorem C0 (n:Nat):(kO ops n).length=n:=by
 induction n with
 | zero=>rfl
 | succ n ih=>simp[kO,ih]
theorem gO (n:Nat):∀i j,j∈(kO ops n).getD i []->PY ops j i:=by
 induction n with
 | zero=>intro i j h;simp[kO]at h
 | succ n ih=>
  intro i j h;have hl:=C0 (ops:=ops) n;simp only[kO]at h;rcases Nat.lt_trichotomy i n with hi | hi | hi
  ·rw[zDd,List.getElem?_append_left (by omega),<- zDd]at h;exact ih i j h
  ·subst hi;rw[zDd,List.getElem?_append_right (by omega),hl,Nat.sub_self]at h;simp only[List.getElem?_cons_zero,Option.getD_some,IC]at h
   cases ho:ops[i]? with
   | none=>simp[ho]at h
   | some o=>
    simp only[ho,List.mem_filter,Bool.or_eq_true,List.any_eq_true,List.contains_iff_mem]at h;rcases h.2 with h | ⟨m,hm,hj⟩
    ·exact .dep ho h
    ·exact .step (ih m j hj) ho hm
  ·rw[zDd,List.getElem?_append_right (by omega),hl,List.getElem?_eq_none (by simp;omega)]at h;simp at h
def wJ (ops:Array Oper) (k:Nat):Bool:=
 Region.noSelect ops &&
 ((List.range ops.size).all fun i=>match ops[i]? with
  | none=>true
  | some o=>((bM o).all fun j=>decide (j<i)) &&
   (decide (k<=i) ||
    (((o.looksAt ops).all fun t=>(List.range k).all fun j=>match ops[j]? with
     | none=>true
     | some oj=>if oj.dst=some t then (bM o).contains j else true) &&
    ((List.range k).all fun j=>match ops[j]? with
     | none=>true
     | some oj=>decide (j=i)||(match o.dst with | none=>true | some d=>oj.dst != some d)))) &&
   (decide (i<k)||((List.range i).all fun j=>((kO ops (i+1)).getD i []).contains j)))
structure Fw (ops:Array Oper) (k:Nat):Prop where
 aeo:∀(j:Nat) (o:Oper) cs b,ops[j]?=some o->o.op ≠ .select cs b
 back:∀i o,ops[i]?=some o->∀j∈bM o,j<i
 looks:∀i o,i<k->ops[i]?=some o->∀t∈o.looksAt ops,∀j oj,j<k->ops[j]?=some oj->oj.dst=some t->j∈bM o
 aes:∀i o,i<k->ops[i]?=some o->∀j oj,j<k->ops[j]?=some oj->∀d,o.dst=some d->oj.dst=some d->j=i
 tail:∀i,k<=i->i<ops.size->∀j,j<i->PY ops j i
theorem rV {k:Nat} (h:wJ ops k=true):Fw ops k:=by
 unfold wJ at h;rw[Bool.and_eq_true,List.all_eq_true]at h;obtain⟨hs,h⟩:=h
 have rJ:∀(i:Nat) (o:Oper),ops[i]?=some o->_:=fun i o ho=>by
  have:=h i (List.mem_range.2 (Array.getElem?_eq_some_iff.1 ho).1)
  simp only[ho,Bool.and_eq_true]at this;exact this
 refine⟨fun j o cs b ho=>Region.noSelect_spec hs j o cs b ho,fun i o ho j hj=>?_,fun i o hi ho t ht j oj hj fZ hd=>?_,fun i o hi ho j oj hj fZ d hd iq=>?_,fun i hki hi j hj=>?_⟩
 ·have:=(rJ i o ho).1.1
  rw[List.all_eq_true]at this;simpa using this j hj
 ·have:=(rJ i o ho).1.2
  rw[Bool.or_eq_true]at this;rcases this with h1 | h1
  ·simp at h1;omega
  ·rw[Bool.and_eq_true]at h1;have h2:=List.all_eq_true.1 (List.all_eq_true.1 h1.1 t ht) j (List.mem_range.2 hj);simp only[fZ,hd,if_true]at h2;simpa using h2
 ·have:=(rJ i o ho).1.2
  rw[Bool.or_eq_true]at this;rcases this with h1 | h1
  ·simp at h1;omega
  ·rw[Bool.and_eq_true]at h1;have h2:=List.all_eq_true.1 h1.2 j (List.mem_range.2 hj);simp only[fZ,hd,iq,Bool.or_eq_true,decide_eq_true_eq]at h2;rcases h2 with h2 | h2
   ·exact h2
   ·simp at h2
 ·obtain⟨o,ho⟩:∃o,ops[i]?=some o:=⟨_,Array.getElem?_eq_getElem hi⟩
  have:=(rJ i o ho).2
  rw[Bool.or_eq_true]at this;rcases this with h1 | h1
  ·simp at h1;omega
  ·have h2:=List.all_eq_true.1 h1 j (List.mem_range.2 hj);exact gO (i+1) i j (by simpa using h2)
structure aZ (a:Act) (ops:Array Oper) (aec:Nat->Value) (D:Nat->Prop) (a':Act):Prop where
 defers:a'.defers=a.defers
 size:a'.tmps.size=a.tmps.size
 on:∀j o t,D j->ops[j]?=some o->o.dst=some t->t<a.tmps.size->a'.tmps[t]?=some (aec j)
 off:∀t,(∀j o,D j->ops[j]?=some o->o.dst≠some t)->a'.tmps[t]?=a.tmps[t]?
theorem aZ.start (a:Act) (aec:Nat->Value):aZ a ops aec (fun _=>False) a:=⟨rfl,rfl,fun _ _ _ h=>h.elim,fun _ _=>rfl⟩
theorem aZ.put {a a':Act} {aec:Nat->Value} {D:Nat->Prop} {i:Nat} {o:Oper} (h:aZ a ops aec D a') (ho:ops[i]?=some o) (hd:∀j oj d,D j->ops[j]?=some oj->o.dst=some d->oj.dst≠some d):
  aZ a ops aec (fun j=>D j\/j=i) (a'.put o.dst (aec i)):=by
 cases Fx:o.dst with
 | none=>
  refine⟨h.defers,h.size,fun j oj t hj fZ ht hlt=>?_,fun t ht=>h.off t (fun j oj hj=>ht j oj (.inl hj))⟩
  rcases hj with hj | rfl
  ·exact h.on j oj t hj fZ ht hlt
  ·rw[ho]at fZ;cases fZ;rw[Fx]at ht;cases ht
 | some d=>
  refine⟨h.defers,by simp[Act.put,h.size],fun j oj t hj fZ ht hlt=>?_,fun t ht=>?_⟩
  ·rcases hj with hj | rfl
   ·have gM:d≠t:=fun e=>hd j oj d hj fZ Fx (by rw[e];exact ht)
    simp only[Act.put];rw[Array.getElem?_setIfInBounds_ne gM];exact h.on j oj t hj fZ ht hlt
   ·rw[ho]at fZ;cases fZ;rw[Fx]at ht;cases ht
    simp only[Act.put]
    rw[Array.getElem?_setIfInBounds_self_of_lt (by rw[h.size];exact hlt)]
  ·have gM:d≠t:=fun e=>ht i o (.inr rfl) ho (by rw[Fx,e])
   simp only[Act.put];rw[Array.getElem?_setIfInBounds_ne gM];exact h.off t (fun j oj hj=>ht j oj (.inl hj))
theorem aZ.agree {a a1 a2:Act} {aec:Nat->Value} {D E:Nat->Prop} (h1:aZ a ops aec D a1) (h2:aZ a ops aec E a2) (t:Tmp)
  (ht:∀j o,(D j\/E j)->ops[j]?=some o->o.dst=some t->D j/\E j):a1.tmps[t]?=a2.tmps[t]?:=by
 rcases Nat.lt_or_ge t a.tmps.size with hlt | hge
 ·by_cases hex:∃j o,(D j\/E j)/\ops[j]?=some o/\o.dst=some t
  ·obtain⟨j,o,hj,ho,hd⟩:=hex;obtain⟨hD,hE⟩:=ht j o hj ho hd;rw[h1.on j o t hD ho hd hlt,h2.on j o t hE ho hd hlt]
  ·rw[h1.off t (fun j o hj ho hd=>hex ⟨j,o,.inl hj,ho,hd⟩),h2.off t (fun j o hj ho hd=>hex ⟨j,o,.inr hj,ho,hd⟩)]
 ·rw[Array.getElem?_eq_none (by rw[h1.size];exact hge),Array.getElem?_eq_none (by rw[h2.size];exact hge)]
theorem aZ.ext {a a1 a2:Act} {aec:Nat->Value} {D E:Nat->Prop} (h1:aZ a ops aec D a1) (h2:aZ a ops aec E a2) (hDE:∀j,j<ops.size->(D j↔E j)):a1=a2:=by
 have ht:a1.tmps=a2.tmps:=by
  apply Array.ext_getElem?
  intro t;refine h1.agree h2 t (fun j o hj ho _=>?_)
  have:=hDE j (Array.getElem?_eq_some_iff.1 ho).1
  rcases hj with hj | hj
  ·exact⟨hj,this.1 hj⟩
  ·exact⟨this.2 hj,hj⟩
 have hd:a1.defers=a2.defers:=h1.defers.trans h2.defers.symm
 cases a1;cases a2;simp_all
theorem C1 {fin:Act->Prop} (l:List Oper):∀(A:Act),iz P ops Inv fin l A ->
  ∃(aec:Nat->Value) (F:Nat->Act),F 0=A/\fin (F l.length)/\∀i o,l[i]?=some o->Fv P ops Inv o (F i) (aec i)/\F (i+1)=(F i).put o.dst (aec i):=by
 induction l with
 | nil=>intro A h;exact⟨fun _=>undef,fun _=>A,rfl,h,fun i o h=>by simp at h⟩
 | cons o l ih=>
  intro A h;obtain⟨v,hs,hf⟩:=h;obtain⟨aec,F,h0,ir,gJ⟩:=ih _ hf;refine⟨fun i=>match i with | 0=>v | i+1=>aec i,fun i=>match i with | 0=>A | i+1=>F i,rfl,ir,?_⟩
  intro i o' hi
  cases i with
  | zero=>simp at hi;subst hi;exact⟨hs,h0⟩
  | succ i=>exact gJ i o' (by simpa using hi)
theorem filter_lt {l:List Nat} {p q:Nat->Bool} (h:∀x,q x=true->p x=true) {x:Nat} (hx:x∈l) (hp:p x=true) (hq:q x=false):(l.filter q).length<(l.filter p).length:=by
 induction l with
 | nil=>simp at hx
 | cons y l ih=>
  have rK:(l.filter q).length<=(l.filter p).length:=by
   clear ih hx
   induction l with
   | nil=>simp
   | cons z l ih2=>
    rw[List.filter_cons,List.filter_cons];cases hqz:q z
    ·cases hpz:p z <;> simp <;> omega
    ·rw[h z hqz];simpa using ih2
  rw[List.filter_cons,List.filter_cons];rcases List.mem_cons.1 hx with rfl | hx
  ·rw[hp,hq];simp;omega
  ·have:=ih hx
   cases hqy:q y
   ·cases hpy:p y <;> simp <;> omega
   ·rw[h y hqy];simpa using this
theorem Fy {D:Nat->Prop} (hc:∀i o,D i->ops[i]?=some o->∀j∈bM o,D j) {j i:Nat} (h:PY ops j i):D i->D j:=by
 induction h with
 | dep ho hj=>intro hi;exact hc _ _ hi ho _ hj
 | step _ ho hm ih=>intro hi;exact ih (hc _ _ hi ho _ hm)
theorem it {D:Nat->Prop} (hc:∀i o,D i->ops[i]?=some o->∀j∈bM o,D j) {j i:Nat} {o:Oper} (ho:ops[i]?=some o) (hr:∀m∈bM o,D m) (h:PY ops j i):D j:=by
 cases h with
 | dep lU hj=>rw[ho]at lU;cases lU;exact hr _ hj
 | step ha lU hm=>rw[ho]at lU;cases lU;exact Fy hc ha (hr _ hm)
theorem ez {j:Nat} {aq:Array Bool}:j∈Region.ready .any ops aq↔aq.getD j true=false/\∃o,ops[j]?=some o/\∀m∈bM o,aq.getD m false=true:=by
 rw[mem_ready];constructor
 ·rintro⟨h0,o,ho,h⟩;refine⟨h0,o,ho,fun m hm=>?_⟩
  obtain⟨e,he,hb,rfl⟩:=CZ.1 hm;exact h e he hb
 ·rintro⟨h0,o,ho,h⟩;exact⟨h0,o,ho,fun e he hb=>h e.on (CZ.2 ⟨e,he,hb,rfl⟩)⟩
theorem iI {aq:Array Bool} {j:Nat} (hj:j<aq.size):aq.getD j true=aq.getD j false:=by simp[hj]
theorem zM {Q:Exit->Act->World->Prop} {k:Nat} (hf:Fw ops k):∀(jr m:Nat) (aq:Array Bool) (a:Act) (W:World),k<=m->m<=ops.size->ops.size-m<=jr->aq.size=ops.size ->
  (∀j,j<ops.size->aq.getD j false=decide (j<m))->wpList P ops Q (ops.toList.drop m) a W->wpAny P .any ops Q jr aq a W:=by
 have Ms:∀(m:Nat) (aq:Array Bool),k<=m->m<=ops.size->aq.size=ops.size->(∀j,j<ops.size->aq.getD j false=decide (j<m))->∀i∈Region.ready .any ops aq,i=m:=by
  intro m aq SC hm eP hl i hi;obtain⟨h0,o,ho,iX⟩:=ez.1 hi;have eU:i<ops.size:=(Array.getElem?_eq_some_iff.1 ho).1;rw[iI (by omega),hl i eU]at h0;simp at h0
  rcases Nat.lt_or_ge m i with hlt | hge
  ·have:=it (D:=fun j=>j<m) (fun i' o' yC lU j hj=>by have:=hf.back i' o' lU j hj;omega) ho (fun d hd=>by
    have h1:=iX d hd;have h2:=hf.back i o ho d hd;rw[hl d (by omega)]at h1
    simpa using h1) (hf.tail i (by omega) eU m hlt)
   omega
  ·omega
 intro jr
 induction jr with
 | zero=>
  intro m aq a W SC hm T1 eP hl h;obtain rfl:m=ops.size:=by omega
  refine⟨List.eq_nil_iff_forall_not_mem.2 (fun i hi=>?_),?_⟩
  ·have:=Ms ops.size aq SC hm eP hl i hi
   obtain⟨_,o,ho,_⟩:=ez.1 hi
   have:=(Array.getElem?_eq_some_iff.1 ho).1
   omega
  ·rw[List.drop_of_length_le (by simp)]at h;exact h
 | succ jr ih=>
  intro m aq a W SC hm T1 eP hl h;refine⟨fun qX=>?_,fun i hi=>?_⟩
  ·rcases Nat.lt_or_ge m ops.size with hlt | hge
   ·exfalso
    have lM:m∈Region.ready .any ops aq:=by
     refine ez.2 ⟨by rw[iI (by omega),hl m hlt];simp,ops[m],Array.getElem?_eq_getElem hlt,fun d hd=>?_⟩
     have h2:=hf.back m _ (Array.getElem?_eq_getElem hlt) d hd
     rw[hl d (by omega)];simpa using h2
    rw[qX]at lM;simp at lM
   ·rw[List.drop_of_length_le (by simp;omega)]at h;exact h
  ·obtain rfl:=Ms m aq SC hm eP hl i hi
   obtain⟨_,o,ho,_⟩:=ez.1 hi;have eU:i<ops.size:=(Array.getElem?_eq_some_iff.1 ho).1;rw[List.drop_eq_getElem_cons (by simpa using eU)]at h
   have SD:ops.toList[i]'(by simpa using eU)=o:=by
    have:=(Array.getElem?_eq_some_iff.1 ho).2
    simpa using this
   rw[SD]at h;unfold wpList at h;unfold wpOp;simp only[ho]
   have next:∀a W,wpList P ops Q (ops.toList.drop (i+1)) a W->wpAny P .any ops Q jr (aq.setIfInBounds i true) a W:=fun a W h'=>
    ih (i+1) _ a W (by omega) (by omega) (by omega) (by simpa using eP) (fun j hj=>by
     by_cases oo:i=j
     ·subst oo;simp[eP,eU]
     ·rw[getD_set_ne false oo,hl j hj]
      simp;omega) h'
   split
   ·rename_i hw
    rw[if_pos hw]at h;exact h.imp (Oper.wp_mono next) id
   ·rename_i hw
    rw[if_neg hw]at h;exact next _ _ h
theorem JL {Q:Exit->Act->World->Prop} {k:Nat} (hf:Fw ops k) (hk:k<=ops.size) (a:Act) (aec:Nat->Value) (F:Nat->Act) (hF:∀i,i<=k->aZ a ops aec (fun j=>j<i) (F i))
  (gJ:∀i o,i<k->ops[i]?=some o->Fv P ops Inv o (F i) (aec i)) (ir:∀W,Inv W->wpList P ops Q (ops.toList.drop k) (F k) W):
  ∀(jr:Nat) (aq:Array Bool) (a':Act) (W:World),aq.size=ops.size->(∀i o,aq.getD i false=true->ops[i]?=some o->∀j∈bM o,aq.getD j false=true)->(∀j,aq.getD j false=true->j<k) ->
   (ops.size-k)+((List.range k).filter fun j => !aq.getD j false).length<=jr->aZ a ops aec (fun j=>aq.getD j false=true) a'->Inv W->wpAny P .any ops Q jr aq a' W:=by
 intro jr
 induction jr with
 | zero=>
  intro aq a' W eP d9 hlt T1 j5 hI
  have bZ:∀j,j<k->aq.getD j false=true:=fun j hj=>by
   rcases hb:aq.getD j false with _ | _
   ·have:0<((List.range k).filter fun j => !aq.getD j false).length:=List.length_pos_of_mem (List.mem_filter.2 ⟨List.mem_range.2 hj,by simp[hb]⟩)
    omega
   ·rfl
  have hl:∀j,j<ops.size->aq.getD j false=decide (j<k):=fun j _=>by
   by_cases h:j<k
   ·rw[bZ j h];simp[h]
   ·cases hb:aq.getD j false
    ·simp[h]
    ·exact absurd (hlt j hb) h
  have:a'=F k:=j5.ext (hF k (Nat.le_refl _)) (fun j hj=>by rw[hl j hj];simp)
  subst this;exact zM hf 0 k aq _ W (Nat.le_refl _) hk (by omega) eP hl (ir W hI)
 | succ jr ih=>
  intro aq a' W eP d9 hlt T1 j5 hI
  by_cases bZ:∀j,j<k->aq.getD j false=true
  ·have hl:∀j,j<ops.size->aq.getD j false=decide (j<k):=fun j _=>by
    by_cases h:j<k
    ·rw[bZ j h];simp[h]
    ·cases hb:aq.getD j false
     ·simp[h]
     ·exact absurd (hlt j hb) h
   have:a'=F k:=j5.ext (hF k (Nat.le_refl _)) (fun j hj=>by rw[hl j hj];simp)
   subst this;exact zM hf (jr+1) k aq _ W (Nat.le_refl _) hk (by omega) eP hl (ir W hI)
  ·obtain⟨j0,XA,XB⟩:∃j,j<k/\aq.getD j false=false:=by
    refine Classical.byContradiction fun iA=>bZ fun j hj=>?_
    cases hb:aq.getD j false
    ·exact absurd ⟨j,hj,hb⟩ iA
    ·rfl
   refine⟨fun qX=>?_,fun i hi=>?_⟩
   ·exfalso
    have:∀m,∀j,j<=m->j<k->aq.getD j false=false->False:=by
     intro m
     induction m using Nat.strongRecOn with
     | ind m ihm=>
      intro j hjm nV Fz;have SE:j<ops.size:=by omega
      by_cases hd:∀d∈bM ops[j],aq.getD d false=true
      ·have lM:j∈Region.ready .any ops aq:=ez.2 ⟨by rw[iI (by omega)];exact Fz,ops[j],Array.getElem?_eq_getElem SE,hd⟩
       rw[qX]at lM;simp at lM
      ·obtain⟨d,j6,iq⟩:∃d,d∈bM ops[j]/\aq.getD d false=false:=by
        refine Classical.byContradiction fun iA=>hd fun d hd=>?_
        cases hb:aq.getD d false
        ·exact absurd ⟨d,hd,hb⟩ iA
        ·rfl
       have hdj:=hf.back j _ (Array.getElem?_eq_getElem SE) d j6;exact ihm d (by omega) d (Nat.le_refl _) (by omega) iq
    exact this j0 j0 (Nat.le_refl _) XA XB
   ·obtain⟨h0,o,ho,iX⟩:=ez.1 hi;have eU:i<ops.size:=(Array.getElem?_eq_some_iff.1 ho).1;rw[iI (by omega)]at h0
    have kF:i<k:=by
     rcases Nat.lt_or_ge i k with h | h
     ·exact h
     ·have:=it (D:=fun j=>aq.getD j false=true) d9 ho iX (hf.tail i h eU j0 (by omega))
      simp only[XB]at this;cases this
    have XC:∀t∈o.looksAt ops,a'.tmps[t]?=(F i).tmps[t]?:=fun t ht=>j5.agree (hF i (by omega)) t (fun j oj hj fZ hd=>by
     have nV:j<k:=by
      rcases hj with hj | hj
      ·exact hlt j hj
      ·omega
     have:=hf.looks i o kF ho t ht j oj nV fZ hd
     exact⟨iX j this,hf.back i o ho j this⟩)
    have he:execOp a'.eval o=execOp (F i).eval o:=execOp_congr o (fun cs b=>hf.aeo i o cs b ho) (fun x hx=>by
     cases x with
     | tmp t=>
      have:=XC t (List.mem_append_left _ (List.mem_filterMap.2 ⟨.tmp t,by simpa using hx,rfl⟩))
      simp[Act.eval,this]
     | _=>rfl)
    have hw:Region.wanted o (yielded ops a'.tmps)=Region.wanted o (yielded ops (F i).tmps):=by
     unfold Region.wanted
     cases hg:o.guard with
     | none=>rfl
     | some gw=>
      obtain⟨g,abw⟩:=gw
      have:yielded ops a'.tmps g=yielded ops (F i).tmps g:=by
       unfold yielded
       cases ht:(ops[g]?).bind (·.dst) with
       | none=>rfl
       | some t=>
        have:=XC t (by simp[Oper.looksAt,hg,ht])
        simp[this]
      simp only[this]
    have next:∀W',Inv W'->wpAny P .any ops Q jr (aq.setIfInBounds i true) (a'.put o.dst (aec i)) W':=fun W' WE=>by
     have iJ:∀j,(aq.setIfInBounds i true).getD j false=true↔(aq.getD j false=true\/j=i):=fun j=>by
      by_cases oo:i=j
      ·subst oo;simp[eP,eU]
      ·rw[getD_set_ne false oo];constructor
       ·exact .inl
       ·rintro(h | h)
        ·exact h
        ·exact absurd h.symm oo
     refine ih _ _ W' (by simpa using eP) (fun i' o' yC lU j hj=>?_) (fun j hj=>?_) ?_ ?_ WE
     ·rcases(iJ i').1 yC with h | rfl
      ·exact(iJ j).2 (.inl (d9 i' o' h lU j hj))
      ·rw[ho]at lU;cases lU
       exact(iJ j).2 (.inl (iX j hj))
     ·rcases(iJ j).1 hj with h | rfl
      ·exact hlt j h
      ·exact kF
     ·have XD:=filter_lt (l:=List.range k) (p:=fun j => !aq.getD j false) (q:=fun j => !(aq.setIfInBounds i true).getD j false) (fun x hx=>by
       cases hb:aq.getD x false
       ·rfl
       ·have:=(iJ x).2 (.inl hb)
        simp only[this]at hx
        cases hx) (List.mem_range.2 kF) (by simp only[h0];rfl) (by simp only[(iJ i).2 (.inr rfl)];rfl)
      omega
     ·have:=j5.put (i:=i) ho (fun j oj d hj fZ hd iq=>by
       have:=hf.aes i o kF ho j oj (hlt j hj) fZ d hd iq
       subst this;rw[h0]at hj
       cases hj)
      refine⟨this.defers,this.size,fun j oj t hj=>this.on j oj t ((iJ j).1 hj),fun t ht=>this.off t (fun j oj hj=>ht j oj ((iJ j).2 hj))⟩
    unfold wpOp;simp only[ho,hw];rcases gJ i o kF ho W hI with⟨h1,h2⟩ | ⟨h1,h2⟩
    ·rw[if_pos h1];refine .inl ?_;unfold Oper.wp;unfold dr at h2;rw[he]
     generalize (execOp (F i).eval o).run P W=r at h2 ⊢
     cases r with
     | ok nx W'=>
      cases nx with
      | value u=>simp only at h2;obtain⟨rfl,h3⟩:=h2;exact next W' h3
      | skip=>simp only at h2;obtain⟨h4,h3⟩:=h2;simp only[Oper.upon];rw[h4];exact next W' h3
      | enter f args=>
       simp only at h2
       simp only[Oper.upon]
       exact h2.mono fun e oN ⟨FA,h3⟩=>by subst FA;exact next oN h3
      | _=>exact h2.elim
     | halt x W'=>exact h2.elim
    ·rw[if_neg (by rw[h1];simp)]
     have:=next W hI
     rw[h2]at this;exact this
theorem jO (n j:Nat):(Array.replicate n false).getD j false=false:=by
 rcases Nat.lt_or_ge j n with h | h
 ·simp[h]
 ·simp[h]
theorem ar {Q:Exit->Act->World->Prop} {id:Nat} {a:Act} {w:World} (k:Nat) (Inv:World->Prop) (hm:P.follows .mixedOrders=true) (hf:wJ ops k=true) (hk:k<=ops.size) (hI:Inv w.drew)
  (h:iz P ops Inv (fun A=>∀W,Inv W->wpList P ops Q (ops.toList.drop k) A W) (ops.toList.take k) a):(Code.region id ops true).wp P Q a w:=by
 have gP:=rV hf;obtain⟨aec,F,h0,ir,jd⟩:=C1 _ a h
 have hlen:(ops.toList.take k).length=k:=by simp;omega
 rw[hlen]at ir
 have rW:∀i o,i<k->ops[i]?=some o->(ops.toList.take k)[i]?=some o:=fun i o hi ho=>by
  rw[List.getElem?_take,if_pos hi];simpa using ho
 have hF:∀i,i<=k->aZ a ops aec (fun j=>j<i) (F i):=by
  intro i
  induction i with
  | zero=>intro _;rw[h0];exact⟨rfl,rfl,fun j _ _ hj=>absurd hj (by omega),fun _ _=>rfl⟩
  | succ i ih=>
   intro hi;have yC:i<ops.size:=by omega
   have ho:ops[i]?=some ops[i]:=Array.getElem?_eq_getElem yC;rw[(jd i _ (rW i _ (by omega) ho)).2]
   have:=(ih (by omega)).put ho (fun j oj d hj fZ hd iq=>by
    have:=gP.aes i _ (by omega) ho j oj (by omega) fZ d hd iq
    omega)
   exact⟨this.defers,this.size,fun j oj t hj=>this.on j oj t (by omega),fun t ht=>this.off t (fun j oj hj=>ht j oj (by omega))⟩
 refine wp_region_any hm ?_
 have:=JL (P:=P) (Inv:=Inv) gP hk a aec F hF (fun i o hi ho=>(jd i o (rW i o hi ho)).1) ir ops.size (Array.replicate ops.size false) a w.drew (by simp)
  (fun i o hi=>by rw[jO]at hi;cases hi) (fun j hj=>by rw[jO]at hj;cases hj) (by
   have:((List.range k).filter fun j => !(Array.replicate ops.size false).getD j false).length<=k:=by
    have:=List.length_filter_le (fun j => !(Array.replicate ops.size false).getD j false) (List.range k)
    simpa using this
   omega) ⟨rfl,rfl,(fun j _ _ hj=>by rw[jO]at hj;cases hj),fun _ _=>rfl⟩ hI
 exact this
theorem de {fin:Act->Prop} {o:Oper} {rest:List Oper} {A:Act} {v:Value} (hw:Region.wanted o (yielded ops A.tmps)=true) (h:∀W,Inv W->(execOp A.eval o).run P W=.ok (.value v) W)
  (hr:iz P ops Inv fin rest (A.put o.dst v)):iz P ops Inv fin (o::rest) A:=
 ⟨v,fun W hI=>.inl ⟨hw,by unfold dr;rw[h W hI];exact⟨rfl,hI⟩⟩,hr⟩
theorem bU {fin:Act->Prop} {o:Oper} {rest:List Oper} {A:Act} {v:Value} (hw:Region.wanted o (yielded ops A.tmps)=true) (hr:iz P ops Inv fin rest (A.put o.dst v)) (h:∀W,Inv W->(execOp A.eval o).run P W=.ok (.value v) W:=by intro W hW;go_simp;with_reducible rfl):iz P ops Inv fin (o::rest) A:=de hw h hr
theorem zN {fin:Act->Prop} {o:Oper} {rest:List Oper} {A:Act} (hw:Region.wanted o (yielded ops A.tmps)=false)
  (hr:iz P ops Inv fin rest (A.put o.dst undef)):iz P ops Inv fin (o::rest) A:=⟨undef,fun _ _=>.inr ⟨hw,rfl⟩,hr⟩
theorem fI {fin:Act->Prop} {o:Oper} {rest:List Oper} {A:Act} (v:Value) (hw:Region.wanted o (yielded ops A.tmps)=true) (h:∀W,Inv W->dr P Inv o A W v)
  (hr:iz P ops Inv fin rest (A.put o.dst v)):iz P ops Inv fin (o::rest) A:=⟨v,fun W hI=>.inl ⟨hw,h W hI⟩,hr⟩
end
section
variable {P : Program} {ops : Array Oper} {Inv : World → Prop}
theorem zO {Q:Exit->Act->World->Prop} {fin:Act->Prop} {rest:List Oper} (ir:∀A,fin A->∀W,Inv W->wpList P ops Q rest A W):
  ∀(l:List Oper) (A:Act) (W:World),Inv W->iz P ops Inv fin l A->wpList P ops Q (l++rest) A W
 | [],A,W,hI,h=>ir A h W hI
 | o::l,A,W,hI,⟨v,hv,h⟩=>by
  have next:∀W',Inv W'->wpList P ops Q (l++rest) (A.put o.dst v) W':=fun W' WE=>zO ir l _ W' WE h
  show wpList P ops Q (o::(l++rest)) A W
  unfold wpList;rcases hv W hI with⟨h1,h2⟩ | ⟨h1,h2⟩
  ·rw[if_pos h1];refine .inl ?_;unfold Oper.wp;unfold dr at h2
   generalize (execOp A.eval o).run P W=r at h2 ⊢
   cases r with
   | ok nx W'=>
    cases nx with
    | value u=>simp only at h2;obtain⟨rfl,h3⟩:=h2;exact next W' h3
    | skip=>simp only at h2;obtain⟨h4,h3⟩:=h2;simp only[Oper.upon];rw[h4];exact next W' h3
    | enter f args=>
     simp only at h2
     simp only[Oper.upon]
     exact h2.mono fun e oN ⟨FA,h3⟩=>by subst FA;exact next oN h3
    | _=>exact h2.elim
   | halt x W'=>exact h2.elim
  ·rw[if_neg (by rw[h1];simp)]
   have:=next W hI
   rw[h2]at this;exact this
theorem aS {Q:Exit->Act->World->Prop} {id:Nat} {a:Act} {w:World} (k:Nat) (Inv:World->Prop) (hI:Inv w)
  (h:iz P ops Inv (fun A=>∀W,Inv W->wpList P ops Q (ops.toList.drop k) A W) (ops.toList.take k) a):(Code.region id ops false).wp P Q a w:=by
 refine wp_region_list ?_
 have:=zO (P:=P) (ops:=ops) (Q:=Q) (rest:=ops.toList.drop k) (fun A h=>h) _ a w hI h
 rwa [List.take_append_drop]at this
theorem rX {o:Oper} {tmps:Array Value} {g:Nat} {e b:Bool} (hg:o.guard=some (g,e)) (hy:yielded ops tmps g=some b):Region.wanted o (yielded ops tmps)=(b==e):=by
 unfold Region.wanted;rw[hg];show(yielded ops tmps g==some e)=_
 rw[hy]
 cases b <;> cases e <;> rfl
def gv (b e:Bool) (v:Value):Value:=if b=e then v else undef
@[simp] theorem kP {b e:Bool} {v:Value} (h:b=e):gv b e v=v:=if_pos h
theorem dA {fin:Act->Prop} {o:Oper} {rest:List Oper} {A:Act} {g:Nat} {e b:Bool} {v:Value} (hg:o.guard=some (g,e)) (hy:yielded ops A.tmps g=some b)
  (h:b=e->∀W,Inv W->dr P Inv o A W v) (hr:iz P ops Inv fin rest (A.put o.dst (gv b e v))):iz P ops Inv fin (o::rest) A:=by
 refine⟨_,fun W hI=>?_,hr⟩
 rw[rX hg hy]
 by_cases lW:b=e
 ·rw[kP lW];exact .inl ⟨by simp[lW],h lW W hI⟩
 ·rw[show gv b e v=undef from if_neg lW];exact .inr ⟨by simpa using lW,rfl⟩
theorem eQ {fin:Act->Prop} {o:Oper} {rest:List Oper} {A:Act} {g:Nat} {e b:Bool} {v:Value} (hg:o.guard=some (g,e)) (hy:yielded ops A.tmps g=some b)
  (h:b=e->∀W,Inv W->(execOp A.eval o).run P W=.ok (.value v) W) (hr:iz P ops Inv fin rest (A.put o.dst (gv b e v))):iz P ops Inv fin (o::rest) A:=
 dA hg hy (fun hb W hI=>by unfold dr;rw[h hb W hI];exact⟨rfl,hI⟩) hr
theorem im {fin:Act->Prop} {o:Oper} {rest:List Oper} {A:Act} {g:Nat} {e b:Bool} {v:Value} (hg:o.guard=some (g,e)) (hy:yielded ops A.tmps g=some b) (hr:iz P ops Inv fin rest (A.put o.dst (gv b e v))) (h:b=e->∀W,Inv W->(execOp A.eval o).run P W=.ok (.value v) W:=by intro hb;intro W hW;go_simp;with_reducible rfl):iz P ops Inv fin (o::rest) A:=eQ hg hy h hr
theorem yR {o:Oper} {tmps:Array Value} {g:Nat} {e' b e x:Bool} (hg:o.guard=some (g,e')) (hy:((ops[g]?).bind (·.dst)).bind (tmps[·]?)=some (gv b e (.bool x))):Region.wanted o (yielded ops tmps)=((b==e)&&(x==e')):=by
 unfold Region.wanted;rw[hg];show(yielded ops tmps g==some e')=_
 unfold yielded;rw[hy]
 by_cases lW:b=e
 ·rw[kP lW];subst lW
  cases x <;> cases e' <;> simp
 ·rw[show gv b e (.bool x)=undef from if_neg lW]
  have:(b==e)=false:=by simpa using lW
  rw[this];rfl
theorem JM {fin:Act->Prop} {o:Oper} {rest:List Oper} {A:Act} {g:Nat} {e' b e x:Bool} {v:Value} (hg:o.guard=some (g,e')) (hy:((ops[g]?).bind (·.dst)).bind (A.tmps[·]?)=some (gv b e (.bool x)))
  (h:b=e->x=e'->∀W,Inv W->dr P Inv o A W v) (hr:iz P ops Inv fin rest (A.put o.dst (gv ((b==e)&&(x==e')) true v))):iz P ops Inv fin (o::rest) A:=by
 refine⟨_,fun W hI=>?_,hr⟩
 rw[yR hg hy]
 by_cases lW:((b==e)&&(x==e'))=true
 ·rw[kP lW];have abx:=lW;rw[Bool.and_eq_true,beq_iff_eq,beq_iff_eq]at lW;exact .inl ⟨abx,h lW.1 lW.2 W hI⟩
 ·rw[show gv _ true v=undef from if_neg lW];exact .inr ⟨by simpa using lW,rfl⟩
theorem gZ {fin:Act->Prop} {o:Oper} {rest:List Oper} {A:Act} {g:Nat} {e' b e x:Bool} {v:Value} (hg:o.guard=some (g,e')) (hy:((ops[g]?).bind (·.dst)).bind (A.tmps[·]?)=some (gv b e (.bool x)))
  (h:b=e->x=e'->∀W,Inv W->(execOp A.eval o).run P W=.ok (.value v) W) (hr:iz P ops Inv fin rest (A.put o.dst (gv ((b==e)&&(x==e')) true v))):iz P ops Inv fin (o::rest) A:=
 JM hg hy (fun hb hx W hI=>by unfold dr;rw[h hb hx W hI];exact⟨rfl,hI⟩) hr
theorem jP {fin:Act->Prop} {d:Option Tmp} {ty:TypeId} {pos:String} {af:Array Edge} {c t:Operand} {rest:List Oper} {A:Act} {g:Nat} {e b x y:Bool} (hy:yielded ops A.tmps g=some b) (hc:A.eval c=gv b e (.bool x)) (hx:A.eval t=gv ((b==e)&&(x==true)) true (.bool y))
  (hr:iz P ops Inv fin rest (A.put d (gv b e (.bool (x&&y))))):iz P ops Inv fin (⟨d,.pick c t (.const (.bool false)),ty,pos,af,some (g,e)⟩::rest) A:=by
 refine eQ (v:=.bool (x&&y)) rfl hy (fun hb W hW=>?_) hr
 have hk:A.eval (.const (.bool false))=.bool false:=rfl;clear hr;rw[kP hb]at hc;subst hb
 generalize A.eval=ev at hc hx hk ⊢
 cases x
 ·simp[execOp,hc,hk,go_sem]
 ·rw[kP (by simp)]at hx;simp[execOp,hc,hx,hk,go_sem]
theorem Mt {fin:Act->Prop} {d:Option Tmp} {ty:TypeId} {pos:String} {af:Array Edge} {c t:Operand} {rest:List Oper} {A:Act} {g:Nat} {e b x y:Bool} (hy:yielded ops A.tmps g=some b) (hc:A.eval c=gv b e (.bool x)) (hx:A.eval t=gv ((b==e)&&(x==false)) true (.bool y))
  (hr:iz P ops Inv fin rest (A.put d (gv b e (.bool (x||y))))):iz P ops Inv fin (⟨d,.pick c (.const (.bool true)) t,ty,pos,af,some (g,e)⟩::rest) A:=by
 refine eQ (v:=.bool (x||y)) rfl hy (fun hb W hW=>?_) hr
 have hk:A.eval (.const (.bool true))=.bool true:=rfl;clear hr;rw[kP hb]at hc;subst hb
 generalize A.eval=ev at hc hx hk ⊢
 cases x
 ·rw[kP (by simp)]at hx;simp[execOp,hc,hx,hk,go_sem]
 ·simp[execOp,hc,hk,go_sem]
theorem mD {fin:Act->Prop} {o:Oper} {rest:List Oper} {A:Act} {g:Nat} {e b:Bool} (hg:o.guard=some (g,e)) (hy:yielded ops A.tmps g=some b)
  (h:(b==e)=false) (hr:iz P ops Inv fin rest (A.put o.dst undef)):iz P ops Inv fin (o::rest) A:=
 zN (by rw[rX hg hy];exact h) hr
theorem dO {fin:Act->Prop} {d:Option Tmp} {ty:TypeId} {pos:String} {af:Array Edge} {c x:Operand} {rest:List Oper} {A:Act} {b y:Bool} (hc:A.eval c=.bool b) (hx:A.eval x=gv b false (.bool y))
  (hr:iz P ops Inv fin rest (A.put d (.bool (b||y)))):iz P ops Inv fin (⟨d,.pick c (.const (.bool true)) x,ty,pos,af,none⟩::rest) A:=by
 refine de (v:=.bool (b||y)) rfl (fun W hW=>?_) hr
 have hk:A.eval (.const (.bool true))=.bool true:=rfl;clear hr
 generalize A.eval=ev at hc hx hk ⊢
 cases b
 ·rw[kP rfl]at hx;simp[execOp,hc,hx,hk,go_sem]
 ·simp[execOp,hc,hk,go_sem]
theorem bC {fin:Act->Prop} {d:Option Tmp} {ty:TypeId} {pos:String} {af:Array Edge} {c x:Operand} {rest:List Oper} {A:Act} {b y:Bool} (hc:A.eval c=.bool b) (hx:A.eval x=gv b true (.bool y))
  (hr:iz P ops Inv fin rest (A.put d (.bool (b&&y)))):iz P ops Inv fin (⟨d,.pick c x (.const (.bool false)),ty,pos,af,none⟩::rest) A:=by
 refine de (v:=.bool (b&&y)) rfl (fun W hW=>?_) hr
 have hk:A.eval (.const (.bool false))=.bool false:=rfl;clear hr
 generalize A.eval=ev at hc hx hk ⊢
 cases b
 ·simp[execOp,hc,hk,go_sem]
 ·rw[kP rfl]at hx;simp[execOp,hc,hx,hk,go_sem]
end
@[simp] theorem ad (w:World):aa w w:=Below.refl _ _
@[simp] theorem ag {w0 W:World} (o:Obj) (h:aa w0 W):aa w0 (W.alloc o):=Below.alloc h h.size o
@[simp] theorem aj {w0 W:World} (h:aa w0 W):aa w0 W.drew:=Below.drew h
theorem SF {w W:World} (h:Below w.heap.size w W):aa w W:=h
theorem aa.below {w W:World} (h:aa w W):Below w.heap.size w W:=h
theorem aa.after {a b c:World} (h:aa a b) (h':aa b c):aa a c:=aa.trans h h'
theorem aa.cell {a b:World} (h:aa a b) {p:Addr} {v:Value} (hc:a.cell? p=some v):b.cell? p=some v:=bc h hc
theorem ah {w0 w1:World} {p:Addr} {v:Value} (f:∀W,aa w0 W->W.cell? p=some v) (h:aa w0 w1):∀W,aa w1 W->W.cell? p=some v:=fun W hW=>f W (h.after hW)
theorem ae {w0:World} {p:Addr} {v:Value} (h:w0.cell? p=some v):∀W,aa w0 W->W.cell? p=some v:=fun _ hW=>bc hW h
section
variable {P : Program} {ops : Array Oper}
theorem Mu {Q:Exit->Act->World->Prop} (qy:∀i o,ops[i]?=some o->∀j∈bM o,j<i) (J:(Nat->Prop)->Act->World->Prop)
  (gJ:∀(D:Nat->Prop) a w i o,J D a w->ops[i]?=some o->¬D i->(∀d∈bM o,D d)->(∀i o,D i->ops[i]?=some o->∀d∈bM o,D d) ->
   if Region.wanted o (yielded ops a.tmps)=true then Oper.wp P o a w (J (fun j=>D j\/j=i)) Q else J (fun j=>D j\/j=i) (a.put o.dst undef) w)
  (wK:∀(D:Nat->Prop) a w,J D a w->(∀i,i<ops.size->D i)->Q .normal a w):
  ∀(jr:Nat) (aq:Array Bool) (a:Act) (W:World),aq.size=ops.size->(∀i o,aq.getD i false=true->ops[i]?=some o->∀j∈bM o,aq.getD j false=true) ->
   ((List.range ops.size).filter fun j => !aq.getD j false).length<=jr->J (fun j=>aq.getD j false=true) a W->wpAny P .any ops Q jr aq a W:=by
 have Mv:∀(aq:Array Bool),aq.size=ops.size->Region.ready .any ops aq=[]->∀m,∀j,j<=m->j<ops.size->aq.getD j false=true:=by
  intro aq eP qX m
  induction m using Nat.strongRecOn with
  | ind m ihm=>
   intro j hjm SE;refine Classical.byContradiction fun Fz=>?_
   have Fz:aq.getD j false=false:=by cases hb:aq.getD j false <;> simp_all
   have lM:j∈Region.ready .any ops aq:=ez.2 ⟨by rw[iI (by omega)];exact Fz,ops[j],Array.getElem?_eq_getElem SE,fun d hd=>by
    have hdj:=qy j _ (Array.getElem?_eq_getElem SE) d hd
    exact ihm d (by omega) d (Nat.le_refl _) (by omega)⟩
   rw[qX]at lM;simp at lM
 intro jr
 induction jr with
 | zero=>
  intro aq a W eP d9 T1 hJ
  have bZ:∀j,j<ops.size->aq.getD j false=true:=fun j hj=>by
   rcases hb:aq.getD j false with _ | _
   ·have:0<((List.range ops.size).filter fun j => !aq.getD j false).length:=List.length_pos_of_mem (List.mem_filter.2 ⟨List.mem_range.2 hj,by simp[hb]⟩)
    omega
   ·rfl
  refine⟨List.eq_nil_iff_forall_not_mem.2 fun i hi=>?_,wK _ a W hJ bZ⟩
  obtain⟨h0,o,ho,_⟩:=ez.1 hi;have eU:i<ops.size:=(Array.getElem?_eq_some_iff.1 ho).1;rw[iI (by omega),bZ i eU]at h0;cases h0
 | succ jr ih=>
  intro aq a W eP d9 T1 hJ;refine⟨fun qX=>wK _ a W hJ fun j hj=>Mv aq eP qX j j (Nat.le_refl _) hj,fun i hi=>?_⟩
  obtain⟨h0,o,ho,iX⟩:=ez.1 hi;have eU:i<ops.size:=(Array.getElem?_eq_some_iff.1 ho).1;rw[iI (by omega)]at h0
  have iJ:∀j,(aq.setIfInBounds i true).getD j false=true↔(aq.getD j false=true\/j=i):=fun j=>by
   by_cases oo:i=j
   ·subst oo;simp[eP,eU]
   ·rw[getD_set_ne false oo];constructor
    ·exact .inl
    ·rintro(h | h)
     ·exact h
     ·exact absurd h.symm oo
  have hD:(fun j=>(aq.setIfInBounds i true).getD j false=true)=fun j=>aq.getD j false=true\/j=i:=funext fun j=>propext (iJ j)
  have next:∀a W,J (fun j=>aq.getD j false=true\/j=i) a W->wpAny P .any ops Q jr (aq.setIfInBounds i true) a W:=fun a W hJ'=>by
   refine ih _ a W (by simpa using eP) (fun i' o' yC lU j hj=>?_) ?_ (by rw[hD];exact hJ')
   ·rcases(iJ i').1 yC with h | rfl
    ·exact(iJ j).2 (.inl (d9 i' o' h lU j hj))
    ·rw[ho]at lU;cases lU
     exact(iJ j).2 (.inl (iX j hj))
   ·have XD:=filter_lt (l:=List.range ops.size) (p:=fun j => !aq.getD j false) (q:=fun j => !(aq.setIfInBounds i true).getD j false) (fun x hx=>by
     cases hb:aq.getD x false
     ·rfl
     ·have:=(iJ x).2 (.inl hb)
      simp only[this]at hx
      cases hx) (List.mem_range.2 eU) (by simp only[h0];rfl) (by simp only[(iJ i).2 (.inr rfl)];rfl)
    omega
  have:=gJ (fun j=>aq.getD j false=true) a W i o hJ ho (by rw[h0];simp) iX d9
  unfold wpOp;simp only[ho]
  split
  ·rename_i hw
   rw[if_pos hw]at this;exact .inl (Oper.wp_mono next this)
  ·rename_i hw
   rw[if_neg hw]at this;exact next _ _ this
theorem yS {Q:Exit->Act->World->Prop} {id:Nat} {a:Act} {w:World} (hm:P.follows .mixedOrders=true) (qy:∀i o,ops[i]?=some o->∀j∈bM o,j<i) (J:(Nat->Prop)->Act->World->Prop)
  (h0:J (fun _=>False) a w.drew)
  (gJ:∀(D:Nat->Prop) a w i o,J D a w->ops[i]?=some o->¬D i->(∀d∈bM o,D d)->(∀i o,D i->ops[i]?=some o->∀d∈bM o,D d) ->
   if Region.wanted o (yielded ops a.tmps)=true then Oper.wp P o a w (J (fun j=>D j\/j=i)) Q else J (fun j=>D j\/j=i) (a.put o.dst undef) w)
  (wK:∀(D:Nat->Prop) a w,J D a w->(∀i,i<ops.size->D i)->Q .normal a w):(Code.region id ops true).wp P Q a w:=by
 refine wp_region_any hm ?_
 refine Mu (P:=P) (Q:=Q) qy J gJ wK ops.size (Array.replicate ops.size false) a w.drew (by simp) (fun i o hi=>by rw[jO]at hi;cases hi) ?_ ?_
 ·have:=List.length_filter_le (fun j => !(Array.replicate ops.size false).getD j false) (List.range ops.size)
  simpa using this
 ·have:(fun j=>(Array.replicate ops.size false).getD j false=true)=fun _=>False:=funext fun j=>propext ⟨(fun h=>by rw[jO]at h;cases h),fun h=>h.elim⟩
  rw[this];exact h0
def lX (P:Program) (ops:Array Oper) (w0:World) (fin:Act->Prop):List Oper->Act->Prop
 | [],A=>fin A
 | o::rest,A=>∃v,(Region.wanted o (yielded ops A.tmps)=true/\∀W,aa w0 W->(execOp A.eval o).run P W=.ok (.value v) W)/\lX P ops w0 fin rest (A.put o.dst v)
theorem aR {w0:World} {fin:Act->Prop} {o:Oper} {rest:List Oper} {A:Act} {v:Value} (hw:Region.wanted o (yielded ops A.tmps)=true) (h:∀W,aa w0 W->(execOp A.eval o).run P W=.ok (.value v) W)
  (hr:lX P ops w0 fin rest (A.put o.dst v)):lX P ops w0 fin (o::rest) A:=⟨v,⟨hw,h⟩,hr⟩
theorem rY {w0:World} {fin:Act->Prop} (l:List Oper):∀(A:Act),lX P ops w0 fin l A ->
  ∃(aec:Nat->Value) (F:Nat->Act),F 0=A/\fin (F l.length)/\∀i o,l[i]?=some o->(Region.wanted o (yielded ops (F i).tmps)=true/\∀W,aa w0 W->(execOp (F i).eval o).run P W=.ok (.value (aec i)) W)/\F (i+1)=(F i).put o.dst (aec i):=by
 induction l with
 | nil=>intro A h;exact⟨fun _=>undef,fun _=>A,rfl,h,fun i o h=>by simp at h⟩
 | cons o l ih=>
  intro A h;obtain⟨v,hs,hf⟩:=h;obtain⟨aec,F,h0,ir,gJ⟩:=ih _ hf;refine⟨fun i=>match i with | 0=>v | i+1=>aec i,fun i=>match i with | 0=>A | i+1=>F i,rfl,ir,?_⟩
  intro i o' hi
  cases i with
  | zero=>simp at hi;subst hi;exact⟨hs,h0⟩
  | succ i=>exact gJ i o' (by simpa using hi)
theorem aZ.aec {a a':Act} {v v':Nat->Value} {D:Nat->Prop} (h:aZ a ops v D a') (e:∀j,D j->v j=v' j):aZ a ops v' D a':=
 ⟨h.defers,h.size,fun j o t hj ho hd hl=>by rw[<- e j hj];exact h.on j o t hj ho hd hl,h.off⟩
theorem aZ.same {a a':Act} {v:Nat->Value} {D E:Nat->Prop} (h:aZ a ops v D a') (e:∀j,D j↔E j):aZ a ops v E a':=by
 have:D=E:=funext fun j=>propext (e j)
 rw[<- this];exact h
def E2 (W:World) (T:TypeId) (b:Nat) (x y:Int):Prop:=W.heap[b]?=some (.cells #[.int .i64 x,.int .i64 y] T)
def Qs (b:Nat):Value:=.pointer (some ⟨b,0,none⟩)
end
section
variable {P : Program} {ops : Array Oper}
def k_ (P:Program) (R:World->Value->Prop) (o:Oper) (A:Act) (W:World):Prop:=
 match (execOp A.eval o).run P W with
 | .ok (.value u) W'=>R W' u/\aa W W'
 | .ok (.enter f args) W'=>Calls P f args W' fun e oN=>∃u,e=.returned u/\R oN u/\aa W oN
 | _=>False
theorem gm {o:Oper} {a' A:Act} (XC:∀t∈o.looksAt ops,a'.tmps[t]?=A.tmps[t]?) (hns:∀cs b,o.op ≠ .select cs b):execOp a'.eval o=execOp A.eval o/\Region.wanted o (yielded ops a'.tmps)=Region.wanted o (yielded ops A.tmps):=by
 refine⟨execOp_congr o hns (fun x hx=>?_),?_⟩
 ·cases x with
  | tmp t=>
   have:=XC t (List.mem_append_left _ (List.mem_filterMap.2 ⟨.tmp t,by simpa using hx,rfl⟩))
   simp[Act.eval,this]
  | _=>rfl
 ·unfold Region.wanted
  cases hg:o.guard with
  | none=>rfl
  | some gw=>
   obtain⟨g,abw⟩:=gw
   have:yielded ops a'.tmps g=yielded ops A.tmps g:=by
    unfold yielded
    cases ht:(ops[g]?).bind (·.dst) with
    | none=>rfl
    | some t=>
     have:=XC t (by simp[Oper.looksAt,hg,ht])
     simp[this]
   simp only[this]
theorem aZ.aem {a a':Act} {v v':Nat->Value} {D:Nat->Prop} (h:aZ a ops v D a') (e:∀j,j<ops.size->D j->v j=v' j):aZ a ops v' D a':=
 ⟨h.defers,h.size,fun j o t hj ho hd hl=>by rw[<- e j (Array.getElem?_eq_some_iff.1 ho).1 hj];exact h.on j o t hj ho hd hl,h.off⟩
end
theorem zB {w:World} {ve vi vn:Value} {n:ak} (h:aQ w ve vi vn n):∃w0 A c A2 c2 A3 c3,ve=.slice A n.ends.length c/\vi=.slice A2 n.ids.length c2/\vn=.slice A3 n.aea.length c3/\n.ends.length<=c/\c<=2^63-1/\c2<=2^63-1/\c3<=2^63-1/\Hid (∀k es,n.ends[k]?=some es->∃b off u,A=some ⟨b,off,none⟩/\w0.cell? ⟨b,off+k,none⟩=some u/\wG w0 u es)/\Hid (w0=w.alloc (.cells #[.slice A n.ends.length c,.slice A2 n.ids.length c2,.slice A3 n.aea.length c3] 27))/\Hid (Below w.heap.size w w0)/\Hid (aQ w0 (.slice A n.ends.length c) (.slice A2 n.ids.length c2) (.slice A3 n.aea.length c3) n)/\(∀W,aa w0 W->W.cell? ⟨w.heap.size,0,none⟩=some (.slice A n.ends.length c))/\(∀W,aa w0 W->W.cell? ⟨w.heap.size,1,none⟩=some (.slice A2 n.ids.length c2))/\∀W,aa w0 W->W.cell? ⟨w.heap.size,2,none⟩=some (.slice A3 n.aea.length c3):=by
 obtain⟨w0,cG⟩:∃w0,w0=w.alloc (.cells #[ve,vi,vn] 27):=⟨_,rfl⟩
 have nu:Below w.heap.size w w0:=by rw[cG];exact((Below.refl _ _).alloc (by simp) _)
 have H:=h.keep nu;obtain⟨h1,h2,h3⟩:=h.keep nu;obtain⟨A,c,rfl,eV,hm,hA⟩:=h1;obtain⟨A2,c2,rfl,_,fJ,_⟩:=h2;obtain⟨A3,c3,rfl,_,fB,_⟩:=h3;unfold maxLen at hm fJ fB
 exact⟨w0,A,c,A2,c2,A3,c3,rfl,rfl,rfl,eV,hm,fJ,fB,hA,cG,nu,H,ae (by rw[cG];simp),ae (by rw[cG];simp),ae (by rw[cG];simp)⟩
theorem dg {k:Nat} {p:Nat->Bool}:(List.range (k+1)).all p=((List.range k).all p&&p k):=by rw[List.range_succ,List.all_append];simp
theorem a_ {n k:Nat} {p:Nat->Bool} (hk:k<n) (h:p k=false):(List.range n).all p=false:=by
 rw[List.all_eq_false];exact⟨k,List.mem_range.2 hk,by simp[h]⟩
def rZ (lo hi:Int) (xs:List Int):Bool:=(List.range xs.length).all fun i=>ey lo hi (xs.getD i 0)&&(i==0||decide (xs.getD (i-1) 0<xs.getD i 0))
theorem au {α:Type} {xs:List α} {k:Nat} {x d:α} (h:xs[k]?=some x):xs.getD k d=x:=by simp[h]
theorem wM (v:Value) (xs:List Int) (lo hi:Int) (w:World) (h:aY w v xs):
  Calls Tryz.prog 197 #[v,.int .i64 lo,.int .i64 hi] w fun e w'=>e=.returned (.bool (rZ lo hi xs))/\w=w':=by
 obtain⟨A,c,rfl,eV,hm,hA⟩:=h;unfold maxLen at hm;have HA:=zh hA;clear hA
 go_enter Tryz.func197,Tryz.ntmps197
 go_wp2
 go_loop [11] (fun i=>∃k:Nat,k<=xs.length/\i=.int .i64 k/\((List.range k).all fun i=>ey lo hi (xs.getD i 0)&&(i==0||decide (xs.getD (i-1) 0<xs.getD i 0)))=true) (fun i=>xs.length-(intOf i).toNat)
 case atStart=>exact⟨0,Nat.zero_le _,rfl,rfl⟩
 case round=>
  obtain⟨k,hk,rfl,bZ⟩:=hrel;have iV:=zh bZ;clear bZ
  by_cases hlt:k<xs.length
  ·obtain⟨x,hx⟩:=aM xs k hlt;obtain⟨b,off,rfl,fj⟩:=HA.out k x hx;have Hx:=zh hx;cases hb:ey lo hi x
   ·have Hb:=zh hb;clear hx
    go_wp2_with (go_at_call 71;refine(aO _ _ _ _).mono ?_;rintro e w' ⟨rfl,rfl⟩)
    go_ret
    exact⟨bw (a_ hlt (by rw[au Hx.out,Hb.out];rfl)),rfl⟩
   ·have Hb:=zh hb
    by_cases ID:k=0
    ·subst ID;simp only[Nat.add_zero]at fj;clear hx
     go_wp2_with (go_at_call 71;refine(aO _ _ _ _).mono ?_;rintro e w' ⟨rfl,rfl⟩)
     go_round
     case rel=>exact⟨0+1,by omega,by go_num,by rw[dg,iV.out,au Hx.out,Hb.out];rfl⟩
     case measure=>simp[intOf];omega
    ·obtain⟨y,hy⟩:=aM xs (k-1) (by omega);obtain⟨b',oY,he,aby⟩:=HA.out (k-1) y hy
     injection he with he
     injection he with e1 e2
     subst e1 e2;have Hy:=zh hy;have lc:0<k:=by omega
     cases zP:decide (x<=y)
     all_goals
      have u_:=zh zP
     ·have hn:¬x<=y:=by simpa using zP
      clear hx hy zP
      go_wp2_with (go_at_call 71;refine(aO _ _ _ _).mono ?_;rintro e w' ⟨rfl,rfl⟩)
      go_round
      case rel=>exact⟨k+1,by omega,by go_num,by rw[dg,iV.out,au Hx.out,au Hy.out,Hb.out];simp;omega⟩
      case measure=>simp[intOf];omega
     ·have hn:x<=y:=by simpa using zP
      clear hx hy zP
      go_wp2_with (go_at_call 71;refine(aO _ _ _ _).mono ?_;rintro e w' ⟨rfl,rfl⟩)
      go_ret
      exact⟨bw (a_ hlt (by rw[au Hx.out,au Hy.out,Hb.out];simp;omega)),rfl⟩
  ·obtain rfl:k=xs.length:=by omega
   go_wp2;go_ret;exact⟨kY iV.out,rfl⟩
def vb (ids:List Int) (f8:Int):Bool:=ids.isEmpty||((ids.length:Int)==f8&&rZ 1 999999 (ids.mergeSort fun x y=>decide (x<=y)))
theorem wN {w w1 w2:World} {v:Value} {xs:List Int} (h:Below w.heap.size w w1) (ho:Own w1 w.heap.size v xs) (hg:w1.grownBy w2 v.ownBlock):Below w.heap.size w w2:=
 h.grown hg h.size (fun k hk=>(World.ownsRow.lt ho k hk).1)
theorem tg (v:Value) (ids:List Int) (f8:Int) (w:World) (h:aY w v ids) (hl:ids.length<=17592186044416):
  Calls Tryz.prog 130 #[v,.int .i64 f8] w fun e w'=>e=.returned (.bool (vb ids f8))/\Below w.heap.size w w':=by
 have H:=zh h;obtain⟨A,c,rfl,eV,hm,hA⟩:=h;clear hA;unfold maxLen at hm
 by_cases h0:ids.length=0
 ·obtain rfl:ids=[]:=List.eq_nil_of_length_eq_zero h0
  go_enter Tryz.func130,Tryz.ntmps130
  go_wp2;go_ret;exact⟨rfl,Below.refl _ _⟩
 ·have WF:(((ids.length:Nat):Int)==0)=false:=by simp;intro h;simp[h]at h0
  have XE:ids.isEmpty=false:=by cases ids <;> simp_all
  have Hr:=zh (show vb ids f8=((ids.length:Int)==f8&&rZ 1 999999 (ids.mergeSort fun x y=>decide (x<=y)))by simp[vb,XE])
  clear XE h0;cases hn:((ids.length:Int)==f8)
  all_goals
   have Hn:=zh hn
   go_enter Tryz.func130,Tryz.ntmps130
   go_wp2_with fail;refine(zL _ ids _ H.out hl).mono ?_;rintro e w1 ⟨u,rfl,ho,hb⟩;have Ho:=zh ho;have Hb:=zh hb;clear ho hb;go_wp2_with fail;refine(Mr _ ids _ _ Ho.out hl).mono ?_;rintro e w2 ⟨rfl,dl,hg⟩;have eX:=zh dl;have vc:=zh (wN Hb.out Ho.out hg);clear dl hg;go_wp2_with fail
  ·go_ret
   exact⟨bw (by rw[Hr.out,Hn.out];rfl),vc.out⟩
  ·refine(wM _ _ _ _ _ eX.out.ints).mono ?_;rintro e w3 ⟨rfl,rfl⟩;go_wp2;go_ret
   exact⟨bQ (by rw[Hr.out,Hn.out];rfl),vc.out⟩
def js (aea:List Int) (f8:Int):Bool:=(aea.length:Int)==f8&&aea.all (ey 0 9)
theorem r8 (v:Value) (xs:List Int) (f8:Int) (w:World) (h:aY w v xs):
  Calls Tryz.prog 131 #[v,.int .i64 f8] w fun e w'=>e=.returned (.bool (js xs f8))/\Below w.heap.size w w':=by
 have H:=zh h;obtain⟨A,c,rfl,eV,hm,hA⟩:=h;clear hA;unfold maxLen at hm;unfold js;cases hn:((xs.length:Int)==f8)
 all_goals
  go_enter Tryz.func131,Tryz.ntmps131
  go_wp2_with fail
 ·go_ret;exact⟨rfl,Below.refl _ _⟩
 ·refine(jZ _ xs _ _ _ H.out).mono ?_;rintro e w1 ⟨rfl,hb⟩;have Hb:=zh hb;clear hb;go_wp2;go_ret;exact⟨rfl,Hb.out⟩
theorem lY (ve vi vn:Value) (ix:List (List (Int×Int))) (v:Int) (w:World) (h:nU w ve ix):
  Calls Tryz.prog 108 #[.agg #[ve,vi,vn],.int .i64 v] w fun e w'=>e=.returned (.bool (ey 0 ((ix.length:Int)-1) v))/\Below w.heap.size w w':=by
 obtain⟨A,c,rfl,eV,hm,hA⟩:=h;clear hA;unfold maxLen at hm
 go_enter Tryz.func108,Tryz.ntmps108
 go_wp2_with (go_at_call 71;refine(aO _ _ _ _).mono ?_;rintro e w' ⟨rfl,rfl⟩)
 go_ret;exact⟨rfl,am _ _⟩
def cj (ix:List (List (Int×Int))) (v i:Int):Bool:=ey 0 ((ix.length:Int)-1) v&&ey 0 (((ix.getD v.toNat []).length:Int)-1) i
theorem tZ (ve vi vn:Value) (ix:List (List (Int×Int))) (v i:Int) (w:World) (h:nU w ve ix):
  Calls Tryz.prog 57 #[.agg #[ve,vi,vn],.int .i64 v,.int .i64 i] w fun e w'=>e=.returned (.bool (cj ix v i))/\Below w.heap.size w w':=by
 have nu:Below w.heap.size w (w.alloc (.cells #[ve,vi,vn] 27)):=am _ _;have H:=zh (h.keep nu);obtain⟨A,c,rfl,eV,hm,hA⟩:=h;unfold maxLen at hm;have aT:=zh nu;clear nu;unfold cj;cases hn:ey 0 ((ix.length:Int)-1) v
 ·clear hA
  go_enter Tryz.func57,Tryz.ntmps57
  go_wp2_with fail;refine(lY _ _ _ ix v _ H.out).mono ?_;rintro e w1 ⟨rfl,ay⟩;have eD:=zh (aT.out.trans (ay.mono (by simp)));clear ay;go_wp2;go_ret;exact⟨rfl,eD.out⟩
 ·obtain⟨C3,WG⟩:=ap.1 hn;obtain⟨k,rfl⟩:=Int.eq_ofNat_of_zero_le C3;have hk:k<ix.length:=by omega
  obtain⟨es,bW⟩:=aM ix k hk;obtain⟨b,off,u,rfl,dS,hr⟩:=hA k es bW;obtain⟨A1,z1,rfl,dV,d8,_⟩:=hr;unfold maxLen at d8;have hg:=zh (show(ix.getD ((k:Int)).toNat [])=es by rw[Int.toNat_natCast,au bW])
  rw[hg.out];have ks:=bc aT.out dS;clear hA bW dS
  go_enter Tryz.func57,Tryz.ntmps57
  go_wp2_with fail;refine(lY _ _ _ ix k _ H.out).mono ?_;rintro e w1 ⟨rfl,ay⟩;have qf:=bc ay ks;have hc4:w1.cell? ⟨w.heap.size,0,none⟩=some (.slice (some ⟨b,off,none⟩) ix.length c):=bc ay (by simp);have eD:=zh (aT.out.trans (ay.mono (by simp)));clear ay ks
  go_wp2_with (go_at_call 71;refine(aO _ _ _ _).mono ?_;rintro e w' ⟨rfl,rfl⟩)
  go_ret;exact⟨rfl,eD.out⟩
def jt (ix:List (List (Int×Int))) (v i:Nat) (e:Int×Int):Bool:=cj ix e.1 e.2&&yB ((ix.getD e.1.toNat []).getD e.2.toNat (0,0)) ((v:Int),(i:Int))
def gS (ix:List (List (Int×Int))) (v:Nat) (es:List (Int×Int)):Bool:=decide (es.length<=6)&&(List.range es.length).all fun i=>jt ix v i (es.getD i (0,0))
def al (n:ak):Bool:=ey 1 40 n.ends.length&&vb n.ids n.ends.length&&js n.aea n.ends.length&&(List.range n.ends.length).all fun v=>gS n.ends v (n.ends.getD v [])
theorem j1 (ve vi vn:Value) (n:ak) (w:World) (h:aQ w ve vi vn n) (hl:n.ids.length<=17592186044416):
  Calls Tryz.prog 53 #[.agg #[ve,vi,vn]] w fun e w'=>e=.returned (.bool (al n))/\Below w.heap.size w w':=by
 have nu:Below w.heap.size w (w.alloc (.cells #[ve,vi,vn] 27)):=am _ _;have H:=zh (h.keep nu);obtain⟨h1,h2,h3⟩:=h;obtain⟨A,c,rfl,eV,hm,hA⟩:=h1;obtain⟨A2,c2,rfl,_,fJ,_⟩:=h2;obtain⟨A3,c3,rfl,_,fB,_⟩:=h3;unfold maxLen at hm fJ fB;have aT:=zh nu;have HA:=zh hA;clear nu hA;cases t1:ey 1 40 (n.ends.length:Int)
 ·have hr:=zh (show al n=false by simp[al,t1])
  go_enter Tryz.func53,Tryz.ntmps53
  go_wp2_with (go_at_call 71;refine(aO _ _ _ _).mono ?_;rintro e w' ⟨rfl,rfl⟩)
  go_ret;exact⟨bw hr.out,aT.out⟩
 ·cases t2:vb n.ids n.ends.length
  ·have hr:=zh (show al n=false by simp[al,t2])
   go_enter Tryz.func53,Tryz.ntmps53
   go_wp2_with (go_at_call 71;refine(aO _ _ _ _).mono ?_;rintro e w' ⟨rfl,rfl⟩)
   refine(tg _ n.ids _ _ H.out.2.1 hl).mono ?_;rintro e w1 ⟨rfl,ay⟩;have eD:=zh (aT.out.trans (ay.mono (by simp)));clear ay;go_wp2;go_ret;exact⟨bw hr.out,eD.out⟩
  ·cases t3:js n.aea n.ends.length
   ·have hr:=zh (show al n=false by simp[al,t3])
    go_enter Tryz.func53,Tryz.ntmps53
    go_wp2_with (go_at_call 71;refine(aO _ _ _ _).mono ?_;rintro e w' ⟨rfl,rfl⟩)
    refine(tg _ n.ids _ _ H.out.2.1 hl).mono ?_;rintro e w1 ⟨rfl,ay⟩;have eD:=zh (aT.out.trans (ay.mono (by simp)));have H1:=zh (H.out.keep ay);have d0:w1.cell? ⟨w.heap.size,0,none⟩=some (.slice A n.ends.length c):=bc ay (by simp);have d2:w1.cell? ⟨w.heap.size,2,none⟩=some (.slice A3 n.aea.length c3):=bc ay (by simp);clear ay;go_wp2_with fail;refine(r8 _ n.aea _ _ H1.out.2.2).mono ?_;rintro e w2 ⟨rfl,bj⟩;have vc:=zh (eD.out.trans (bj.mono eD.out.size));clear bj;go_wp2;go_ret;exact⟨bw hr.out,vc.out⟩
   ·have hr:=zh (show al n=(List.range n.ends.length).all fun v=>gS n.ends v (n.ends.getD v [])by simp[al,t1,t2,t3])
    go_enter Tryz.func53,Tryz.ntmps53
    go_wp2_with (go_at_call 71;refine(aO _ _ _ _).mono ?_;rintro e w' ⟨rfl,rfl⟩)
    refine(tg _ n.ids _ _ H.out.2.1 hl).mono ?_;rintro e w1 ⟨rfl,ay⟩;have eD:=zh (aT.out.trans (ay.mono (by simp)));have H1:=zh (H.out.keep ay);have d0:w1.cell? ⟨w.heap.size,0,none⟩=some (.slice A n.ends.length c):=bc ay (by simp);have d1:w1.cell? ⟨w.heap.size,1,none⟩=some (.slice A2 n.ids.length c2):=bc ay (by simp);have d2:w1.cell? ⟨w.heap.size,2,none⟩=some (.slice A3 n.aea.length c3):=bc ay (by simp);clear ay;go_wp2_with fail;refine(r8 _ n.aea _ _ H1.out.2.2).mono ?_;rintro e w2 ⟨rfl,bj⟩;have vc:=zh (eD.out.trans (bj.mono eD.out.size));have H2:=zh (H1.out.keep bj);have e0:=bc bj d0;have e1:=bc bj d1;have e2:=bc bj d2;have eP:w.heap.size<w2.heap.size:=World.block_lt_of_cell? w2 _ e0;have E:=zh (And.intro e0 (And.intro e1 e2));clear bj d0 d1 d2 H H1;go_wp2
    go_loopw [33] (fun i wr=>∃k:Nat,k<=n.ends.length/\i=.int .i64 k/\((List.range k).all fun v=>gS n.ends v (n.ends.getD v []))=true/\Below w2.heap.size w2 wr) (fun i _=>n.ends.length-(intOf i).toNat)
    case atStart=>exact⟨0,Nat.zero_le _,rfl,rfl,Below.refl _ _⟩
    case round=>
     obtain⟨k,hk,rfl,bZ,zQ⟩:=hrel;have iV:=zh bZ;have yT:=zh zQ;clear bZ zQ
     by_cases hlt:k<n.ends.length
     ·obtain⟨es,bW⟩:=aM n.ends k hlt;obtain⟨b,off,u,rfl,dS,dB⟩:=HA.out k es bW;have PZ:=vc.out.trans (yT.out.mono vc.out.size);have ks:=bc PZ dS;have Mw:=zh (dB.keep PZ);obtain⟨A1,z1,rfl,dV,d8,g_⟩:=dB;have r9:=zh g_;unfold maxLen at d8;have kw:=zh bW;have HbA:=zh PZ;clear bW PZ dS g_
      by_cases h6:es.length<=6
      ·go_wp2;obtain⟨wo,rfl⟩:∃wo:World,wo=wr:=⟨_,rfl⟩
       go_loopw [43] (fun i wq=>∃j:Nat,j<=es.length/\i=.int .i64 j/\((List.range j).all fun i=>jt n.ends k i (es.getD i (0,0)))=true/\Below wo.heap.size wo wq) (fun i _=>es.length-(intOf i).toNat)
       case atStart=>exact⟨0,Nat.zero_le _,rfl,rfl,Below.refl _ _⟩
       case round=>
        obtain⟨j,hj,rfl,C4,IE⟩:=hrel;have C5:=zh C4;have Hbq:=zh IE;have JN:=HbA.out.trans (IE.mono HbA.out.size);have IF:=yT.out.trans (IE.mono yT.out.size);clear C4 IE
        by_cases jG:j<es.length
        ·obtain⟨⟨x1,x2⟩,he⟩:=aM es j jG;obtain⟨b1,oZ,rfl,j6,iq⟩:=r9.out j _ he;have q1:=bc JN j6;have q2:=bc JN iq;obtain⟨n0,n1,n2⟩:=E.out;have m0:=bc IF n0;have m1:=bc IF n1;have m2:=bc IF n2;have adF:w.heap.size<wr.heap.size:=World.block_lt_of_cell? wr _ m0;have He:=zh he;have Qt:=zh JN;have HN:=zh (H2.out.1.keep IF);clear he JN IF n0 n1 n2 j6 iq ks;cases hp:cj n.ends x1 x2
         ·have Hp:=zh hp;go_wp2;obtain⟨w0,cG⟩:∃w0,(wr.alloc (Obj.cells #[Value.int IntKind.i64 x1,Value.int IntKind.i64 x2] 83))=w0:=⟨_,rfl⟩
          rw[cG]
          have EX:Below wr.heap.size wr w0:=by rw[<- cG];exact am _ _
          have Mx:∀W,aa w0 W->W.cell? ⟨w.heap.size,0,none⟩=some (.slice (some ⟨b,off,none⟩) n.ends.length c):=fun W hW=>bc hW (bc EX m0)
          have qY:∀W,aa w0 W->W.cell? ⟨w.heap.size,1,none⟩=some (.slice A2 n.ids.length c2):=fun W hW=>bc hW (bc EX m1)
          have wO:∀W,aa w0 W->W.cell? ⟨w.heap.size,2,none⟩=some (.slice A3 n.aea.length c3):=fun W hW=>bc hW (bc EX m2)
          have hi3:∀W,aa w0 W->W.cell? ⟨wr.heap.size,0,none⟩=some (.int .i64 x1):=fun W hW=>bc hW (by rw[<- cG];simp)
          have hi4:∀W,aa w0 W->W.cell? ⟨wr.heap.size,1,none⟩=some (.int .i64 x2):=fun W hW=>bc hW (by rw[<- cG];simp)
          have HN0:=zh (HN.out.keep EX);have IG:=zh EX;clear cG EX m0 m1 m2;refine ar 23 (aa w0) (by kernel_rfl) (by kernel_rfl) (by simp) (aa.drew w0) ?_;simp only[zT]
          iterate 5 (refine bU rfl ?_;simp only[zA])
          refine fI (.bool false) rfl (fun W hW=>?_) ?_
          ·unfold dr
           go_simp
           refine(tZ _ _ _ n.ends x1 x2 W (HN0.out.keep hW)).mono ?_;rintro e W' ⟨rfl,bN⟩;exact⟨by rw[Hp.out],hW.trans bN⟩
          simp only[zA]
          iterate 2 (refine bU rfl ?_;simp only[zA])
          iterate 14 (refine zN rfl ?_;simp only[zA])
          iterate 1 (refine bU rfl ?_;simp only[zA])
          intro W hW;have HW:=zh hW;clear hW;go_wp2;go_ret
          exact⟨bw (by rw[hr.out];refine a_ hlt ?_;rw[au kw.out];simp only[gS];rw[Bool.and_eq_false_iff];exact .inr (a_ jG (by rw[au He.out];simp[jt,Hp.out]))),(Qt.out.trans (IG.out.mono Qt.out.size)).trans ((show Below w0.heap.size w0 W from HW.out).mono (by have:=Qt.out.size;have:=IG.out.size;omega))⟩
         ·have Hp:=zh hp;have r_:=hp;unfold cj at r_;rw[Bool.and_eq_true]at r_;obtain⟨p1,p2⟩:=r_;obtain⟨p3,p4⟩:=ap.1 p1;obtain⟨k1,rfl⟩:=Int.eq_ofNat_of_zero_le p3;have lc:k1<n.ends.length:=by omega
          obtain⟨IH,C6⟩:=aM n.ends k1 lc;rw[Int.toNat_natCast,au C6]at p2;obtain⟨p5,p6⟩:=ap.1 p2;obtain⟨i1,rfl⟩:=Int.eq_ofNat_of_zero_le p5;have qY:i1<IH.length:=by omega
          obtain⟨⟨y1,y2⟩,hy⟩:=aM IH i1 qY;obtain⟨b2,XF,u',A_,qf,My⟩:=HA.out k1 IH C6
          injection A_ with A_
          injection A_ with q3 q4
          subst q3 q4;obtain⟨Mz,XG,rfl,abz,T4,FB⟩:=My;obtain⟨b3,Qu,rfl,T6,SG⟩:=FB i1 _ hy;unfold maxLen at T4;have Hy:=zh hy;have JO:=zh C6;have g3:=bc Qt.out qf;have g5:=bc Qt.out T6;have g6:=bc Qt.out SG;clear C6 hy qf T6 SG FB p1 p2 hp;go_wp2;obtain⟨w0,cG⟩:∃w0,(wr.alloc (Obj.cells #[Value.int IntKind.i64 (k1:Int),Value.int IntKind.i64 (i1:Int)] 83))=w0:=⟨_,rfl⟩
          rw[cG]
          have EX:Below wr.heap.size wr w0:=by rw[<- cG];exact am _ _
          have i0:∀W,aa w0 W->W.cell? ⟨w.heap.size,0,none⟩=some (.slice (some ⟨b,off,none⟩) n.ends.length c):=fun W hW=>bc hW (bc EX m0)
          have i1':∀W,aa w0 W->W.cell? ⟨w.heap.size,1,none⟩=some (.slice A2 n.ids.length c2):=fun W hW=>bc hW (bc EX m1)
          have i2:∀W,aa w0 W->W.cell? ⟨w.heap.size,2,none⟩=some (.slice A3 n.aea.length c3):=fun W hW=>bc hW (bc EX m2)
          have i3:∀W,aa w0 W->W.cell? ⟨wr.heap.size,0,none⟩=some (.int .i64 (k1:Int)):=fun W hW=>bc hW (by rw[<- cG];simp)
          have i4:∀W,aa w0 W->W.cell? ⟨wr.heap.size,1,none⟩=some (.int .i64 (i1:Int)):=fun W hW=>bc hW (by rw[<- cG];simp)
          have i5:∀W,aa w0 W->W.cell? ⟨b,off+k1,none⟩=some (.slice (some ⟨b3,Qu,none⟩) IH.length XG):=fun W hW=>bc hW (bc EX g3)
          have i6:∀W,aa w0 W->W.cell? ⟨b3,Qu+i1*2,none⟩=some (.int .i64 y1):=fun W hW=>bc hW (bc EX g5)
          have i7:∀W,aa w0 W->W.cell? ⟨b3,Qu+i1*2+1,none⟩=some (.int .i64 y2):=fun W hW=>bc hW (bc EX g6)
          have HN0:=zh (HN.out.keep EX);have IG:=zh EX;clear cG EX m0 m1 m2 g3 g5 g6;refine ar 23 (aa w0) (by kernel_rfl) (by kernel_rfl) (by simp) (aa.drew w0) ?_;simp only[zT]
          iterate 5 (refine bU rfl ?_;simp only[zA])
          refine fI (.bool true) rfl (fun W hW=>?_) ?_
          ·unfold dr
           go_simp
           refine(tZ _ _ _ n.ends k1 i1 W (HN0.out.keep hW)).mono ?_;rintro e W' ⟨rfl,bN⟩;exact⟨by rw[Hp.out],hW.trans bN⟩
          simp only[zA]
          iterate 15 (refine bU rfl ?_;simp only[zA])
          refine fI (.bool (!yB (y1,y2) ((k:Int),(j:Int)))) rfl (fun W hW=>?_) ?_
          ·unfold dr
           go_simp
           by_cases f1:y1=(k:Int)
           ·by_cases f2:y2=(j:Int)
            ·simp[f1,f2,yB,hW]
            ·simp[f1,f2,yB,hW]
           ·simp[f1,yB,hW]
          simp only[zA];cases hq:yB (y1,y2) ((k:Int),(j:Int))
          all_goals
           have Hq:=zh hq;clear hq
           iterate 1 (refine bU rfl ?_;simp only[zA])
           intro W hW;have HW:=zh hW
           have HbW:=zh ((Qt.out.trans (IG.out.mono Qt.out.size)).trans ((show Below w0.heap.size w0 W from hW).mono (by have:=Qt.out.size;have:=IG.out.size;omega)))
           have abA:=zh ((Hbq.out.trans (IG.out.mono Hbq.out.size)).trans ((show Below w0.heap.size w0 W from hW).mono (by have:=Hbq.out.size;have:=IG.out.size;omega)))
           clear hW;go_wp2
          ·go_ret
           exact⟨bw (by rw[hr.out];refine a_ hlt ?_;rw[au kw.out];simp only[gS];rw[Bool.and_eq_false_iff];exact .inr (a_ jG (by rw[au He.out];simp[jt,Hp.out,JO.out,Hy.out,Hq.out]))),HbW.out⟩
          ·go_roundw
           case rel=>exact⟨j+1,by omega,by go_num,by rw[dg,C5.out,au He.out];simp[jt,Hp.out,JO.out,Hy.out,Hq.out],abA.out⟩
           case measure=>simp[intOf];omega
        ·obtain rfl:j=es.length:=by omega
         have abB:=zh IF;clear JN IF;go_wp2;go_roundw
         case rel=>exact⟨k+1,by omega,by go_num,by rw[dg,iV.out,au kw.out,Bool.true_and];unfold gS;rw[C5.out];simp[h6],abB.out⟩
         case measure=>simp[intOf];omega
      ·go_wp2;go_ret
       exact⟨bw (by rw[hr.out];exact a_ hlt (by rw[au kw.out];simp[gS,h6])),HbA.out⟩
     ·obtain rfl:k=n.ends.length:=by omega
      go_wp2;go_ret
      exact⟨kY (by rw[hr.out];exact iV.out),vc.out.trans (yT.out.mono vc.out.size)⟩
end Go.Proofs.YtgmdpppljkmabaaGreat
