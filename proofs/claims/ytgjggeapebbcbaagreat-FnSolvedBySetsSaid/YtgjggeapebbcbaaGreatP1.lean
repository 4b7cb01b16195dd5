/- Parts of the proof: walks of functions and plain laws. -/
import Derived.Test.YtgjggeapebbcbaaGreatP0
import Derived.Orders
import Derived.Below
import Derived.Tactics
set_option maxRecDepth 100000
set_option maxHeartbeats 16000000
namespace Go.Proofs.YtgjggeapebbcbaaGreat
open Go Go.RowKit
section
variable {P : Program} {ops : Array Oper} {Inv : World → Prop}
def aa (w0 W:World):Prop:=Below w0.heap.size w0 W
theorem aa.drew (w0:World):aa w0 w0.drew:=(Below.refl _ _).drew
theorem aa.trans {w0 W W':World} (h:aa w0 W) (h':Below W.heap.size W W'):aa w0 W':=Below.trans h (h'.mono h.size)
def bN (P:Program) (Inv:World->Prop) (o:Oper) (A:Act) (W:World) (v:Value):Prop:=
 match (execOp A.eval o).run P W with
 | .ok (.value u) W'=>u=v/\Inv W'
 | .ok .skip W'=>undef=v/\Inv W'
 | .ok (.enter f args) W'=>Calls P f args W' fun e kc=>e=.returned v/\Inv kc
 | _=>False
def oo (P:Program) (ops:Array Oper) (Inv:World->Prop) (o:Oper) (A:Act) (v:Value):Prop:=
 ∀W,Inv W->(Region.wanted o (yielded ops A.tmps)=true/\bN P Inv o A W v)\/(Region.wanted o (yielded ops A.tmps)=false/\v=undef)
def ey (P:Program) (ops:Array Oper) (Inv:World->Prop) (bV:Act->Prop):List Oper->Act->Prop
 | [],A=>bV A
 | o::rest,A=>∃v,oo P ops Inv o A v/\ey P ops Inv bV rest (A.put o.dst v)
def aV (o:Oper):List Nat:=o.after.toList.filterMap fun e=>if Region.binds .any e then some e.on else none
theorem sx {o:Oper} {j:Nat}:j∈aV o↔∃e∈o.after,Region.binds .any e=true/\e.on=j:=by
 unfold aV;rw[List.mem_filterMap];constructor
 ·rintro⟨e,he,h⟩
  split at h
  ·rename_i hb;cases h;exact⟨e,by simpa using he,hb,rfl⟩
  ·cases h
 ·rintro⟨e,he,hb,rfl⟩;exact⟨e,by simpa using he,by simp[hb]⟩
inductive zo (ops:Array Oper) (j:Nat):Nat->Prop
 | dep {i:Nat} {o:Oper}:ops[i]?=some o->j∈aV o->zo ops j i
 | step {m i:Nat} {o:Oper}:zo ops j m->ops[i]?=some o->m∈aV o->zo ops j i
def xo (ops:Array Oper) (VZ:List (List Nat)) (i:Nat):List Nat:=
 match ops[i]? with
 | none=>[]
 | some o=>(List.range i).filter fun j=>(aV o).contains j||(aV o).any fun m=>(VZ.getD m []).contains j
def fk (ops:Array Oper):Nat->List (List Nat)
 | 0=>[]
 | n+1=>let t:=fk ops n;t++[xo ops t n]
theorem sy (n:Nat):(fk ops n).length=n:=by
 induction n with
 | zero=>rfl
 | succ n ih=>simp[fk,ih]
theorem ch (n:Nat):∀i j,j∈(fk ops n).getD i []->zo ops j i:=by
 induction n with
 | zero=>intro i j h;simp[fk]at h
 | succ n ih=>
  intro i j h;have hl:=sy (ops:=ops) n;simp only[fk]at h;rcases Nat.lt_trichotomy i n with hi | hi | hi
  ·rw[zDd,List.getElem?_append_left (by omega),<- zDd]at h;exact ih i j h
  ·subst hi;rw[zDd,List.getElem?_append_right (by omega),hl,Nat.sub_self]at h;simp only[List.getElem?_cons_zero,Option.getD_some,xo]at h
   cases ho:ops[i]? with
   | none=>simp[ho]at h
   | some o=>
    simp only[ho,List.mem_filter,Bool.or_eq_true,List.any_eq_true,List.contains_iff_mem]at h;rcases h.2 with h | ⟨m,hm,hj⟩
    ·exact .dep ho h
    ·exact .step (ih m j hj) ho hm
  ·rw[zDd,List.getElem?_append_right (by omega),hl,List.getElem?_eq_none (by simp;omega)]at h;simp at h
def qA (ops:Array Oper) (k:Nat):Bool:=
 Region.noSelect ops &&
 ((List.range ops.size).all fun i=>match ops[i]? with
  | none=>true
  | some o=>((aV o).all fun j=>decide (j<i)) &&
   (decide (k<=i) ||
    (((o.looksAt ops).all fun t=>(List.range k).all fun j=>match ops[j]? with
     | none=>true
     | some oj=>if oj.dst=some t then (aV o).contains j else true) &&
    ((List.range k).all fun j=>match ops[j]? with
     | none=>true
     | some oj=>decide (j=i)||(match o.dst with | none=>true | some d=>oj.dst != some d)))) &&
   (decide (i<k)||((List.range i).all fun j=>((fk ops (i+1)).getD i []).contains j)))
structure uQ (ops:Array Oper) (k:Nat):Prop where
 aam:∀(j:Nat) (o:Oper) cs b,ops[j]?=some o->o.op ≠ .select cs b
 back:∀i o,ops[i]?=some o->∀j∈aV o,j<i
 looks:∀i o,i<k->ops[i]?=some o->∀t∈o.looksAt ops,∀j oj,j<k->ops[j]?=some oj->oj.dst=some t->j∈aV o
 aaq:∀i o,i<k->ops[i]?=some o->∀j oj,j<k->ops[j]?=some oj->∀d,o.dst=some d->oj.dst=some d->j=i
 tail:∀i,k<=i->i<ops.size->∀j,j<i->zo ops j i
theorem nQ {k:Nat} (h:qA ops k=true):uQ ops k:=by
 unfold qA at h;rw[Bool.and_eq_true,List.all_eq_true]at h;obtain⟨hs,h⟩:=h
 have mM:∀(i:Nat) (o:Oper),ops[i]?=some o->_:=fun i o ho=>by
  have:=h i (List.mem_range.2 (Array.getElem?_eq_some_iff.1 ho).1)
  simp only[ho,Bool.and_eq_true]at this;exact this
 refine⟨fun j o cs b ho=>Region.noSelect_spec hs j o cs b ho,fun i o ho j hj=>?_,fun i o hi ho t ht j oj hj eG hd=>?_,fun i o hi ho j oj hj eG d hd gm=>?_,fun i V0 hi j hj=>?_⟩
 ·have:=(mM i o ho).1.1
  rw[List.all_eq_true]at this;simpa using this j hj
 ·have:=(mM i o ho).1.2
  rw[Bool.or_eq_true]at this;rcases this with h1 | h1
  ·simp at h1;omega
  ·rw[Bool.and_eq_true]at h1;have h2:=List.all_eq_true.1 (List.all_eq_true.1 h1.1 t ht) j (List.mem_range.2 hj);simp only[eG,hd,if_true]at h2;simpa using h2
 ·have:=(mM i o ho).1.2
  rw[Bool.or_eq_true]at this;rcases this with h1 | h1
  ·simp at h1;omega
  ·rw[Bool.and_eq_true]at h1;have h2:=List.all_eq_true.1 h1.2 j (List.mem_range.2 hj);simp only[eG,hd,gm,Bool.or_eq_true,decide_eq_true_eq]at h2;rcases h2 with h2 | h2
   ·exact h2
   ·simp at h2
 ·obtain⟨o,ho⟩:∃o,ops[i]?=some o:=⟨_,Array.getElem?_eq_getElem hi⟩
  have:=(mM i o ho).2
  rw[Bool.or_eq_true]at this;rcases this with h1 | h1
  ·simp at h1;omega
  ·have h2:=List.all_eq_true.1 h1 j (List.mem_range.2 hj);exact ch (i+1) i j (by simpa using h2)
structure aA (a:Act) (ops:Array Oper) (aae:Nat->Value) (D:Nat->Prop) (a':Act):Prop where
 defers:a'.defers=a.defers
 size:a'.tmps.size=a.tmps.size
 on:∀j o t,D j->ops[j]?=some o->o.dst=some t->t<a.tmps.size->a'.tmps[t]?=some (aae j)
 off:∀t,(∀j o,D j->ops[j]?=some o->o.dst≠some t)->a'.tmps[t]?=a.tmps[t]?
theorem aA.put {a a':Act} {aae:Nat->Value} {D:Nat->Prop} {i:Nat} {o:Oper} (h:aA a ops aae D a') (ho:ops[i]?=some o) (hd:∀j oj d,D j->ops[j]?=some oj->o.dst=some d->oj.dst≠some d):
  aA a ops aae (fun j=>D j\/j=i) (a'.put o.dst (aae i)):=by
 cases Ge:o.dst with
 | none=>
  refine⟨h.defers,h.size,fun j oj t hj eG ht aH=>?_,fun t ht=>h.off t (fun j oj hj=>ht j oj (.inl hj))⟩
  rcases hj with hj | rfl
  ·exact h.on j oj t hj eG ht aH
  ·rw[ho]at eG;cases eG;rw[Ge]at ht;cases ht
 | some d=>
  refine⟨h.defers,by simp[Act.put,h.size],fun j oj t hj eG ht aH=>?_,fun t ht=>?_⟩
  ·rcases hj with hj | rfl
   ·have oh:d≠t:=fun e=>hd j oj d hj eG Ge (by rw[e];exact ht)
    simp only[Act.put];rw[Array.getElem?_setIfInBounds_ne oh];exact h.on j oj t hj eG ht aH
   ·rw[ho]at eG;cases eG;rw[Ge]at ht;cases ht
    simp only[Act.put]
    rw[Array.getElem?_setIfInBounds_self_of_lt (by rw[h.size];exact aH)]
  ·have oh:d≠t:=fun e=>ht i o (.inr rfl) ho (by rw[Ge,e])
   simp only[Act.put];rw[Array.getElem?_setIfInBounds_ne oh];exact h.off t (fun j oj hj=>ht j oj (.inl hj))
theorem aA.agree {a a1 a2:Act} {aae:Nat->Value} {D E:Nat->Prop} (h1:aA a ops aae D a1) (h2:aA a ops aae E a2) (t:Tmp)
  (ht:∀j o,(D j\/E j)->ops[j]?=some o->o.dst=some t->D j/\E j):a1.tmps[t]?=a2.tmps[t]?:=by
 rcases Nat.lt_or_ge t a.tmps.size with aH | hge
 ·by_cases OI:∃j o,(D j\/E j)/\ops[j]?=some o/\o.dst=some t
  ·obtain⟨j,o,hj,ho,hd⟩:=OI;obtain⟨hD,hE⟩:=ht j o hj ho hd;rw[h1.on j o t hD ho hd aH,h2.on j o t hE ho hd aH]
  ·rw[h1.off t (fun j o hj ho hd=>OI ⟨j,o,.inl hj,ho,hd⟩),h2.off t (fun j o hj ho hd=>OI ⟨j,o,.inr hj,ho,hd⟩)]
 ·rw[Array.getElem?_eq_none (by rw[h1.size];exact hge),Array.getElem?_eq_none (by rw[h2.size];exact hge)]
theorem aA.ext {a a1 a2:Act} {aae:Nat->Value} {D E:Nat->Prop} (h1:aA a ops aae D a1) (h2:aA a ops aae E a2) (V1:∀j,j<ops.size->(D j↔E j)):a1=a2:=by
 have ht:a1.tmps=a2.tmps:=by
  apply Array.ext_getElem?
  intro t;refine h1.agree h2 t (fun j o hj ho _=>?_)
  have:=V1 j (Array.getElem?_eq_some_iff.1 ho).1
  rcases hj with hj | hj
  ·exact⟨hj,this.1 hj⟩
  ·exact⟨this.2 hj,hj⟩
 have hd:a1.defers=a2.defers:=h1.defers.trans h2.defers.symm
 cases a1;cases a2;simp_all
theorem mN {bV:Act->Prop} (l:List Oper):∀(A:Act),ey P ops Inv bV l A ->
  ∃(aae:Nat->Value) (F:Nat->Act),F 0=A/\bV (F l.length)/\∀i o,l[i]?=some o->oo P ops Inv o (F i) (aae i)/\F (i+1)=(F i).put o.dst (aae i):=by
 induction l with
 | nil=>intro A h;exact⟨fun _=>undef,fun _=>A,rfl,h,fun i o h=>by simp at h⟩
 | cons o l ih=>
  intro A h;obtain⟨v,hs,hf⟩:=h;obtain⟨aae,F,h0,fM,ib⟩:=ih _ hf;refine⟨fun i=>match i with | 0=>v | i+1=>aae i,fun i=>match i with | 0=>A | i+1=>F i,rfl,fM,?_⟩
  intro i o' hi
  cases i with
  | zero=>simp at hi;subst hi;exact⟨hs,h0⟩
  | succ i=>exact ib i o' (by simpa using hi)
theorem filter_lt {l:List Nat} {p q:Nat->Bool} (h:∀x,q x=true->p x=true) {x:Nat} (hx:x∈l) (hp:p x=true) (hq:q x=false):(l.filter q).length<(l.filter p).length:=by
 induction l with
 | nil=>simp at hx
 | cons y l ih=>
  have sd:(l.filter q).length<=(l.filter p).length:=by
   clear ih hx
   induction l with
   | nil=>simp
   | cons z l ih2=>
    rw[List.filter_cons,List.filter_cons];cases V2:q z
    ·cases zp:p z <;> simp <;> omega
    ·rw[h z V2];simpa using ih2
  rw[List.filter_cons,List.filter_cons];rcases List.mem_cons.1 hx with rfl | hx
  ·rw[hp,hq];simp;omega
  ·have:=ih hx
   cases V3:q y
   ·cases hpy:p y <;> simp <;> omega
   ·rw[h y V3];simpa using this
theorem uS {D:Nat->Prop} (hc:∀i o,D i->ops[i]?=some o->∀j∈aV o,D j) {j i:Nat} (h:zo ops j i):D i->D j:=by
 induction h with
 | dep ho hj=>intro hi;exact hc _ _ hi ho _ hj
 | step _ ho hm ih=>intro hi;exact ih (hc _ _ hi ho _ hm)
theorem dJ {D:Nat->Prop} (hc:∀i o,D i->ops[i]?=some o->∀j∈aV o,D j) {j i:Nat} {o:Oper} (ho:ops[i]?=some o) (hr:∀m∈aV o,D m) (h:zo ops j i):D j:=by
 cases h with
 | dep sc hj=>rw[ho]at sc;cases sc;exact hr _ hj
 | step ha sc hm=>rw[ho]at sc;cases sc;exact uS hc ha (hr _ hm)
theorem dD {j:Nat} {an:Array Bool}:j∈Region.ready .any ops an↔an.getD j true=false/\∃o,ops[j]?=some o/\∀m∈aV o,an.getD m false=true:=by
 rw[mem_ready];constructor
 ·rintro⟨h0,o,ho,h⟩;refine⟨h0,o,ho,fun m hm=>?_⟩
  obtain⟨e,he,hb,rfl⟩:=sx.1 hm;exact h e he hb
 ·rintro⟨h0,o,ho,h⟩;exact⟨h0,o,ho,fun e he hb=>h e.on (sx.2 ⟨e,he,hb,rfl⟩)⟩
theorem gG {an:Array Bool} {j:Nat} (hj:j<an.size):an.getD j true=an.getD j false:=by simp[hj]
theorem qB {Q:Exit->Act->World->Prop} {k:Nat} (hf:uQ ops k):∀(hG m:Nat) (an:Array Bool) (a:Act) (W:World),k<=m->m<=ops.size->ops.size-m<=hG->an.size=ops.size ->
  (∀j,j<ops.size->an.getD j false=decide (j<m))->wpList P ops Q (ops.toList.drop m) a W->wpAny P .any ops Q hG an a W:=by
 have zU:∀(m:Nat) (an:Array Bool),k<=m->m<=ops.size->an.size=ops.size->(∀j,j<ops.size->an.getD j false=decide (j<m))->∀i∈Region.ready .any ops an,i=m:=by
  intro m an Nb hm dM hl i hi;obtain⟨h0,o,ho,hO⟩:=dD.1 hi;have dY:i<ops.size:=(Array.getElem?_eq_some_iff.1 ho).1;rw[gG (by omega),hl i dY]at h0;simp at h0
  rcases Nat.lt_or_ge m i with aH | hge
  ·have:=dJ (D:=fun j=>j<m) (fun i' o' kd sc j hj=>by have:=hf.back i' o' sc j hj;omega) ho (fun d hd=>by
    have h1:=hO d hd;have h2:=hf.back i o ho d hd;rw[hl d (by omega)]at h1
    simpa using h1) (hf.tail i (by omega) dY m aH)
   omega
  ·omega
 intro hG
 induction hG with
 | zero=>
  intro m an a W Nb hm Gf dM hl h;obtain rfl:m=ops.size:=by omega
  refine⟨List.eq_nil_iff_forall_not_mem.2 (fun i hi=>?_),?_⟩
  ·have:=zU ops.size an Nb hm dM hl i hi
   obtain⟨_,o,ho,_⟩:=dD.1 hi
   have:=(Array.getElem?_eq_some_iff.1 ho).1
   omega
  ·rw[List.drop_of_length_le (by simp)]at h;exact h
 | succ hG ih=>
  intro m an a W Nb hm Gf dM hl h;refine⟨fun uT=>?_,fun i hi=>?_⟩
  ·rcases Nat.lt_or_ge m ops.size with aH | hge
   ·exfalso
    have me:m∈Region.ready .any ops an:=by
     refine dD.2 ⟨by rw[gG (by omega),hl m aH];simp,ops[m],Array.getElem?_eq_getElem aH,fun d hd=>?_⟩
     have h2:=hf.back m _ (Array.getElem?_eq_getElem aH) d hd
     rw[hl d (by omega)];simpa using h2
    rw[uT]at me;simp at me
   ·rw[List.drop_of_length_le (by simp;omega)]at h;exact h
  ·obtain rfl:=zU m an Nb hm dM hl i hi
   obtain⟨_,o,ho,_⟩:=dD.1 hi;have dY:i<ops.size:=(Array.getElem?_eq_some_iff.1 ho).1;rw[List.drop_eq_getElem_cons (by simpa using dY)]at h
   have E7:ops.toList[i]'(by simpa using dY)=o:=by
    have:=(Array.getElem?_eq_some_iff.1 ho).2
    simpa using this
   rw[E7]at h;unfold wpList at h;unfold wpOp;simp only[ho]
   have next:∀a W,wpList P ops Q (ops.toList.drop (i+1)) a W->wpAny P .any ops Q hG (an.setIfInBounds i true) a W:=fun a W h'=>
    ih (i+1) _ a W (by omega) (by omega) (by omega) (by simpa using dM) (fun j hj=>by
     by_cases kK:i=j
     ·subst kK;simp[dM,dY]
     ·rw[getD_set_ne false kK,hl j hj]
      simp;omega) h'
   split
   ·rename_i hw
    rw[if_pos hw]at h;exact h.imp (Oper.wp_mono next) id
   ·rename_i hw
    rw[if_neg hw]at h;exact next _ _ h
theorem yf {Q:Exit->Act->World->Prop} {k:Nat} (hf:uQ ops k) (hk:k<=ops.size) (a:Act) (aae:Nat->Value) (F:Nat->Act) (hF:∀i,i<=k->aA a ops aae (fun j=>j<i) (F i))
  (ib:∀i o,i<k->ops[i]?=some o->oo P ops Inv o (F i) (aae i)) (fM:∀W,Inv W->wpList P ops Q (ops.toList.drop k) (F k) W):
  ∀(hG:Nat) (an:Array Bool) (a':Act) (W:World),an.size=ops.size->(∀i o,an.getD i false=true->ops[i]?=some o->∀j∈aV o,an.getD j false=true)->(∀j,an.getD j false=true->j<k) ->
   (ops.size-k)+((List.range k).filter fun j => !an.getD j false).length<=hG->aA a ops aae (fun j=>an.getD j false=true) a'->Inv W->wpAny P .any ops Q hG an a' W:=by
 intro hG
 induction hG with
 | zero=>
  intro an a' W dM nR aH Gf fX hI
  have bF:∀j,j<k->an.getD j false=true:=fun j hj=>by
   rcases hb:an.getD j false with _ | _
   ·have:0<((List.range k).filter fun j => !an.getD j false).length:=List.length_pos_of_mem (List.mem_filter.2 ⟨List.mem_range.2 hj,by simp[hb]⟩)
    omega
   ·rfl
  have hl:∀j,j<ops.size->an.getD j false=decide (j<k):=fun j _=>by
   by_cases h:j<k
   ·rw[bF j h];simp[h]
   ·cases hb:an.getD j false
    ·simp[h]
    ·exact absurd (aH j hb) h
  have:a'=F k:=fX.ext (hF k (Nat.le_refl _)) (fun j hj=>by rw[hl j hj];simp)
  subst this;exact qB hf 0 k an _ W (Nat.le_refl _) hk (by omega) dM hl (fM W hI)
 | succ hG ih=>
  intro an a' W dM nR aH Gf fX hI
  by_cases bF:∀j,j<k->an.getD j false=true
  ·have hl:∀j,j<ops.size->an.getD j false=decide (j<k):=fun j _=>by
    by_cases h:j<k
    ·rw[bF j h];simp[h]
    ·cases hb:an.getD j false
     ·simp[h]
     ·exact absurd (aH j hb) h
   have:a'=F k:=fX.ext (hF k (Nat.le_refl _)) (fun j hj=>by rw[hl j hj];simp)
   subst this;exact qB hf (hG+1) k an _ W (Nat.le_refl _) hk (by omega) dM hl (fM W hI)
  ·obtain⟨j0,V6,JN⟩:∃j,j<k/\an.getD j false=false:=by
    refine Classical.byContradiction fun kL=>bF fun j hj=>?_
    cases hb:an.getD j false
    ·exact absurd ⟨j,hj,hb⟩ kL
    ·rfl
   refine⟨fun uT=>?_,fun i hi=>?_⟩
   ·exfalso
    have:∀m,∀j,j<=m->j<k->an.getD j false=false->False:=by
     intro m
     induction m using Nat.strongRecOn with
     | ind m ihm=>
      intro j Tg jy IU;have JO:j<ops.size:=by omega
      by_cases hd:∀d∈aV ops[j],an.getD d false=true
      ·have me:j∈Region.ready .any ops an:=dD.2 ⟨by rw[gG (by omega)];exact IU,ops[j],Array.getElem?_eq_getElem JO,hd⟩
       rw[uT]at me;simp at me
      ·obtain⟨d,mO,gm⟩:∃d,d∈aV ops[j]/\an.getD d false=false:=by
        refine Classical.byContradiction fun kL=>hd fun d hd=>?_
        cases hb:an.getD d false
        ·exact absurd ⟨d,hd,hb⟩ kL
        ·rfl
       have V7:=hf.back j _ (Array.getElem?_eq_getElem JO) d mO;exact ihm d (by omega) d (Nat.le_refl _) (by omega) gm
    exact this j0 j0 (Nat.le_refl _) V6 JN
   ·obtain⟨h0,o,ho,hO⟩:=dD.1 hi;have dY:i<ops.size:=(Array.getElem?_eq_some_iff.1 ho).1;rw[gG (by omega)]at h0
    have fJ:i<k:=by
     rcases Nat.lt_or_ge i k with h | h
     ·exact h
     ·have:=dJ (D:=fun j=>an.getD j false=true) nR ho hO (hf.tail i h dY j0 (by omega))
      simp only[JN]at this;cases this
    have Gg:∀t∈o.looksAt ops,a'.tmps[t]?=(F i).tmps[t]?:=fun t ht=>fX.agree (hF i (by omega)) t (fun j oj hj eG hd=>by
     have jy:j<k:=by
      rcases hj with hj | hj
      ·exact aH j hj
      ·omega
     have:=hf.looks i o fJ ho t ht j oj jy eG hd
     exact⟨hO j this,hf.back i o ho j this⟩)
    have he:execOp a'.eval o=execOp (F i).eval o:=execOp_congr o (fun cs b=>hf.aam i o cs b ho) (fun x hx=>by
     cases x with
     | tmp t=>
      have:=Gg t (List.mem_append_left _ (List.mem_filterMap.2 ⟨.tmp t,by simpa using hx,rfl⟩))
      simp[Act.eval,this]
     | _=>rfl)
    have hw:Region.wanted o (yielded ops a'.tmps)=Region.wanted o (yielded ops (F i).tmps):=by
     unfold Region.wanted
     cases hg:o.guard with
     | none=>rfl
     | some gw=>
      obtain⟨g,OJ⟩:=gw
      have:yielded ops a'.tmps g=yielded ops (F i).tmps g:=by
       unfold yielded
       cases ht:(ops[g]?).bind (·.dst) with
       | none=>rfl
       | some t=>
        have:=Gg t (by simp[Oper.looksAt,hg,ht])
        simp[this]
      simp only[this]
    have next:∀W',Inv W'->wpAny P .any ops Q hG (an.setIfInBounds i true) (a'.put o.dst (aae i)) W':=fun W' JP=>by
     have fe:∀j,(an.setIfInBounds i true).getD j false=true↔(an.getD j false=true\/j=i):=fun j=>by
      by_cases kK:i=j
      ·subst kK;simp[dM,dY]
      ·rw[getD_set_ne false kK];constructor
       ·exact .inl
       ·rintro(h | h)
        ·exact h
        ·exact absurd h.symm kK
     refine ih _ _ W' (by simpa using dM) (fun i' o' kd sc j hj=>?_) (fun j hj=>?_) ?_ ?_ JP
     ·rcases(fe i').1 kd with h | rfl
      ·exact(fe j).2 (.inl (nR i' o' h sc j hj))
      ·rw[ho]at sc;cases sc
       exact(fe j).2 (.inl (hO j hj))
     ·rcases(fe j).1 hj with h | rfl
      ·exact aH j h
      ·exact fJ
     ·have OK:=filter_lt (l:=List.range k) (p:=fun j => !an.getD j false) (q:=fun j => !(an.setIfInBounds i true).getD j false) (fun x hx=>by
       cases hb:an.getD x false
       ·rfl
       ·have:=(fe x).2 (.inl hb)
        simp only[this]at hx
        cases hx) (List.mem_range.2 fJ) (by simp only[h0];rfl) (by simp only[(fe i).2 (.inr rfl)];rfl)
      omega
     ·have:=fX.put (i:=i) ho (fun j oj d hj eG hd gm=>by
       have:=hf.aaq i o fJ ho j oj (aH j hj) eG d hd gm
       subst this;rw[h0]at hj
       cases hj)
      refine⟨this.defers,this.size,fun j oj t hj=>this.on j oj t ((fe j).1 hj),fun t ht=>this.off t (fun j oj hj=>ht j oj ((fe j).2 hj))⟩
    unfold wpOp;simp only[ho,hw];rcases ib i o fJ ho W hI with⟨h1,h2⟩ | ⟨h1,h2⟩
    ·rw[if_pos h1];refine .inl ?_;unfold Oper.wp;unfold bN at h2;rw[he]
     generalize (execOp (F i).eval o).run P W=r at h2 ⊢
     cases r with
     | ok nx W'=>
      cases nx with
      | value u=>simp only at h2;obtain⟨rfl,h3⟩:=h2;exact next W' h3
      | skip=>simp only at h2;obtain⟨h4,h3⟩:=h2;simp only[Oper.upon];rw[h4];exact next W' h3
      | enter f args=>
       simp only at h2
       simp only[Oper.upon]
       exact h2.mono fun e kc ⟨uU,h3⟩=>by subst uU;exact next kc h3
      | _=>exact h2.elim
     | halt x W'=>exact h2.elim
    ·rw[if_neg (by rw[h1];simp)]
     have:=next W hI
     rw[h2]at this;exact this
theorem iD (n j:Nat):(Array.replicate n false).getD j false=false:=by
 rcases Nat.lt_or_ge j n with h | h
 ·simp[h]
 ·simp[h]
theorem aq {Q:Exit->Act->World->Prop} {id:Nat} {a:Act} {w:World} (k:Nat) (Inv:World->Prop) (hm:P.follows .mixedOrders=true) (hf:qA ops k=true) (hk:k<=ops.size) (hI:Inv w.drew)
  (h:ey P ops Inv (fun A=>∀W,Inv W->wpList P ops Q (ops.toList.drop k) A W) (ops.toList.take k) a):(Code.region id ops true).wp P Q a w:=by
 have dR:=nQ hf;obtain⟨aae,F,h0,fM,fY⟩:=mN _ a h
 have dO:(ops.toList.take k).length=k:=by simp;omega
 rw[dO]at fM
 have i8:∀i o,i<k->ops[i]?=some o->(ops.toList.take k)[i]?=some o:=fun i o hi ho=>by
  rw[List.getElem?_take,if_pos hi];simpa using ho
 have hF:∀i,i<=k->aA a ops aae (fun j=>j<i) (F i):=by
  intro i
  induction i with
  | zero=>intro _;rw[h0];exact⟨rfl,rfl,fun j _ _ hj=>absurd hj (by omega),fun _ _=>rfl⟩
  | succ i ih=>
   intro hi;have kd:i<ops.size:=by omega
   have ho:ops[i]?=some ops[i]:=Array.getElem?_eq_getElem kd;rw[(fY i _ (i8 i _ (by omega) ho)).2]
   have:=(ih (by omega)).put ho (fun j oj d hj eG hd gm=>by
    have:=dR.aaq i _ (by omega) ho j oj (by omega) eG d hd gm
    omega)
   exact⟨this.defers,this.size,fun j oj t hj=>this.on j oj t (by omega),fun t ht=>this.off t (fun j oj hj=>ht j oj (by omega))⟩
 refine wp_region_any hm ?_
 have:=yf (P:=P) (Inv:=Inv) dR hk a aae F hF (fun i o hi ho=>(fY i o (i8 i o hi ho)).1) fM ops.size (Array.replicate ops.size false) a w.drew (by simp)
  (fun i o hi=>by rw[iD]at hi;cases hi) (fun j hj=>by rw[iD]at hj;cases hj) (by
   have:((List.range k).filter fun j => !(Array.replicate ops.size false).getD j false).length<=k:=by
    have:=List.length_filter_le (fun j => !(Array.replicate ops.size false).getD j false) (List.range k)
    simpa using this
   omega) ⟨rfl,rfl,(fun j _ _ hj=>by rw[iD]at hj;cases hj),fun _ _=>rfl⟩ hI
 exact this
theorem ot {bV:Act->Prop} {o:Oper} {rest:List Oper} {A:Act} {v:Value} (hw:Region.wanted o (yielded ops A.tmps)=true) (h:∀W,Inv W->(execOp A.eval o).run P W=.ok (.value v) W)
  (hr:ey P ops Inv bV rest (A.put o.dst v)):ey P ops Inv bV (o::rest) A:=
 ⟨v,fun W hI=>.inl ⟨hw,by unfold bN;rw[h W hI];exact⟨rfl,hI⟩⟩,hr⟩
theorem cY {bV:Act->Prop} {o:Oper} {rest:List Oper} {A:Act} {v:Value} (hw:Region.wanted o (yielded ops A.tmps)=true) (hr:ey P ops Inv bV rest (A.put o.dst v)) (h:∀W,Inv W->(execOp A.eval o).run P W=.ok (.value v) W:=by intro W hW;go_simp;with_reducible rfl):ey P ops Inv bV (o::rest) A:=ot hw h hr
theorem qC {bV:Act->Prop} {o:Oper} {rest:List Oper} {A:Act} (hw:Region.wanted o (yielded ops A.tmps)=false)
  (hr:ey P ops Inv bV rest (A.put o.dst undef)):ey P ops Inv bV (o::rest) A:=⟨undef,fun _ _=>.inr ⟨hw,rfl⟩,hr⟩
theorem ej {bV:Act->Prop} {o:Oper} {rest:List Oper} {A:Act} (v:Value) (hw:Region.wanted o (yielded ops A.tmps)=true) (h:∀W,Inv W->bN P Inv o A W v)
  (hr:ey P ops Inv bV rest (A.put o.dst v)):ey P ops Inv bV (o::rest) A:=⟨v,fun W hI=>.inl ⟨hw,h W hI⟩,hr⟩
end
section
variable {P : Program} {ops : Array Oper} {Inv : World → Prop}
theorem qD {Q:Exit->Act->World->Prop} {bV:Act->Prop} {rest:List Oper} (fM:∀A,bV A->∀W,Inv W->wpList P ops Q rest A W):
  ∀(l:List Oper) (A:Act) (W:World),Inv W->ey P ops Inv bV l A->wpList P ops Q (l++rest) A W
 | [],A,W,hI,h=>fM A h W hI
 | o::l,A,W,hI,⟨v,hv,h⟩=>by
  have next:∀W',Inv W'->wpList P ops Q (l++rest) (A.put o.dst v) W':=fun W' JP=>qD fM l _ W' JP h
  show wpList P ops Q (o::(l++rest)) A W
  unfold wpList;rcases hv W hI with⟨h1,h2⟩ | ⟨h1,h2⟩
  ·rw[if_pos h1];refine .inl ?_;unfold Oper.wp;unfold bN at h2
   generalize (execOp A.eval o).run P W=r at h2 ⊢
   cases r with
   | ok nx W'=>
    cases nx with
    | value u=>simp only at h2;obtain⟨rfl,h3⟩:=h2;exact next W' h3
    | skip=>simp only at h2;obtain⟨h4,h3⟩:=h2;simp only[Oper.upon];rw[h4];exact next W' h3
    | enter f args=>
     simp only at h2
     simp only[Oper.upon]
     exact h2.mono fun e kc ⟨uU,h3⟩=>by subst uU;exact next kc h3
    | _=>exact h2.elim
   | halt x W'=>exact h2.elim
  ·rw[if_neg (by rw[h1];simp)]
   have:=next W hI
   rw[h2]at this;exact this
theorem bI {Q:Exit->Act->World->Prop} {id:Nat} {a:Act} {w:World} (k:Nat) (Inv:World->Prop) (hI:Inv w)
  (h:ey P ops Inv (fun A=>∀W,Inv W->wpList P ops Q (ops.toList.drop k) A W) (ops.toList.take k) a):(Code.region id ops false).wp P Q a w:=by
 refine wp_region_list ?_
 have:=qD (P:=P) (ops:=ops) (Q:=Q) (rest:=ops.toList.drop k) (fun A h=>h) _ a w hI h
 rwa [List.take_append_drop]at this
theorem ln {o:Oper} {tmps:Array Value} {g:Nat} {e b:Bool} (hg:o.guard=some (g,e)) (hy:yielded ops tmps g=some b):Region.wanted o (yielded ops tmps)=(b==e):=by
 unfold Region.wanted;rw[hg];show(yielded ops tmps g==some e)=_
 rw[hy]
 cases b <;> cases e <;> rfl
def gv (b e:Bool) (v:Value):Value:=if b=e then v else undef
@[simp] theorem i9 {b e:Bool} {v:Value} (h:b=e):gv b e v=v:=if_pos h
theorem ck {bV:Act->Prop} {o:Oper} {rest:List Oper} {A:Act} {g:Nat} {e b:Bool} {v:Value} (hg:o.guard=some (g,e)) (hy:yielded ops A.tmps g=some b)
  (h:b=e->∀W,Inv W->bN P Inv o A W v) (hr:ey P ops Inv bV rest (A.put o.dst (gv b e v))):ey P ops Inv bV (o::rest) A:=by
 refine⟨_,fun W hI=>?_,hr⟩
 rw[ln hg hy]
 by_cases jI:b=e
 ·rw[i9 jI];exact .inl ⟨by simp[jI],h jI W hI⟩
 ·rw[show gv b e v=undef from if_neg jI];exact .inr ⟨by simpa using jI,rfl⟩
theorem qE {bV:Act->Prop} {o:Oper} {rest:List Oper} {A:Act} {g:Nat} {e b:Bool} {v:Value} (hg:o.guard=some (g,e)) (hy:yielded ops A.tmps g=some b)
  (h:b=e->∀W,Inv W->(execOp A.eval o).run P W=.ok (.value v) W) (hr:ey P ops Inv bV rest (A.put o.dst (gv b e v))):ey P ops Inv bV (o::rest) A:=
 ck hg hy (fun hb W hI=>by unfold bN;rw[h hb W hI];exact⟨rfl,hI⟩) hr
theorem kA {bV:Act->Prop} {o:Oper} {rest:List Oper} {A:Act} {g:Nat} {e b:Bool} {v:Value} (hg:o.guard=some (g,e)) (hy:yielded ops A.tmps g=some b) (hr:ey P ops Inv bV rest (A.put o.dst (gv b e v))) (h:b=e->∀W,Inv W->(execOp A.eval o).run P W=.ok (.value v) W:=by intro hb;intro W hW;go_simp;with_reducible rfl):ey P ops Inv bV (o::rest) A:=qE hg hy h hr
theorem pY {o:Oper} {tmps:Array Value} {g:Nat} {e' b e x:Bool} (hg:o.guard=some (g,e')) (hy:((ops[g]?).bind (·.dst)).bind (tmps[·]?)=some (gv b e (.bool x))):Region.wanted o (yielded ops tmps)=((b==e)&&(x==e')):=by
 unfold Region.wanted;rw[hg];show(yielded ops tmps g==some e')=_
 unfold yielded;rw[hy]
 by_cases jI:b=e
 ·rw[i9 jI];subst jI
  cases x <;> cases e' <;> simp
 ·rw[show gv b e (.bool x)=undef from if_neg jI]
  have:(b==e)=false:=by simpa using jI
  rw[this];rfl
theorem yg {bV:Act->Prop} {o:Oper} {rest:List Oper} {A:Act} {g:Nat} {e' b e x:Bool} {v:Value} (hg:o.guard=some (g,e')) (hy:((ops[g]?).bind (·.dst)).bind (A.tmps[·]?)=some (gv b e (.bool x)))
  (h:b=e->x=e'->∀W,Inv W->bN P Inv o A W v) (hr:ey P ops Inv bV rest (A.put o.dst (gv ((b==e)&&(x==e')) true v))):ey P ops Inv bV (o::rest) A:=by
 refine⟨_,fun W hI=>?_,hr⟩
 rw[pY hg hy]
 by_cases jI:((b==e)&&(x==e'))=true
 ·rw[i9 jI];have OL:=jI;rw[Bool.and_eq_true,beq_iff_eq,beq_iff_eq]at jI;exact .inl ⟨OL,h jI.1 jI.2 W hI⟩
 ·rw[show gv _ true v=undef from if_neg jI];exact .inr ⟨by simpa using jI,rfl⟩
theorem ou {bV:Act->Prop} {o:Oper} {rest:List Oper} {A:Act} {g:Nat} {e' b e x:Bool} {v:Value} (hg:o.guard=some (g,e')) (hy:((ops[g]?).bind (·.dst)).bind (A.tmps[·]?)=some (gv b e (.bool x)))
  (h:b=e->x=e'->∀W,Inv W->(execOp A.eval o).run P W=.ok (.value v) W) (hr:ey P ops Inv bV rest (A.put o.dst (gv ((b==e)&&(x==e')) true v))):ey P ops Inv bV (o::rest) A:=
 yg hg hy (fun hb hx W hI=>by unfold bN;rw[h hb hx W hI];exact⟨rfl,hI⟩) hr
theorem qF {bV:Act->Prop} {d:Option Tmp} {ty:TypeId} {bv:String} {af:Array Edge} {c t:Operand} {rest:List Oper} {A:Act} {g:Nat} {e b x y:Bool} (hy:yielded ops A.tmps g=some b) (hc:A.eval c=gv b e (.bool x)) (hx:A.eval t=gv ((b==e)&&(x==true)) true (.bool y))
  (hr:ey P ops Inv bV rest (A.put d (gv b e (.bool (x&&y))))):ey P ops Inv bV (⟨d,.pick c t (.const (.bool false)),ty,bv,af,some (g,e)⟩::rest) A:=by
 refine qE (v:=.bool (x&&y)) rfl hy (fun hb W hW=>?_) hr
 have hk:A.eval (.const (.bool false))=.bool false:=rfl;clear hr;rw[i9 hb]at hc;subst hb
 generalize A.eval=ev at hc hx hk ⊢
 cases x
 ·simp[execOp,hc,hk,go_sem]
 ·rw[i9 (by simp)]at hx;simp[execOp,hc,hx,hk,go_sem]
theorem mf {bV:Act->Prop} {o:Oper} {rest:List Oper} {A:Act} {g:Nat} {e b:Bool} (hg:o.guard=some (g,e)) (hy:yielded ops A.tmps g=some b)
  (h:(b==e)=false) (hr:ey P ops Inv bV rest (A.put o.dst undef)):ey P ops Inv bV (o::rest) A:=
 qC (by rw[ln hg hy];exact h) hr
theorem dh {bV:Act->Prop} {d:Option Tmp} {ty:TypeId} {bv:String} {af:Array Edge} {c x:Operand} {rest:List Oper} {A:Act} {b y:Bool} (hc:A.eval c=.bool b) (hx:A.eval x=gv b false (.bool y))
  (hr:ey P ops Inv bV rest (A.put d (.bool (b||y)))):ey P ops Inv bV (⟨d,.pick c (.const (.bool true)) x,ty,bv,af,none⟩::rest) A:=by
 refine ot (v:=.bool (b||y)) rfl (fun W hW=>?_) hr
 have hk:A.eval (.const (.bool true))=.bool true:=rfl;clear hr
 generalize A.eval=ev at hc hx hk ⊢
 cases b
 ·rw[i9 rfl]at hx;simp[execOp,hc,hx,hk,go_sem]
 ·simp[execOp,hc,hk,go_sem]
theorem eH {bV:Act->Prop} {d:Option Tmp} {ty:TypeId} {bv:String} {af:Array Edge} {c x:Operand} {rest:List Oper} {A:Act} {b y:Bool} (hc:A.eval c=.bool b) (hx:A.eval x=gv b true (.bool y))
  (hr:ey P ops Inv bV rest (A.put d (.bool (b&&y)))):ey P ops Inv bV (⟨d,.pick c x (.const (.bool false)),ty,bv,af,none⟩::rest) A:=by
 refine ot (v:=.bool (b&&y)) rfl (fun W hW=>?_) hr
 have hk:A.eval (.const (.bool false))=.bool false:=rfl;clear hr
 generalize A.eval=ev at hc hx hk ⊢
 cases b
 ·simp[execOp,hc,hk,go_sem]
 ·rw[i9 rfl]at hx;simp[execOp,hc,hx,hk,go_sem]
end
@[simp] theorem ab (w:World):aa w w:=Below.refl _ _
@[simp] theorem ae {w0 W:World} (o:Obj) (h:aa w0 W):aa w0 (W.alloc o):=Below.alloc h h.size o
@[simp] theorem ah {w0 W:World} (h:aa w0 W):aa w0 W.drew:=Below.drew h
theorem E8 {w W:World} (h:Below w.heap.size w W):aa w W:=h
theorem aa.below {w W:World} (h:aa w W):Below w.heap.size w W:=h
theorem aa.after {a b c:World} (h:aa a b) (h':aa b c):aa a c:=aa.trans h h'
theorem aa.cell {a b:World} (h:aa a b) {p:Addr} {v:Value} (hc:a.cell? p=some v):b.cell? p=some v:=bc h hc
theorem ak {w0 w1:World} {p:Addr} {v:Value} (f:∀W,aa w0 W->W.cell? p=some v) (h:aa w0 w1):∀W,aa w1 W->W.cell? p=some v:=fun W hW=>f W (h.after hW)
theorem ad {w0:World} {p:Addr} {v:Value} (h:w0.cell? p=some v):∀W,aa w0 W->W.cell? p=some v:=fun _ hW=>bc hW h
section
variable {P : Program} {ops : Array Oper}
def ic (P:Program) (ops:Array Oper) (w0:World) (bV:Act->Prop):List Oper->Act->Prop
 | [],A=>bV A
 | o::rest,A=>∃v,(Region.wanted o (yielded ops A.tmps)=true/\∀W,aa w0 W->(execOp A.eval o).run P W=.ok (.value v) W)/\ic P ops w0 bV rest (A.put o.dst v)
theorem ek {w0:World} {bV:Act->Prop} {o:Oper} {rest:List Oper} {A:Act} {v:Value} (hw:Region.wanted o (yielded ops A.tmps)=true) (h:∀W,aa w0 W->(execOp A.eval o).run P W=.ok (.value v) W)
  (hr:ic P ops w0 bV rest (A.put o.dst v)):ic P ops w0 bV (o::rest) A:=⟨v,⟨hw,h⟩,hr⟩
theorem lq {w0:World} {bV:Act->Prop} (l:List Oper):∀(A:Act),ic P ops w0 bV l A ->
  ∃(aae:Nat->Value) (F:Nat->Act),F 0=A/\bV (F l.length)/\∀i o,l[i]?=some o->(Region.wanted o (yielded ops (F i).tmps)=true/\∀W,aa w0 W->(execOp (F i).eval o).run P W=.ok (.value (aae i)) W)/\F (i+1)=(F i).put o.dst (aae i):=by
 induction l with
 | nil=>intro A h;exact⟨fun _=>undef,fun _=>A,rfl,h,fun i o h=>by simp at h⟩
 | cons o l ih=>
  intro A h;obtain⟨v,hs,hf⟩:=h;obtain⟨aae,F,h0,fM,ib⟩:=ih _ hf;refine⟨fun i=>match i with | 0=>v | i+1=>aae i,fun i=>match i with | 0=>A | i+1=>F i,rfl,fM,?_⟩
  intro i o' hi
  cases i with
  | zero=>simp at hi;subst hi;exact⟨hs,h0⟩
  | succ i=>exact ib i o' (by simpa using hi)
theorem aA.aae {a a':Act} {v v':Nat->Value} {D:Nat->Prop} (h:aA a ops v D a') (e:∀j,D j->v j=v' j):aA a ops v' D a':=
 ⟨h.defers,h.size,fun j o t hj ho hd hl=>by rw[<- e j hj];exact h.on j o t hj ho hd hl,h.off⟩
theorem aA.same {a a':Act} {v:Nat->Value} {D E:Nat->Prop} (h:aA a ops v D a') (e:∀j,D j↔E j):aA a ops v E a':=by
 have:D=E:=funext fun j=>propext (e j)
 rw[<- this];exact h
def E2 (W:World) (T:TypeId) (b:Nat) (x y:Int):Prop:=W.heap[b]?=some (.cells #[.int .i64 x,.int .i64 y] T)
end
section
variable {P : Program} {ops : Array Oper}
def ov (P:Program) (R:World->Value->Prop) (o:Oper) (A:Act) (W:World):Prop:=
 match (execOp A.eval o).run P W with
 | .ok (.value u) W'=>R W' u/\aa W W'
 | .ok (.enter f args) W'=>Calls P f args W' fun e kc=>∃u,e=.returned u/\R kc u/\aa W kc
 | _=>False
theorem dE {o:Oper} {a' A:Act} (Gg:∀t∈o.looksAt ops,a'.tmps[t]?=A.tmps[t]?) (V8:∀cs b,o.op ≠ .select cs b):execOp a'.eval o=execOp A.eval o/\Region.wanted o (yielded ops a'.tmps)=Region.wanted o (yielded ops A.tmps):=by
 refine⟨execOp_congr o V8 (fun x hx=>?_),?_⟩
 ·cases x with
  | tmp t=>
   have:=Gg t (List.mem_append_left _ (List.mem_filterMap.2 ⟨.tmp t,by simpa using hx,rfl⟩))
   simp[Act.eval,this]
  | _=>rfl
 ·unfold Region.wanted
  cases hg:o.guard with
  | none=>rfl
  | some gw=>
   obtain⟨g,OJ⟩:=gw
   have:yielded ops a'.tmps g=yielded ops A.tmps g:=by
    unfold yielded
    cases ht:(ops[g]?).bind (·.dst) with
    | none=>rfl
    | some t=>
     have:=Gg t (by simp[Oper.looksAt,hg,ht])
     simp[this]
   simp only[this]
theorem aA.aaj {a a':Act} {v v':Nat->Value} {D:Nat->Prop} (h:aA a ops v D a') (e:∀j,j<ops.size->D j->v j=v' j):aA a ops v' D a':=
 ⟨h.defers,h.size,fun j o t hj ho hd hl=>by rw[<- e j (Array.getElem?_eq_some_iff.1 ho).1 hj];exact h.on j o t hj ho hd hl,h.off⟩
end
theorem zB {w:World} {ve vi vn:Value} {n:am} (h:aI w ve vi vn n):∃w0 A c A2 c2 A3 c3,ve=.slice A n.ends.length c/\vi=.slice A2 n.ids.length c2/\vn=.slice A3 n.aaa.length c3/\n.ends.length<=c/\c<=2^63-1/\c2<=2^63-1/\c3<=2^63-1/\Hid (∀k es,n.ends[k]?=some es->∃b off u,A=some ⟨b,off,none⟩/\w0.cell? ⟨b,off+k,none⟩=some u/\ol w0 u es)/\Hid (w0=w.alloc (.cells #[.slice A n.ends.length c,.slice A2 n.ids.length c2,.slice A3 n.aaa.length c3] 27))/\Hid (Below w.heap.size w w0)/\Hid (aI w0 (.slice A n.ends.length c) (.slice A2 n.ids.length c2) (.slice A3 n.aaa.length c3) n)/\(∀W,aa w0 W->W.cell? ⟨w.heap.size,0,none⟩=some (.slice A n.ends.length c))/\(∀W,aa w0 W->W.cell? ⟨w.heap.size,1,none⟩=some (.slice A2 n.ids.length c2))/\∀W,aa w0 W->W.cell? ⟨w.heap.size,2,none⟩=some (.slice A3 n.aaa.length c3):=by
 obtain⟨w0,au⟩:∃w0,w0=w.alloc (.cells #[ve,vi,vn] 27):=⟨_,rfl⟩
 have bO:Below w.heap.size w w0:=by rw[au];exact((Below.refl _ _).alloc (by simp) _)
 have H:=h.aab bO;obtain⟨h1,h2,h3⟩:=h.aab bO;obtain⟨A,c,rfl,er,hm,hA⟩:=h1;obtain⟨A2,c2,rfl,_,et,_⟩:=h2;obtain⟨A3,c3,rfl,_,fG,_⟩:=h3;unfold maxLen at hm et fG
 exact⟨w0,A,c,A2,c2,A3,c3,rfl,rfl,rfl,er,hm,et,fG,hA,au,bO,H,ad (by rw[au];simp),ad (by rw[au];simp),ad (by rw[au];simp)⟩
theorem cm {k:Nat} {p:Nat->Bool}:(List.range (k+1)).all p=((List.range k).all p&&p k):=by rw[List.range_succ,List.all_append];simp
theorem aO {n k:Nat} {p:Nat->Bool} (hk:k<n) (h:p k=false):(List.range n).all p=false:=by
 rw[List.all_eq_false];exact⟨k,List.mem_range.2 hk,by simp[h]⟩
def lu (lo hi:Int) (xs:List Int):Bool:=(List.range xs.length).all fun i=>dW lo hi (xs.getD i 0)&&(i==0||decide (xs.getD (i-1) 0<xs.getD i 0))
theorem ag {α:Type} {xs:List α} {k:Nat} {x d:α} (h:xs[k]?=some x):xs.getD k d=x:=by simp[h]
theorem ow (v:Value) (xs:List Int) (lo hi:Int) (w:World) (h:aG w v xs):
  Calls Tryz.prog 118 #[v,.int .i64 lo,.int .i64 hi] w fun e w'=>e=.returned (.bool (lu lo hi xs))/\w=w':=by
 obtain⟨A,c,rfl,er,hm,hA⟩:=h;unfold maxLen at hm;have HA:=zh hA;clear hA
 go_enter Tryz.func118,Tryz.ntmps118
 go_wp2
 go_loop [11] (fun i=>∃k:Nat,k<=xs.length/\i=.int .i64 k/\((List.range k).all fun i=>dW lo hi (xs.getD i 0)&&(i==0||decide (xs.getD (i-1) 0<xs.getD i 0)))=true) (fun i=>xs.length-(intOf i).toNat)
 case atStart=>exact⟨0,Nat.zero_le _,rfl,rfl⟩
 case round=>
  obtain⟨k,hk,rfl,bF⟩:=hrel;have fF:=zh bF;clear bF
  by_cases aH:k<xs.length
  ·obtain⟨x,hx⟩:=ax xs k aH;obtain⟨b,off,rfl,bW⟩:=HA.out k x hx;have Hx:=zh hx;cases hb:dW lo hi x
   ·have Hb:=zh hb;clear hx
    go_wp2_with (go_at_call 52;refine(cC _ _ _ _).mono ?_;rintro e w' ⟨rfl,rfl⟩)
    go_ret
    exact⟨az (aO aH (by rw[ag Hx.out,Hb.out];rfl)),rfl⟩
   ·have Hb:=zh hb
    by_cases IV:k=0
    ·subst IV;simp only[Nat.add_zero]at bW;clear hx
     go_wp2_with (go_at_call 52;refine(cC _ _ _ _).mono ?_;rintro e w' ⟨rfl,rfl⟩)
     go_round
     case rel=>exact⟨0+1,by omega,by go_num,by rw[cm,fF.out,ag Hx.out,Hb.out];rfl⟩
     case measure=>simp[intOf];omega
    ·obtain⟨y,hy⟩:=ax xs (k-1) (by omega);obtain⟨b',ru,he,OM⟩:=HA.out (k-1) y hy
     injection he with he
     injection he with e1 e2
     subst e1 e2;have Hy:=zh hy;have ld:0<k:=by omega
     cases IW:decide (x<=y)
     all_goals
      have Hyx:=zh IW
     ·have hn:¬x<=y:=by simpa using IW
      clear hx hy IW
      go_wp2_with (go_at_call 52;refine(cC _ _ _ _).mono ?_;rintro e w' ⟨rfl,rfl⟩)
      go_round
      case rel=>exact⟨k+1,by omega,by go_num,by rw[cm,fF.out,ag Hx.out,ag Hy.out,Hb.out];simp;omega⟩
      case measure=>simp[intOf];omega
     ·have hn:x<=y:=by simpa using IW
      clear hx hy IW
      go_wp2_with (go_at_call 52;refine(cC _ _ _ _).mono ?_;rintro e w' ⟨rfl,rfl⟩)
      go_ret
      exact⟨az (aO aH (by rw[ag Hx.out,ag Hy.out,Hb.out];simp;omega)),rfl⟩
  ·obtain rfl:k=xs.length:=by omega
   go_wp2;go_ret;exact⟨cB fF.out,rfl⟩
def pZ (ids:List Int) (nodes:Int):Bool:=ids.isEmpty||((ids.length:Int)==nodes&&lu 1 999999 (ids.mergeSort fun x y=>decide (x<=y)))
theorem ox {w w1 w2:World} {v:Value} {xs:List Int} (h:Below w.heap.size w w1) (ho:Own w1 w.heap.size v xs) (hg:w1.grownBy w2 v.ownBlock):Below w.heap.size w w2:=
 h.grown hg h.size (fun k hk=>(World.ownsRow.lt ho k hk).1)
theorem mg (v:Value) (ids:List Int) (nodes:Int) (w:World) (h:aG w v ids) (hl:ids.length<=17592186044416):
  Calls Tryz.prog 71 #[v,.int .i64 nodes] w fun e w'=>e=.returned (.bool (pZ ids nodes))/\Below w.heap.size w w':=by
 have H:=zh h;obtain⟨A,c,rfl,er,hm,hA⟩:=h;clear hA;unfold maxLen at hm
 by_cases h0:ids.length=0
 ·obtain rfl:ids=[]:=List.eq_nil_of_length_eq_zero h0
  go_enter Tryz.func71,Tryz.ntmps71
  go_wp2;go_ret;exact⟨rfl,Below.refl _ _⟩
 ·have Th:(((ids.length:Nat):Int)==0)=false:=by simp;intro h;simp[h]at h0
  have JQ:ids.isEmpty=false:=by cases ids <;> simp_all
  have Hr:=zh (show pZ ids nodes=((ids.length:Int)==nodes&&lu 1 999999 (ids.mergeSort fun x y=>decide (x<=y)))by simp[pZ,JQ])
  clear JQ h0;cases hn:((ids.length:Int)==nodes)
  all_goals
   have Hn:=zh hn
   go_enter Tryz.func71,Tryz.ntmps71
   go_wp2_with fail;refine(qz _ ids _ H.out hl).mono ?_;rintro e w1 ⟨u,rfl,ho,hb⟩;have Ho:=zh ho;have Hb:=zh hb;clear ho hb;go_wp2_with fail;refine(lm _ ids _ _ Ho.out hl).mono ?_;rintro e w2 ⟨rfl,cy,hg⟩;have lv:=zh cy;have pQ:=zh (ox Hb.out Ho.out hg);clear cy hg;go_wp2_with fail
  ·go_ret
   exact⟨az (by rw[Hr.out,Hn.out];rfl),pQ.out⟩
  ·refine(ow _ _ _ _ _ lv.out.ints).mono ?_;rintro e w3 ⟨rfl,rfl⟩;go_wp2;go_ret
   exact⟨b7 (by rw[Hr.out,Hn.out];rfl),pQ.out⟩
def ie (aaa:List Int) (nodes:Int):Bool:=(aaa.length:Int)==nodes&&aaa.all (dW 0 9)
theorem lw (v:Value) (xs:List Int) (nodes:Int) (w:World) (h:aG w v xs):
  Calls Tryz.prog 72 #[v,.int .i64 nodes] w fun e w'=>e=.returned (.bool (ie xs nodes))/\Below w.heap.size w w':=by
 have H:=zh h;obtain⟨A,c,rfl,er,hm,hA⟩:=h;clear hA;unfold maxLen at hm;unfold ie;cases hn:((xs.length:Int)==nodes)
 all_goals
  go_enter Tryz.func72,Tryz.ntmps72
  go_wp2_with fail
 ·go_ret;exact⟨rfl,Below.refl _ _⟩
 ·refine(kz _ xs _ _ _ H.out).mono ?_;rintro e w1 ⟨rfl,hb⟩;have Hb:=zh hb;clear hb;go_wp2;go_ret;exact⟨rfl,Hb.out⟩
theorem mP (ve vi vn:Value) (bX:List (List (Int×Int))) (v:Int) (w:World) (h:jt w ve bX):
  Calls Tryz.prog 119 #[.agg #[ve,vi,vn],.int .i64 v] w fun e w'=>e=.returned (.bool (dW 0 ((bX.length:Int)-1) v))/\Below w.heap.size w w':=by
 obtain⟨A,c,rfl,er,hm,hA⟩:=h;clear hA;unfold maxLen at hm
 go_enter Tryz.func119,Tryz.ntmps119
 go_wp2_with (go_at_call 52;refine(cC _ _ _ _).mono ?_;rintro e w' ⟨rfl,rfl⟩)
 go_ret;exact⟨rfl,aj _ _⟩
def aW (bX:List (List (Int×Int))) (v i:Int):Bool:=dW 0 ((bX.length:Int)-1) v&&dW 0 (((bX.getD v.toNat []).length:Int)-1) i
theorem mS (ve vi vn:Value) (bX:List (List (Int×Int))) (v i:Int) (w:World) (h:jt w ve bX):
  Calls Tryz.prog 73 #[.agg #[ve,vi,vn],.int .i64 v,.int .i64 i] w fun e w'=>e=.returned (.bool (aW bX v i))/\Below w.heap.size w w':=by
 have bO:Below w.heap.size w (w.alloc (.cells #[ve,vi,vn] 27)):=aj _ _;have H:=zh (h.aab bO);obtain⟨A,c,rfl,er,hm,hA⟩:=h;unfold maxLen at hm;have aY:=zh bO;clear bO;unfold aW;cases hn:dW 0 ((bX.length:Int)-1) v
 ·clear hA
  go_enter Tryz.func73,Tryz.ntmps73
  go_wp2_with fail;refine(mP _ _ _ bX v _ H.out).mono ?_;rintro e w1 ⟨rfl,aJ⟩;have fL:=zh (aY.out.trans (aJ.mono (by simp)));clear aJ;go_wp2;go_ret;exact⟨rfl,fL.out⟩
 ·obtain⟨Nc,IX⟩:=aC.1 hn;obtain⟨k,rfl⟩:=Int.eq_ofNat_of_zero_le Nc;have hk:k<bX.length:=by omega
  obtain⟨es,ba⟩:=ax bX k hk;obtain⟨b,off,u,rfl,bS,hr⟩:=hA k es ba;obtain⟨A1,z1,rfl,cj,cX,_⟩:=hr;unfold maxLen at cX;have hg:=zh (show(bX.getD ((k:Int)).toNat [])=es by rw[Int.toNat_natCast,ag ba])
  rw[hg.out];have ke:=bc aY.out bS;clear hA ba bS
  go_enter Tryz.func73,Tryz.ntmps73
  go_wp2_with fail;refine(mP _ _ _ bX k _ H.out).mono ?_;rintro e w1 ⟨rfl,aJ⟩;have sA:=bc aJ ke;have hc4:w1.cell? ⟨w.heap.size,0,none⟩=some (.slice (some ⟨b,off,none⟩) bX.length c):=bc aJ (by simp);have fL:=zh (aY.out.trans (aJ.mono (by simp)));clear aJ ke
  go_wp2_with (go_at_call 52;refine(cC _ _ _ _).mono ?_;rintro e w' ⟨rfl,rfl⟩)
  go_ret;exact⟨rfl,fL.out⟩
def fN (bX:List (List (Int×Int))) (v i:Nat) (e:Int×Int):Bool:=aW bX e.1 e.2&&sw ((bX.getD e.1.toNat []).getD e.2.toNat (0,0)) ((v:Int),(i:Int))
def dP (bX:List (List (Int×Int))) (v:Nat) (es:List (Int×Int)):Bool:=decide (es.length<=6)&&(List.range es.length).all fun i=>fN bX v i (es.getD i (0,0))
def aw (n:am):Bool:=dW 1 40 n.ends.length&&pZ n.ids n.ends.length&&ie n.aaa n.ends.length&&(List.range n.ends.length).all fun v=>dP n.ends v (n.ends.getD v [])
theorem dK (ve vi vn:Value) (n:am) (w:World) (h:aI w ve vi vn n) (hl:n.ids.length<=17592186044416):
  Calls Tryz.prog 30 #[.agg #[ve,vi,vn]] w fun e w'=>e=.returned (.bool (aw n))/\Below w.heap.size w w':=by
 have bO:Below w.heap.size w (w.alloc (.cells #[ve,vi,vn] 27)):=aj _ _;have H:=zh (h.aab bO);obtain⟨h1,h2,h3⟩:=h;obtain⟨A,c,rfl,er,hm,hA⟩:=h1;obtain⟨A2,c2,rfl,_,et,_⟩:=h2;obtain⟨A3,c3,rfl,_,fG,_⟩:=h3;unfold maxLen at hm et fG;have aY:=zh bO;have HA:=zh hA;clear bO hA;cases t1:dW 1 40 (n.ends.length:Int)
 ·have hr:=zh (show aw n=false by simp[aw,t1])
  go_enter Tryz.func30,Tryz.ntmps30
  go_wp2_with (go_at_call 52;refine(cC _ _ _ _).mono ?_;rintro e w' ⟨rfl,rfl⟩)
  go_ret;exact⟨az hr.out,aY.out⟩
 ·cases t2:pZ n.ids n.ends.length
  ·have hr:=zh (show aw n=false by simp[aw,t2])
   go_enter Tryz.func30,Tryz.ntmps30
   go_wp2_with (go_at_call 52;refine(cC _ _ _ _).mono ?_;rintro e w' ⟨rfl,rfl⟩)
   refine(mg _ n.ids _ _ H.out.2.1 hl).mono ?_;rintro e w1 ⟨rfl,aJ⟩;have fL:=zh (aY.out.trans (aJ.mono (by simp)));clear aJ;go_wp2;go_ret;exact⟨az hr.out,fL.out⟩
  ·cases t3:ie n.aaa n.ends.length
   ·have hr:=zh (show aw n=false by simp[aw,t3])
    go_enter Tryz.func30,Tryz.ntmps30
    go_wp2_with (go_at_call 52;refine(cC _ _ _ _).mono ?_;rintro e w' ⟨rfl,rfl⟩)
    refine(mg _ n.ids _ _ H.out.2.1 hl).mono ?_;rintro e w1 ⟨rfl,aJ⟩;have fL:=zh (aY.out.trans (aJ.mono (by simp)));have H1:=zh (H.out.aab aJ);have d0:w1.cell? ⟨w.heap.size,0,none⟩=some (.slice A n.ends.length c):=bc aJ (by simp);have d2:w1.cell? ⟨w.heap.size,2,none⟩=some (.slice A3 n.aaa.length c3):=bc aJ (by simp);clear aJ;go_wp2_with fail;refine(lw _ n.aaa _ _ H1.out.2.2).mono ?_;rintro e w2 ⟨rfl,hb2⟩;have pQ:=zh (fL.out.trans (hb2.mono fL.out.size));clear hb2;go_wp2;go_ret;exact⟨az hr.out,pQ.out⟩
   ·have hr:=zh (show aw n=(List.range n.ends.length).all fun v=>dP n.ends v (n.ends.getD v [])by simp[aw,t1,t2,t3])
    go_enter Tryz.func30,Tryz.ntmps30
    go_wp2_with (go_at_call 52;refine(cC _ _ _ _).mono ?_;rintro e w' ⟨rfl,rfl⟩)
    refine(mg _ n.ids _ _ H.out.2.1 hl).mono ?_;rintro e w1 ⟨rfl,aJ⟩;have fL:=zh (aY.out.trans (aJ.mono (by simp)));have H1:=zh (H.out.aab aJ);have d0:w1.cell? ⟨w.heap.size,0,none⟩=some (.slice A n.ends.length c):=bc aJ (by simp);have d1:w1.cell? ⟨w.heap.size,1,none⟩=some (.slice A2 n.ids.length c2):=bc aJ (by simp);have d2:w1.cell? ⟨w.heap.size,2,none⟩=some (.slice A3 n.aaa.length c3):=bc aJ (by simp);clear aJ;go_wp2_with fail;refine(lw _ n.aaa _ _ H1.out.2.2).mono ?_;rintro e w2 ⟨rfl,hb2⟩;have pQ:=zh (fL.out.trans (hb2.mono fL.out.size));have H2:=zh (H1.out.aab hb2);have e0:=bc hb2 d0;have e1:=bc hb2 d1;have e2:=bc hb2 d2;have dM:w.heap.size<w2.heap.size:=World.block_lt_of_cell? w2 _ e0;have E:=zh (And.intro e0 (And.intro e1 e2));clear hb2 d0 d1 d2 H H1;go_wp2
    go_loopw [33] (fun i wr=>∃k:Nat,k<=n.ends.length/\i=.int .i64 k/\((List.range k).all fun v=>dP n.ends v (n.ends.getD v []))=true/\Below w2.heap.size w2 wr) (fun i _=>n.ends.length-(intOf i).toNat)
    case atStart=>exact⟨0,Nat.zero_le _,rfl,rfl,Below.refl _ _⟩
    case round=>
     obtain⟨k,hk,rfl,bF,zV⟩:=hrel;have fF:=zh bF;have E9:=zh zV;clear bF zV
     by_cases aH:k<n.ends.length
     ·obtain⟨es,ba⟩:=ax n.ends k aH;obtain⟨b,off,u,rfl,bS,bT⟩:=HA.out k es ba;have Gh:=pQ.out.trans (E9.out.mono pQ.out.size);have ke:=bc Gh bS;have ir:=zh (bT.aab Gh);obtain⟨A1,z1,rfl,cj,cX,gn⟩:=bT;have yh:=zh gn;unfold maxLen at cX;have kB:=zh ba;have ON:=zh Gh;clear ba Gh bS gn
      by_cases h6:es.length<=6
      ·go_wp2;obtain⟨wo,rfl⟩:∃wo:World,wo=wr:=⟨_,rfl⟩
       go_loopw [43] (fun i wq=>∃j:Nat,j<=es.length/\i=.int .i64 j/\((List.range j).all fun i=>fN n.ends k i (es.getD i (0,0)))=true/\Below wo.heap.size wo wq) (fun i _=>es.length-(intOf i).toNat)
       case atStart=>exact⟨0,Nat.zero_le _,rfl,rfl,Below.refl _ _⟩
       case round=>
        obtain⟨j,hj,rfl,sB,C1⟩:=hrel;have sC:=zh sB;have Nd:=zh C1;have JR:=ON.out.trans (C1.mono ON.out.size);have C3:=E9.out.trans (C1.mono E9.out.size);clear sB C1
        by_cases mh:j<es.length
        ·obtain⟨⟨x1,x2⟩,he⟩:=ax es j mh;obtain⟨b1,sD,rfl,mO,gm⟩:=yh.out j _ he;have q1:=bc JR mO;have q2:=bc JR gm;obtain⟨n0,n1,n2⟩:=E.out;have m0:=bc C3 n0;have m1:=bc C3 n1;have m2:=bc C3 n2;have V9:w.heap.size<wr.heap.size:=World.block_lt_of_cell? wr _ m0;have He:=zh he;have Dt:=zh JR;have HN:=zh (H2.out.1.aab C3);clear he JR C3 n0 n1 n2 mO gm ke;cases hp:aW n.ends x1 x2
         ·have Hp:=zh hp;go_wp2;obtain⟨w0,au⟩:∃w0,(wr.alloc (Obj.cells #[Value.int IntKind.i64 x1,Value.int IntKind.i64 x2] 36))=w0:=⟨_,rfl⟩
          rw[au]
          have se:Below wr.heap.size wr w0:=by rw[<- au];exact aj _ _
          have hi0:∀W,aa w0 W->W.cell? ⟨w.heap.size,0,none⟩=some (.slice (some ⟨b,off,none⟩) n.ends.length c):=fun W hW=>bc hW (bc se m0)
          have kM:∀W,aa w0 W->W.cell? ⟨w.heap.size,1,none⟩=some (.slice A2 n.ids.length c2):=fun W hW=>bc hW (bc se m1)
          have oy:∀W,aa w0 W->W.cell? ⟨w.heap.size,2,none⟩=some (.slice A3 n.aaa.length c3):=fun W hW=>bc hW (bc se m2)
          have OO:∀W,aa w0 W->W.cell? ⟨wr.heap.size,0,none⟩=some (.int .i64 x1):=fun W hW=>bc hW (by rw[<- au];simp)
          have OP:∀W,aa w0 W->W.cell? ⟨wr.heap.size,1,none⟩=some (.int .i64 x2):=fun W hW=>bc hW (by rw[<- au];simp)
          have OQ:=zh (HN.out.aab se);have Gi:=zh se;clear au se m0 m1 m2;refine aq 23 (aa w0) (by kernel_rfl) (by kernel_rfl) (by simp) (aa.drew w0) ?_;simp only[zT]
          iterate 5 (refine cY rfl ?_;simp only[zA])
          refine ej (.bool false) rfl (fun W hW=>?_) ?_
          ·unfold bN
           go_simp
           refine(mS _ _ _ n.ends x1 x2 W (OQ.out.aab hW)).mono ?_;rintro e W' ⟨rfl,aZ⟩;exact⟨by rw[Hp.out],hW.trans aZ⟩
          simp only[zA]
          iterate 2 (refine cY rfl ?_;simp only[zA])
          iterate 14 (refine qC rfl ?_;simp only[zA])
          iterate 1 (refine cY rfl ?_;simp only[zA])
          intro W hW;have HW:=zh hW;clear hW;go_wp2;go_ret
          exact⟨az (by rw[hr.out];refine aO aH ?_;rw[ag kB.out];simp only[dP];rw[Bool.and_eq_false_iff];exact .inr (aO mh (by rw[ag He.out];simp[fN,Hp.out]))),(Dt.out.trans (Gi.out.mono Dt.out.size)).trans ((show Below w0.heap.size w0 W from HW.out).mono (by have:=Dt.out.size;have:=Gi.out.size;omega))⟩
         ·have Hp:=zh hp;have C4:=hp;unfold aW at C4;rw[Bool.and_eq_true]at C4;obtain⟨p1,p2⟩:=C4;obtain⟨p3,p4⟩:=aC.1 p1;obtain⟨k1,rfl⟩:=Int.eq_ofNat_of_zero_le p3;have ld:k1<n.ends.length:=by omega
          obtain⟨xp,sE⟩:=ax n.ends k1 ld;rw[Int.toNat_natCast,ag sE]at p2;obtain⟨p5,p6⟩:=aC.1 p2;obtain⟨i1,rfl⟩:=Int.eq_ofNat_of_zero_le p5;have kM:i1<xp.length:=by omega
          obtain⟨⟨y1,y2⟩,hy⟩:=ax xp i1 kM;obtain⟨b2,mi,u',pW,sA,zW⟩:=HA.out k1 xp sE
          injection pW with pW
          injection pW with q3 q4
          subst q3 q4;obtain⟨zq,Du,rfl,OR,Gj,uV⟩:=zW;obtain⟨b3,Dv,rfl,JS,E_⟩:=uV i1 _ hy;unfold maxLen at Gj;have Hy:=zh hy;have yi:=zh sE;have g3:=bc Dt.out sA;have g5:=bc Dt.out JS;have g6:=bc Dt.out E_;clear sE hy sA JS E_ uV p1 p2 hp;go_wp2;obtain⟨w0,au⟩:∃w0,(wr.alloc (Obj.cells #[Value.int IntKind.i64 (k1:Int),Value.int IntKind.i64 (i1:Int)] 36))=w0:=⟨_,rfl⟩
          rw[au]
          have se:Below wr.heap.size wr w0:=by rw[<- au];exact aj _ _
          have i0:∀W,aa w0 W->W.cell? ⟨w.heap.size,0,none⟩=some (.slice (some ⟨b,off,none⟩) n.ends.length c):=fun W hW=>bc hW (bc se m0)
          have i1':∀W,aa w0 W->W.cell? ⟨w.heap.size,1,none⟩=some (.slice A2 n.ids.length c2):=fun W hW=>bc hW (bc se m1)
          have i2:∀W,aa w0 W->W.cell? ⟨w.heap.size,2,none⟩=some (.slice A3 n.aaa.length c3):=fun W hW=>bc hW (bc se m2)
          have i3:∀W,aa w0 W->W.cell? ⟨wr.heap.size,0,none⟩=some (.int .i64 (k1:Int)):=fun W hW=>bc hW (by rw[<- au];simp)
          have i4:∀W,aa w0 W->W.cell? ⟨wr.heap.size,1,none⟩=some (.int .i64 (i1:Int)):=fun W hW=>bc hW (by rw[<- au];simp)
          have i5:∀W,aa w0 W->W.cell? ⟨b,off+k1,none⟩=some (.slice (some ⟨b3,Dv,none⟩) xp.length Du):=fun W hW=>bc hW (bc se g3)
          have i6:∀W,aa w0 W->W.cell? ⟨b3,Dv+i1*2,none⟩=some (.int .i64 y1):=fun W hW=>bc hW (bc se g5)
          have i7:∀W,aa w0 W->W.cell? ⟨b3,Dv+i1*2+1,none⟩=some (.int .i64 y2):=fun W hW=>bc hW (bc se g6)
          have OQ:=zh (HN.out.aab se);have Gi:=zh se;clear au se m0 m1 m2 g3 g5 g6;refine aq 23 (aa w0) (by kernel_rfl) (by kernel_rfl) (by simp) (aa.drew w0) ?_;simp only[zT]
          iterate 5 (refine cY rfl ?_;simp only[zA])
          refine ej (.bool true) rfl (fun W hW=>?_) ?_
          ·unfold bN
           go_simp
           refine(mS _ _ _ n.ends k1 i1 W (OQ.out.aab hW)).mono ?_;rintro e W' ⟨rfl,aZ⟩;exact⟨by rw[Hp.out],hW.trans aZ⟩
          simp only[zA]
          iterate 15 (refine cY rfl ?_;simp only[zA])
          refine ej (.bool (!sw (y1,y2) ((k:Int),(j:Int)))) rfl (fun W hW=>?_) ?_
          ·unfold bN
           go_simp
           by_cases f1:y1=(k:Int)
           ·by_cases f2:y2=(j:Int)
            ·simp[f1,f2,sw,hW]
            ·simp[f1,f2,sw,hW]
           ·simp[f1,sw,hW]
          simp only[zA];cases hq:sw (y1,y2) ((k:Int),(j:Int))
          all_goals
           have Hq:=zh hq;clear hq
           iterate 1 (refine cY rfl ?_;simp only[zA])
           intro W hW;have HW:=zh hW
           have V_:=zh ((Dt.out.trans (Gi.out.mono Dt.out.size)).trans ((show Below w0.heap.size w0 W from hW).mono (by have:=Dt.out.size;have:=Gi.out.size;omega)))
           have OS:=zh ((Nd.out.trans (Gi.out.mono Nd.out.size)).trans ((show Below w0.heap.size w0 W from hW).mono (by have:=Nd.out.size;have:=Gi.out.size;omega)))
           clear hW;go_wp2
          ·go_ret
           exact⟨az (by rw[hr.out];refine aO aH ?_;rw[ag kB.out];simp only[dP];rw[Bool.and_eq_false_iff];exact .inr (aO mh (by rw[ag He.out];simp[fN,Hp.out,yi.out,Hy.out,Hq.out]))),V_.out⟩
          ·go_roundw
           case rel=>exact⟨j+1,by omega,by go_num,by rw[cm,sC.out,ag He.out];simp[fN,Hp.out,yi.out,Hy.out,Hq.out],OS.out⟩
           case measure=>simp[intOf];omega
        ·obtain rfl:j=es.length:=by omega
         have OT:=zh C3;clear JR C3;go_wp2;go_roundw
         case rel=>exact⟨k+1,by omega,by go_num,by rw[cm,fF.out,ag kB.out,Bool.true_and];unfold dP;rw[sC.out];simp[h6],OT.out⟩
         case measure=>simp[intOf];omega
      ·go_wp2;go_ret
       exact⟨az (by rw[hr.out];exact aO aH (by rw[ag kB.out];simp[dP,h6])),ON.out⟩
     ·obtain rfl:k=n.ends.length:=by omega
      go_wp2;go_ret
      exact⟨cB (by rw[hr.out];exact fF.out),pQ.out.trans (E9.out.mono pQ.out.size)⟩
end Go.Proofs.YtgjggeapebbcbaaGreat
