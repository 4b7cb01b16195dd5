/- Parts of the proof: walks of functions and plain laws. -/
import Derived.Test.YtgmdpppljkmabaaGreatP0
import Derived.Orders
import Derived.Below
import Derived.Tactics
set_option maxRecDepth 100000
set_option maxHeartbeats 16000000
namespace Go.Proofs.YtgmdpppljkmabaaGreat
open Go Go.RowKit
section
variable {P : Program} {ops : Array Oper} {Inv : World → Prop}
def ab (w0 W:World):Prop:=Below w0.heap.size w0 W
theorem ab.drew (w0:World):ab w0 w0.drew:=(Below.refl _ _).drew
theorem ab.trans {w0 W W':World} (h:ab w0 W) (h':Below W.heap.size W W'):ab w0 W':=Below.trans h (h'.mono h.size)
def da (P:Program) (Inv:World->Prop) (o:Oper) (A:Act) (W:World) (v:Value):Prop:=
 match (execOp A.eval o).run P W with
 | .ok (.value u) W'=>u=v/\Inv W'
 | .ok .skip W'=>undef=v/\Inv W'
 | .ok (.enter f args) W'=>Calls P f args W' fun e lU=>e=.returned v/\Inv lU
 | _=>False
def Db (P:Program) (ops:Array Oper) (Inv:World->Prop) (o:Oper) (A:Act) (v:Value):Prop:=
 ∀W,Inv W->(Region.wanted o (yielded ops A.tmps)=true/\da P Inv o A W v)\/(Region.wanted o (yielded ops A.tmps)=false/\v=undef)
def g8 (P:Program) (ops:Array Oper) (Inv:World->Prop) (dD:Act->Prop):List Oper->Act->Prop
 | [],A=>dD A
 | o::rest,A=>∃v,Db P ops Inv o A v/\g8 P ops Inv dD rest (A.put o.dst v)
def bg (o:Oper):List Nat:=o.after.toList.filterMap fun e=>if Region.binds .any e then some e.on else none
theorem zY {o:Oper} {j:Nat}:j∈bg o↔∃e∈o.after,Region.binds .any e=true/\e.on=j:=by
 unfold bg;rw[List.mem_filterMap];constructor
 ·rintro⟨e,he,h⟩
  split at h
  ·rename_i hb;cases h;exact⟨e,by simpa using he,hb,rfl⟩
  ·cases h
 ·rintro⟨e,he,hb,rfl⟩;exact⟨e,by simpa using he,by simp[hb]⟩
inductive L9 (ops:Array Oper) (j:Nat):Nat->Prop
 | dep {i:Nat} {o:Oper}:ops[i]?=some o->j∈bg o->L9 ops j i
 | step {m i:Nat} {o:Oper}:L9 ops j m->ops[i]?=some o->m∈bg o->L9 ops j i
def Fb (ops:Array Oper) (tbl:List (List Nat)) (i:Nat):List Nat:=
 match ops[i]? with
 | none=>[]
 | some o=>(List.range i).filter fun j=>(bg o).contains j||(bg o).any fun m=>(tbl.getD m []).contains j
def jX (ops:Array Oper):Nat->List (List Nat)
 | 0=>[]
 | n+1=>let t:=jX ops n;t++[Fb ops t n]
theorem zZ (n:Nat):(jX ops n).length=n:=by
 induction n with
 | zero=>rfl
 | succ n ih=>simp[jX,ih]
theorem fU (n:Nat):∀i j,j∈(jX ops n).getD i []->L9 ops j i:=by
 induction n with
 | zero=>intro i j h;simp[jX]at h
 | succ n ih=>
  intro i j h;have hl:=zZ (ops:=ops) n;simp only[jX]at h;rcases Nat.lt_trichotomy i n with hi | hi | hi
  ·rw[zDd,List.getElem?_append_left (by omega),<- zDd]at h;exact ih i j h
  ·subst hi;rw[zDd,List.getElem?_append_right (by omega),hl,Nat.sub_self]at h;simp only[List.getElem?_cons_zero,Option.getD_some,Fb]at h
   cases ho:ops[i]? with
   | none=>simp[ho]at h
   | some o=>
    simp only[ho,List.mem_filter,Bool.or_eq_true,List.any_eq_true,List.contains_iff_mem]at h;rcases h.2 with h | ⟨m,hm,hj⟩
    ·exact .dep ho h
    ·exact .step (ih m j hj) ho hm
  ·rw[zDd,List.getElem?_append_right (by omega),hl,List.getElem?_eq_none (by simp;omega)]at h;simp at h
def p7 (ops:Array Oper) (k:Nat):Bool:=
 Region.noSelect ops &&
 ((List.range ops.size).all fun i=>match ops[i]? with
  | none=>true
  | some o=>((bg o).all fun j=>decide (j<i)) &&
   (decide (k<=i) ||
    (((o.looksAt ops).all fun t=>(List.range k).all fun j=>match ops[j]? with
     | none=>true
     | some oj=>if oj.dst=some t then (bg o).contains j else true) &&
    ((List.range k).all fun j=>match ops[j]? with
     | none=>true
     | some oj=>decide (j=i)||(match o.dst with | none=>true | some d=>oj.dst != some d)))) &&
   (decide (i<k)||((List.range i).all fun j=>((jX ops (i+1)).getD i []).contains j)))
structure Dc (ops:Array Oper) (k:Nat):Prop where
 acA:∀(j:Nat) (o:Oper) cs b,ops[j]?=some o->o.op ≠ .select cs b
 back:∀i o,ops[i]?=some o->∀j∈bg o,j<i
 looks:∀i o,i<k->ops[i]?=some o->∀t∈o.looksAt ops,∀j oj,j<k->ops[j]?=some oj->oj.dst=some t->j∈bg o
 acB:∀i o,i<k->ops[i]?=some o->∀j oj,j<k->ops[j]?=some oj->∀d,o.dst=some d->oj.dst=some d->j=i
 tail:∀i,k<=i->i<ops.size->∀j,j<i->L9 ops j i
theorem nG {k:Nat} (h:p7 ops k=true):Dc ops k:=by
 unfold p7 at h;rw[Bool.and_eq_true,List.all_eq_true]at h;obtain⟨hs,h⟩:=h
 have tG:∀(i:Nat) (o:Oper),ops[i]?=some o->_:=fun i o ho=>by
  have:=h i (List.mem_range.2 (Array.getElem?_eq_some_iff.1 ho).1)
  simp only[ho,Bool.and_eq_true]at this;exact this
 refine⟨fun j o cs b ho=>Region.noSelect_spec hs j o cs b ho,fun i o ho j hj=>?_,fun i o hi ho t ht j oj hj ez hd=>?_,fun i o hi ho j oj hj ez d hd gC=>?_,fun i Zn hi j hj=>?_⟩
 ·have:=(tG i o ho).1.1
  rw[List.all_eq_true]at this;simpa using this j hj
 ·have:=(tG i o ho).1.2
  rw[Bool.or_eq_true]at this;rcases this with h1 | h1
  ·simp at h1;omega
  ·rw[Bool.and_eq_true]at h1;have h2:=List.all_eq_true.1 (List.all_eq_true.1 h1.1 t ht) j (List.mem_range.2 hj);simp only[ez,hd,if_true]at h2;simpa using h2
 ·have:=(tG i o ho).1.2
  rw[Bool.or_eq_true]at this;rcases this with h1 | h1
  ·simp at h1;omega
  ·rw[Bool.and_eq_true]at h1;have h2:=List.all_eq_true.1 h1.2 j (List.mem_range.2 hj);simp only[ez,hd,gC,Bool.or_eq_true,decide_eq_true_eq]at h2;rcases h2 with h2 | h2
   ·exact h2
   ·simp at h2
 ·obtain⟨o,ho⟩:∃o,ops[i]?=some o:=⟨_,Array.getElem?_eq_getElem hi⟩
  have:=(tG i o ho).2
  rw[Bool.or_eq_true]at this;rcases this with h1 | h1
  ·simp at h1;omega
  ·have h2:=List.all_eq_true.1 h1 j (List.mem_range.2 hj);exact fU (i+1) i j (by simpa using h2)
structure aL (a:Act) (ops:Array Oper) (acp:Nat->Value) (D:Nat->Prop) (a':Act):Prop where
 defers:a'.defers=a.defers
 size:a'.tmps.size=a.tmps.size
 on:∀j o t,D j->ops[j]?=some o->o.dst=some t->t<a.tmps.size->a'.tmps[t]?=some (acp j)
 off:∀t,(∀j o,D j->ops[j]?=some o->o.dst≠some t)->a'.tmps[t]?=a.tmps[t]?
theorem aL.start (a:Act) (acp:Nat->Value):aL a ops acp (fun _=>False) a:=⟨rfl,rfl,fun _ _ _ h=>h.elim,fun _ _=>rfl⟩
theorem aL.put {a a':Act} {acp:Nat->Value} {D:Nat->Prop} {i:Nat} {o:Oper} (h:aL a ops acp D a') (ho:ops[i]?=some o) (hd:∀j oj d,D j->ops[j]?=some oj->o.dst=some d->oj.dst≠some d):
  aL a ops acp (fun j=>D j\/j=i) (a'.put o.dst (acp i)):=by
 cases I9:o.dst with
 | none=>
  refine⟨h.defers,h.size,fun j oj t hj ez ht az=>?_,fun t ht=>h.off t (fun j oj hj=>ht j oj (.inl hj))⟩
  rcases hj with hj | rfl
  ·exact h.on j oj t hj ez ht az
  ·rw[ho]at ez;cases ez;rw[I9]at ht;cases ht
 | some d=>
  refine⟨h.defers,by simp[Act.put,h.size],fun j oj t hj ez ht az=>?_,fun t ht=>?_⟩
  ·rcases hj with hj | rfl
   ·have iJ:d≠t:=fun e=>hd j oj d hj ez I9 (by rw[e];exact ht)
    simp only[Act.put];rw[Array.getElem?_setIfInBounds_ne iJ];exact h.on j oj t hj ez ht az
   ·rw[ho]at ez;cases ez;rw[I9]at ht;cases ht
    simp only[Act.put]
    rw[Array.getElem?_setIfInBounds_self_of_lt (by rw[h.size];exact az)]
  ·have iJ:d≠t:=fun e=>ht i o (.inr rfl) ho (by rw[I9,e])
   simp only[Act.put];rw[Array.getElem?_setIfInBounds_ne iJ];exact h.off t (fun j oj hj=>ht j oj (.inl hj))
theorem aL.agree {a a1 a2:Act} {acp:Nat->Value} {D E:Nat->Prop} (h1:aL a ops acp D a1) (h2:aL a ops acp E a2) (t:Tmp)
  (ht:∀j o,(D j\/E j)->ops[j]?=some o->o.dst=some t->D j/\E j):a1.tmps[t]?=a2.tmps[t]?:=by
 rcases Nat.lt_or_ge t a.tmps.size with az | hge
 ·by_cases Zo:∃j o,(D j\/E j)/\ops[j]?=some o/\o.dst=some t
  ·obtain⟨j,o,hj,ho,hd⟩:=Zo;obtain⟨hD,hE⟩:=ht j o hj ho hd;rw[h1.on j o t hD ho hd az,h2.on j o t hE ho hd az]
  ·rw[h1.off t (fun j o hj ho hd=>Zo ⟨j,o,.inl hj,ho,hd⟩),h2.off t (fun j o hj ho hd=>Zo ⟨j,o,.inr hj,ho,hd⟩)]
 ·rw[Array.getElem?_eq_none (by rw[h1.size];exact hge),Array.getElem?_eq_none (by rw[h2.size];exact hge)]
theorem aL.ext {a a1 a2:Act} {acp:Nat->Value} {D E:Nat->Prop} (h1:aL a ops acp D a1) (h2:aL a ops acp E a2) (hDE:∀j,j<ops.size->(D j↔E j)):a1=a2:=by
 have ht:a1.tmps=a2.tmps:=by
  apply Array.ext_getElem?
  intro t;refine h1.agree h2 t (fun j o hj ho _=>?_)
  have:=hDE j (Array.getElem?_eq_some_iff.1 ho).1
  rcases hj with hj | hj
  ·exact⟨hj,this.1 hj⟩
  ·exact⟨this.2 hj,hj⟩
 have hd:a1.defers=a2.defers:=h1.defers.trans h2.defers.symm
 cases a1;cases a2;simp_all
theorem z7 {dD:Act->Prop} (l:List Oper):∀(A:Act),g8 P ops Inv dD l A ->
  ∃(acp:Nat->Value) (F:Nat->Act),F 0=A/\dD (F l.length)/\∀i o,l[i]?=some o->Db P ops Inv o (F i) (acp i)/\F (i+1)=(F i).put o.dst (acp i):=by
 induction l with
 | nil=>intro A h;exact⟨fun _=>undef,fun _=>A,rfl,h,fun i o h=>by simp at h⟩
 | cons o l ih=>
  intro A h;obtain⟨v,hs,hf⟩:=h;obtain⟨acp,F,h0,it,fw⟩:=ih _ hf;refine⟨fun i=>match i with | 0=>v | i+1=>acp i,fun i=>match i with | 0=>A | i+1=>F i,rfl,it,?_⟩
  intro i o' hi
  cases i with
  | zero=>simp at hi;subst hi;exact⟨hs,h0⟩
  | succ i=>exact fw i o' (by simpa using hi)
theorem filter_lt {l:List Nat} {p q:Nat->Bool} (h:∀x,q x=true->p x=true) {x:Nat} (hx:x∈l) (hp:p x=true) (hq:q x=false):(l.filter q).length<(l.filter p).length:=by
 induction l with
 | nil=>simp at hx
 | cons y l ih=>
  have p8:(l.filter q).length<=(l.filter p).length:=by
   clear ih hx
   induction l with
   | nil=>simp
   | cons z l ih2=>
    rw[List.filter_cons,List.filter_cons];cases hqz:q z
    ·cases hpz:p z <;> simp <;> omega
    ·rw[h z hqz];simpa using ih2
  rw[List.filter_cons,List.filter_cons];rcases List.mem_cons.1 hx with rfl | hx
  ·rw[hp,hq];simp;omega
  ·have:=ih hx
   cases hqy:q y
   ·cases X_:p y <;> simp <;> omega
   ·rw[h y hqy];simpa using this
theorem Dd {D:Nat->Prop} (hc:∀i o,D i->ops[i]?=some o->∀j∈bg o,D j) {j i:Nat} (h:L9 ops j i):D i->D j:=by
 induction h with
 | dep ho hj=>intro hi;exact hc _ _ hi ho _ hj
 | step _ ho hm ih=>intro hi;exact ih (hc _ _ hi ho _ hm)
theorem fV {D:Nat->Prop} (hc:∀i o,D i->ops[i]?=some o->∀j∈bg o,D j) {j i:Nat} {o:Oper} (ho:ops[i]?=some o) (hr:∀m∈bg o,D m) (h:L9 ops j i):D j:=by
 cases h with
 | dep kR hj=>rw[ho]at kR;cases kR;exact hr _ hj
 | step ha kR hm=>rw[ho]at kR;cases kR;exact Dd hc ha (hr _ hm)
theorem dQ {j:Nat} {an:Array Bool}:j∈Region.ready .any ops an↔an.getD j true=false/\∃o,ops[j]?=some o/\∀m∈bg o,an.getD m false=true:=by
 rw[mem_ready];constructor
 ·rintro⟨h0,o,ho,h⟩;refine⟨h0,o,ho,fun m hm=>?_⟩
  obtain⟨e,he,hb,rfl⟩:=zY.1 hm;exact h e he hb
 ·rintro⟨h0,o,ho,h⟩;exact⟨h0,o,ho,fun e he hb=>h e.on (zY.2 ⟨e,he,hb,rfl⟩)⟩
theorem ii {an:Array Bool} {j:Nat} (hj:j<an.size):an.getD j true=an.getD j false:=by simp[hj]
theorem xo {Q:Exit->Act->World->Prop} {k:Nat} (hf:Dc ops k):∀(iK m:Nat) (an:Array Bool) (a:Act) (W:World),k<=m->m<=ops.size->ops.size-m<=iK->an.size=ops.size ->
  (∀j,j<ops.size->an.getD j false=decide (j<m))->wpList P ops Q (ops.toList.drop m) a W->wpAny P .any ops Q iK an a W:=by
 have I_:∀(m:Nat) (an:Array Bool),k<=m->m<=ops.size->an.size=ops.size->(∀j,j<ops.size->an.getD j false=decide (j<m))->∀i∈Region.ready .any ops an,i=m:=by
  intro m an Ya hm fO hl i hi;obtain⟨h0,o,ho,gD⟩:=dQ.1 hi;have d_:i<ops.size:=(Array.getElem?_eq_some_iff.1 ho).1;rw[ii (by omega),hl i d_]at h0;simp at h0
  rcases Nat.lt_or_ge m i with az | hge
  ·have:=fV (D:=fun j=>j<m) (fun i' o' yh kR j hj=>by have:=hf.back i' o' kR j hj;omega) ho (fun d hd=>by
    have h1:=gD d hd;have h2:=hf.back i o ho d hd;rw[hl d (by omega)]at h1
    simpa using h1) (hf.tail i (by omega) d_ m az)
   omega
  ·omega
 intro iK
 induction iK with
 | zero=>
  intro m an a W Ya hm Ja fO hl h;obtain rfl:m=ops.size:=by omega
  refine⟨List.eq_nil_iff_forall_not_mem.2 (fun i hi=>?_),?_⟩
  ·have:=I_ ops.size an Ya hm fO hl i hi
   obtain⟨_,o,ho,_⟩:=dQ.1 hi
   have:=(Array.getElem?_eq_some_iff.1 ho).1
   omega
  ·rw[List.drop_of_length_le (by simp)]at h;exact h
 | succ iK ih=>
  intro m an a W Ya hm Ja fO hl h;refine⟨fun oY=>?_,fun i hi=>?_⟩
  ·rcases Nat.lt_or_ge m ops.size with az | hge
   ·exfalso
    have ly:m∈Region.ready .any ops an:=by
     refine dQ.2 ⟨by rw[ii (by omega),hl m az];simp,ops[m],Array.getElem?_eq_getElem az,fun d hd=>?_⟩
     have h2:=hf.back m _ (Array.getElem?_eq_getElem az) d hd
     rw[hl d (by omega)];simpa using h2
    rw[oY]at ly;simp at ly
   ·rw[List.drop_of_length_le (by simp;omega)]at h;exact h
  ·obtain rfl:=I_ m an Ya hm fO hl i hi
   obtain⟨_,o,ho,_⟩:=dQ.1 hi;have d_:i<ops.size:=(Array.getElem?_eq_some_iff.1 ho).1;rw[List.drop_eq_getElem_cons (by simpa using d_)]at h
   have OM:ops.toList[i]'(by simpa using d_)=o:=by
    have:=(Array.getElem?_eq_some_iff.1 ho).2
    simpa using this
   rw[OM]at h;unfold wpList at h;unfold wpOp;simp only[ho]
   have next:∀a W,wpList P ops Q (ops.toList.drop (i+1)) a W->wpAny P .any ops Q iK (an.setIfInBounds i true) a W:=fun a W h'=>
    ih (i+1) _ a W (by omega) (by omega) (by omega) (by simpa using fO) (fun j hj=>by
     by_cases nH:i=j
     ·subst nH;simp[fO,d_]
     ·rw[getD_set_ne false nH,hl j hj]
      simp;omega) h'
   split
   ·rename_i hw
    rw[if_pos hw]at h;exact h.imp (Oper.wp_mono next) id
   ·rename_i hw
    rw[if_neg hw]at h;exact next _ _ h
theorem F_ {Q:Exit->Act->World->Prop} {k:Nat} (hf:Dc ops k) (hk:k<=ops.size) (a:Act) (acp:Nat->Value) (F:Nat->Act) (hF:∀i,i<=k->aL a ops acp (fun j=>j<i) (F i))
  (fw:∀i o,i<k->ops[i]?=some o->Db P ops Inv o (F i) (acp i)) (it:∀W,Inv W->wpList P ops Q (ops.toList.drop k) (F k) W):
  ∀(iK:Nat) (an:Array Bool) (a':Act) (W:World),an.size=ops.size->(∀i o,an.getD i false=true->ops[i]?=some o->∀j∈bg o,an.getD j false=true)->(∀j,an.getD j false=true->j<k) ->
   (ops.size-k)+((List.range k).filter fun j => !an.getD j false).length<=iK->aL a ops acp (fun j=>an.getD j false=true) a'->Inv W->wpAny P .any ops Q iK an a' W:=by
 intro iK
 induction iK with
 | zero=>
  intro an a' W fO eG az Ja iZ hI
  have bH:∀j,j<k->an.getD j false=true:=fun j hj=>by
   rcases hb:an.getD j false with _ | _
   ·have:0<((List.range k).filter fun j => !an.getD j false).length:=List.length_pos_of_mem (List.mem_filter.2 ⟨List.mem_range.2 hj,by simp[hb]⟩)
    omega
   ·rfl
  have hl:∀j,j<ops.size->an.getD j false=decide (j<k):=fun j _=>by
   by_cases h:j<k
   ·rw[bH j h];simp[h]
   ·cases hb:an.getD j false
    ·simp[h]
    ·exact absurd (az j hb) h
  have:a'=F k:=iZ.ext (hF k (Nat.le_refl _)) (fun j hj=>by rw[hl j hj];simp)
  subst this;exact xo hf 0 k an _ W (Nat.le_refl _) hk (by omega) fO hl (it W hI)
 | succ iK ih=>
  intro an a' W fO eG az Ja iZ hI
  by_cases bH:∀j,j<k->an.getD j false=true
  ·have hl:∀j,j<ops.size->an.getD j false=decide (j<k):=fun j _=>by
    by_cases h:j<k
    ·rw[bH j h];simp[h]
    ·cases hb:an.getD j false
     ·simp[h]
     ·exact absurd (az j hb) h
   have:a'=F k:=iZ.ext (hF k (Nat.le_refl _)) (fun j hj=>by rw[hl j hj];simp)
   subst this;exact xo hf (iK+1) k an _ W (Nat.le_refl _) hk (by omega) fO hl (it W hI)
  ·obtain⟨j0,hj0,Tp⟩:∃j,j<k/\an.getD j false=false:=by
    refine Classical.byContradiction fun jH=>bH fun j hj=>?_
    cases hb:an.getD j false
    ·exact absurd ⟨j,hj,hb⟩ jH
    ·rfl
   refine⟨fun oY=>?_,fun i hi=>?_⟩
   ·exfalso
    have:∀m,∀j,j<=m->j<k->an.getD j false=false->False:=by
     intro m
     induction m using Nat.strongRecOn with
     | ind m ihm=>
      intro j hjm ld De;have ON:j<ops.size:=by omega
      by_cases hd:∀d∈bg ops[j],an.getD d false=true
      ·have ly:j∈Region.ready .any ops an:=dQ.2 ⟨by rw[ii (by omega)];exact De,ops[j],Array.getElem?_eq_getElem ON,hd⟩
       rw[oY]at ly;simp at ly
      ·obtain⟨d,ju,gC⟩:∃d,d∈bg ops[j]/\an.getD d false=false:=by
        refine Classical.byContradiction fun jH=>hd fun d hd=>?_
        cases hb:an.getD d false
        ·exact absurd ⟨d,hd,hb⟩ jH
        ·rfl
       have Tq:=hf.back j _ (Array.getElem?_eq_getElem ON) d ju;exact ihm d (by omega) d (Nat.le_refl _) (by omega) gC
    exact this j0 j0 (Nat.le_refl _) hj0 Tp
   ·obtain⟨h0,o,ho,gD⟩:=dQ.1 hi;have d_:i<ops.size:=(Array.getElem?_eq_some_iff.1 ho).1;rw[ii (by omega)]at h0
    have jo:i<k:=by
     rcases Nat.lt_or_ge i k with h | h
     ·exact h
     ·have:=fV (D:=fun j=>an.getD j false=true) eG ho gD (hf.tail i h d_ j0 (by omega))
      simp only[Tp]at this;cases this
    have Ts:∀t∈o.looksAt ops,a'.tmps[t]?=(F i).tmps[t]?:=fun t ht=>iZ.agree (hF i (by omega)) t (fun j oj hj ez hd=>by
     have ld:j<k:=by
      rcases hj with hj | hj
      ·exact az j hj
      ·omega
     have:=hf.looks i o jo ho t ht j oj ld ez hd
     exact⟨gD j this,hf.back i o ho j this⟩)
    have he:execOp a'.eval o=execOp (F i).eval o:=execOp_congr o (fun cs b=>hf.acA i o cs b ho) (fun x hx=>by
     cases x with
     | tmp t=>
      have:=Ts t (List.mem_append_left _ (List.mem_filterMap.2 ⟨.tmp t,by simpa using hx,rfl⟩))
      simp[Act.eval,this]
     | _=>rfl)
    have hw:Region.wanted o (yielded ops a'.tmps)=Region.wanted o (yielded ops (F i).tmps):=by
     unfold Region.wanted
     cases hg:o.guard with
     | none=>rfl
     | some gw=>
      obtain⟨g,Zp⟩:=gw
      have:yielded ops a'.tmps g=yielded ops (F i).tmps g:=by
       unfold yielded
       cases ht:(ops[g]?).bind (·.dst) with
       | none=>rfl
       | some t=>
        have:=Ts t (by simp[Oper.looksAt,hg,ht])
        simp[this]
      simp only[this]
    have next:∀W',Inv W'->wpAny P .any ops Q iK (an.setIfInBounds i true) (a'.put o.dst (acp i)) W':=fun W' Sl=>by
     have iE:∀j,(an.setIfInBounds i true).getD j false=true↔(an.getD j false=true\/j=i):=fun j=>by
      by_cases nH:i=j
      ·subst nH;simp[fO,d_]
      ·rw[getD_set_ne false nH];constructor
       ·exact .inl
       ·rintro(h | h)
        ·exact h
        ·exact absurd h.symm nH
     refine ih _ _ W' (by simpa using fO) (fun i' o' yh kR j hj=>?_) (fun j hj=>?_) ?_ ?_ Sl
     ·rcases(iE i').1 yh with h | rfl
      ·exact(iE j).2 (.inl (eG i' o' h kR j hj))
      ·rw[ho]at kR;cases kR
       exact(iE j).2 (.inl (gD j hj))
     ·rcases(iE j).1 hj with h | rfl
      ·exact az j h
      ·exact jo
     ·have Tt:=filter_lt (l:=List.range k) (p:=fun j => !an.getD j false) (q:=fun j => !(an.setIfInBounds i true).getD j false) (fun x hx=>by
       cases hb:an.getD x false
       ·rfl
       ·have:=(iE x).2 (.inl hb)
        simp only[this]at hx
        cases hx) (List.mem_range.2 jo) (by simp only[h0];rfl) (by simp only[(iE i).2 (.inr rfl)];rfl)
      omega
     ·have:=iZ.put (i:=i) ho (fun j oj d hj ez hd gC=>by
       have:=hf.acB i o jo ho j oj (az j hj) ez d hd gC
       subst this;rw[h0]at hj
       cases hj)
      refine⟨this.defers,this.size,fun j oj t hj=>this.on j oj t ((iE j).1 hj),fun t ht=>this.off t (fun j oj hj=>ht j oj ((iE j).2 hj))⟩
    unfold wpOp;simp only[ho,hw];rcases fw i o jo ho W hI with⟨h1,h2⟩ | ⟨h1,h2⟩
    ·rw[if_pos h1];refine .inl ?_;unfold Oper.wp;unfold da at h2;rw[he]
     generalize (execOp (F i).eval o).run P W=r at h2 ⊢
     cases r with
     | ok nx W'=>
      cases nx with
      | value u=>simp only at h2;obtain⟨rfl,h3⟩:=h2;exact next W' h3
      | skip=>simp only at h2;obtain⟨h4,h3⟩:=h2;simp only[Oper.upon];rw[h4];exact next W' h3
      | enter f args=>
       simp only at h2
       simp only[Oper.upon]
       exact h2.mono fun e lU ⟨z_,h3⟩=>by subst z_;exact next lU h3
      | _=>exact h2.elim
     | halt x W'=>exact h2.elim
    ·rw[if_neg (by rw[h1];simp)]
     have:=next W hI
     rw[h2]at this;exact this
theorem jd (n j:Nat):(Array.replicate n false).getD j false=false:=by
 rcases Nat.lt_or_ge j n with h | h
 ·simp[h]
 ·simp[h]
theorem av {Q:Exit->Act->World->Prop} {id:Nat} {a:Act} {w:World} (k:Nat) (Inv:World->Prop) (hm:P.follows .mixedOrders=true) (hf:p7 ops k=true) (hk:k<=ops.size) (hI:Inv w.drew)
  (h:g8 P ops Inv (fun A=>∀W,Inv W->wpList P ops Q (ops.toList.drop k) A W) (ops.toList.take k) a):(Code.region id ops true).wp P Q a w:=by
 have ge:=nG hf;obtain⟨acp,F,h0,it,j8⟩:=z7 _ a h
 have g_:(ops.toList.take k).length=k:=by simp;omega
 rw[g_]at it
 have p9:∀i o,i<k->ops[i]?=some o->(ops.toList.take k)[i]?=some o:=fun i o hi ho=>by
  rw[List.getElem?_take,if_pos hi];simpa using ho
 have hF:∀i,i<=k->aL a ops acp (fun j=>j<i) (F i):=by
  intro i
  induction i with
  | zero=>intro _;rw[h0];exact⟨rfl,rfl,fun j _ _ hj=>absurd hj (by omega),fun _ _=>rfl⟩
  | succ i ih=>
   intro hi;have yh:i<ops.size:=by omega
   have ho:ops[i]?=some ops[i]:=Array.getElem?_eq_getElem yh;rw[(j8 i _ (p9 i _ (by omega) ho)).2]
   have:=(ih (by omega)).put ho (fun j oj d hj ez hd gC=>by
    have:=ge.acB i _ (by omega) ho j oj (by omega) ez d hd gC
    omega)
   exact⟨this.defers,this.size,fun j oj t hj=>this.on j oj t (by omega),fun t ht=>this.off t (fun j oj hj=>ht j oj (by omega))⟩
 refine wp_region_any hm ?_
 have:=F_ (P:=P) (Inv:=Inv) ge hk a acp F hF (fun i o hi ho=>(j8 i o (p9 i o hi ho)).1) it ops.size (Array.replicate ops.size false) a w.drew (by simp)
  (fun i o hi=>by rw[jd]at hi;cases hi) (fun j hj=>by rw[jd]at hj;cases hj) (by
   have:((List.range k).filter fun j => !(Array.replicate ops.size false).getD j false).length<=k:=by
    have:=List.length_filter_le (fun j => !(Array.replicate ops.size false).getD j false) (List.range k)
    simpa using this
   omega) ⟨rfl,rfl,(fun j _ _ hj=>by rw[jd]at hj;cases hj),fun _ _=>rfl⟩ hI
 exact this
theorem p_ {dD:Act->Prop} {o:Oper} {rest:List Oper} {A:Act} {v:Value} (hw:Region.wanted o (yielded ops A.tmps)=true) (h:∀W,Inv W->(execOp A.eval o).run P W=.ok (.value v) W)
  (hr:g8 P ops Inv dD rest (A.put o.dst v)):g8 P ops Inv dD (o::rest) A:=
 ⟨v,fun W hI=>.inl ⟨hw,by unfold da;rw[h W hI];exact⟨rfl,hI⟩⟩,hr⟩
theorem b_ {dD:Act->Prop} {o:Oper} {rest:List Oper} {A:Act} {v:Value} (hw:Region.wanted o (yielded ops A.tmps)=true) (hr:g8 P ops Inv dD rest (A.put o.dst v)) (h:∀W,Inv W->(execOp A.eval o).run P W=.ok (.value v) W:=by intro W hW;go_simp;with_reducible rfl):g8 P ops Inv dD (o::rest) A:=p_ hw h hr
theorem xp {dD:Act->Prop} {o:Oper} {rest:List Oper} {A:Act} (hw:Region.wanted o (yielded ops A.tmps)=false)
  (hr:g8 P ops Inv dD rest (A.put o.dst undef)):g8 P ops Inv dD (o::rest) A:=⟨undef,fun _ _=>.inr ⟨hw,rfl⟩,hr⟩
theorem fc {dD:Act->Prop} {o:Oper} {rest:List Oper} {A:Act} (v:Value) (hw:Region.wanted o (yielded ops A.tmps)=true) (h:∀W,Inv W->da P Inv o A W v)
  (hr:g8 P ops Inv dD rest (A.put o.dst v)):g8 P ops Inv dD (o::rest) A:=⟨v,fun W hI=>.inl ⟨hw,h W hI⟩,hr⟩
end
section
variable {P : Program} {ops : Array Oper} {Inv : World → Prop}
theorem xq {Q:Exit->Act->World->Prop} {dD:Act->Prop} {rest:List Oper} (it:∀A,dD A->∀W,Inv W->wpList P ops Q rest A W):
  ∀(l:List Oper) (A:Act) (W:World),Inv W->g8 P ops Inv dD l A->wpList P ops Q (l++rest) A W
 | [],A,W,hI,h=>it A h W hI
 | o::l,A,W,hI,⟨v,hv,h⟩=>by
  have next:∀W',Inv W'->wpList P ops Q (l++rest) (A.put o.dst v) W':=fun W' Sl=>xq it l _ W' Sl h
  show wpList P ops Q (o::(l++rest)) A W
  unfold wpList;rcases hv W hI with⟨h1,h2⟩ | ⟨h1,h2⟩
  ·rw[if_pos h1];refine .inl ?_;unfold Oper.wp;unfold da at h2
   generalize (execOp A.eval o).run P W=r at h2 ⊢
   cases r with
   | ok nx W'=>
    cases nx with
    | value u=>simp only at h2;obtain⟨rfl,h3⟩:=h2;exact next W' h3
    | skip=>simp only at h2;obtain⟨h4,h3⟩:=h2;simp only[Oper.upon];rw[h4];exact next W' h3
    | enter f args=>
     simp only at h2
     simp only[Oper.upon]
     exact h2.mono fun e lU ⟨z_,h3⟩=>by subst z_;exact next lU h3
    | _=>exact h2.elim
   | halt x W'=>exact h2.elim
  ·rw[if_neg (by rw[h1];simp)]
   have:=next W hI
   rw[h2]at this;exact this
theorem aE {Q:Exit->Act->World->Prop} {id:Nat} {a:Act} {w:World} (k:Nat) (Inv:World->Prop) (hI:Inv w)
  (h:g8 P ops Inv (fun A=>∀W,Inv W->wpList P ops Q (ops.toList.drop k) A W) (ops.toList.take k) a):(Code.region id ops false).wp P Q a w:=by
 refine wp_region_list ?_
 have:=xq (P:=P) (ops:=ops) (Q:=Q) (rest:=ops.toList.drop k) (fun A h=>h) _ a w hI h
 rwa [List.take_append_drop]at this
theorem qc {o:Oper} {tmps:Array Value} {g:Nat} {e b:Bool} (hg:o.guard=some (g,e)) (hy:yielded ops tmps g=some b):Region.wanted o (yielded ops tmps)=(b==e):=by
 unfold Region.wanted;rw[hg];show(yielded ops tmps g==some e)=_
 rw[hy]
 cases b <;> cases e <;> rfl
def gv (b e:Bool) (v:Value):Value:=if b=e then v else undef
@[simp] theorem jY {b e:Bool} {v:Value} (h:b=e):gv b e v=v:=if_pos h
theorem dl {dD:Act->Prop} {o:Oper} {rest:List Oper} {A:Act} {g:Nat} {e b:Bool} {v:Value} (hg:o.guard=some (g,e)) (hy:yielded ops A.tmps g=some b)
  (h:b=e->∀W,Inv W->da P Inv o A W v) (hr:g8 P ops Inv dD rest (A.put o.dst (gv b e v))):g8 P ops Inv dD (o::rest) A:=by
 refine⟨_,fun W hI=>?_,hr⟩
 rw[qc hg hy]
 by_cases ln:b=e
 ·rw[jY ln];exact .inl ⟨by simp[ln],h ln W hI⟩
 ·rw[show gv b e v=undef from if_neg ln];exact .inr ⟨by simpa using ln,rfl⟩
theorem lz {dD:Act->Prop} {o:Oper} {rest:List Oper} {A:Act} {g:Nat} {e b:Bool} {v:Value} (hg:o.guard=some (g,e)) (hy:yielded ops A.tmps g=some b)
  (h:b=e->∀W,Inv W->(execOp A.eval o).run P W=.ok (.value v) W) (hr:g8 P ops Inv dD rest (A.put o.dst (gv b e v))):g8 P ops Inv dD (o::rest) A:=
 dl hg hy (fun hb W hI=>by unfold da;rw[h hb W hI];exact⟨rfl,hI⟩) hr
theorem iL {dD:Act->Prop} {o:Oper} {rest:List Oper} {A:Act} {g:Nat} {e b:Bool} {v:Value} (hg:o.guard=some (g,e)) (hy:yielded ops A.tmps g=some b) (hr:g8 P ops Inv dD rest (A.put o.dst (gv b e v))) (h:b=e->∀W,Inv W->(execOp A.eval o).run P W=.ok (.value v) W:=by intro hb;intro W hW;go_simp;with_reducible rfl):g8 P ops Inv dD (o::rest) A:=lz hg hy h hr
theorem vX {o:Oper} {tmps:Array Value} {g:Nat} {e' b e x:Bool} (hg:o.guard=some (g,e')) (hy:((ops[g]?).bind (·.dst)).bind (tmps[·]?)=some (gv b e (.bool x))):Region.wanted o (yielded ops tmps)=((b==e)&&(x==e')):=by
 unfold Region.wanted;rw[hg];show(yielded ops tmps g==some e')=_
 unfold yielded;rw[hy]
 by_cases ln:b=e
 ·rw[jY ln];subst ln
  cases x <;> cases e' <;> simp
 ·rw[show gv b e (.bool x)=undef from if_neg ln]
  have:(b==e)=false:=by simpa using ln
  rw[this];rfl
theorem Ga {dD:Act->Prop} {o:Oper} {rest:List Oper} {A:Act} {g:Nat} {e' b e x:Bool} {v:Value} (hg:o.guard=some (g,e')) (hy:((ops[g]?).bind (·.dst)).bind (A.tmps[·]?)=some (gv b e (.bool x)))
  (h:b=e->x=e'->∀W,Inv W->da P Inv o A W v) (hr:g8 P ops Inv dD rest (A.put o.dst (gv ((b==e)&&(x==e')) true v))):g8 P ops Inv dD (o::rest) A:=by
 refine⟨_,fun W hI=>?_,hr⟩
 rw[vX hg hy]
 by_cases ln:((b==e)&&(x==e'))=true
 ·rw[jY ln];have Zq:=ln;rw[Bool.and_eq_true,beq_iff_eq,beq_iff_eq]at ln;exact .inl ⟨Zq,h ln.1 ln.2 W hI⟩
 ·rw[show gv _ true v=undef from if_neg ln];exact .inr ⟨by simpa using ln,rfl⟩
theorem gF {dD:Act->Prop} {o:Oper} {rest:List Oper} {A:Act} {g:Nat} {e' b e x:Bool} {v:Value} (hg:o.guard=some (g,e')) (hy:((ops[g]?).bind (·.dst)).bind (A.tmps[·]?)=some (gv b e (.bool x)))
  (h:b=e->x=e'->∀W,Inv W->(execOp A.eval o).run P W=.ok (.value v) W) (hr:g8 P ops Inv dD rest (A.put o.dst (gv ((b==e)&&(x==e')) true v))):g8 P ops Inv dD (o::rest) A:=
 Ga hg hy (fun hb hx W hI=>by unfold da;rw[h hb hx W hI];exact⟨rfl,hI⟩) hr
theorem je {dD:Act->Prop} {d:Option Tmp} {ty:TypeId} {pos:String} {af:Array Edge} {c t:Operand} {rest:List Oper} {A:Act} {g:Nat} {e b x y:Bool} (hy:yielded ops A.tmps g=some b) (hc:A.eval c=gv b e (.bool x)) (hx:A.eval t=gv ((b==e)&&(x==true)) true (.bool y))
  (hr:g8 P ops Inv dD rest (A.put d (gv b e (.bool (x&&y))))):g8 P ops Inv dD (⟨d,.pick c t (.const (.bool false)),ty,pos,af,some (g,e)⟩::rest) A:=by
 refine lz (v:=.bool (x&&y)) rfl hy (fun hb W hW=>?_) hr
 have hk:A.eval (.const (.bool false))=.bool false:=rfl;clear hr;rw[jY hb]at hc;subst hb
 generalize A.eval=ev at hc hx hk ⊢
 cases x
 ·simp[execOp,hc,hk,go_sem]
 ·rw[jY (by simp)]at hx;simp[execOp,hc,hx,hk,go_sem]
theorem Jb {dD:Act->Prop} {d:Option Tmp} {ty:TypeId} {pos:String} {af:Array Edge} {c t:Operand} {rest:List Oper} {A:Act} {g:Nat} {e b x y:Bool} (hy:yielded ops A.tmps g=some b) (hc:A.eval c=gv b e (.bool x)) (hx:A.eval t=gv ((b==e)&&(x==false)) true (.bool y))
  (hr:g8 P ops Inv dD rest (A.put d (gv b e (.bool (x||y))))):g8 P ops Inv dD (⟨d,.pick c (.const (.bool true)) t,ty,pos,af,some (g,e)⟩::rest) A:=by
 refine lz (v:=.bool (x||y)) rfl hy (fun hb W hW=>?_) hr
 have hk:A.eval (.const (.bool true))=.bool true:=rfl;clear hr;rw[jY hb]at hc;subst hb
 generalize A.eval=ev at hc hx hk ⊢
 cases x
 ·rw[jY (by simp)]at hx;simp[execOp,hc,hx,hk,go_sem]
 ·simp[execOp,hc,hk,go_sem]
theorem nI {dD:Act->Prop} {o:Oper} {rest:List Oper} {A:Act} {g:Nat} {e b:Bool} (hg:o.guard=some (g,e)) (hy:yielded ops A.tmps g=some b)
  (h:(b==e)=false) (hr:g8 P ops Inv dD rest (A.put o.dst undef)):g8 P ops Inv dD (o::rest) A:=
 xp (by rw[qc hg hy];exact h) hr
theorem dE {dD:Act->Prop} {d:Option Tmp} {ty:TypeId} {pos:String} {af:Array Edge} {c x:Operand} {rest:List Oper} {A:Act} {b y:Bool} (hc:A.eval c=.bool b) (hx:A.eval x=gv b false (.bool y))
  (hr:g8 P ops Inv dD rest (A.put d (.bool (b||y)))):g8 P ops Inv dD (⟨d,.pick c (.const (.bool true)) x,ty,pos,af,none⟩::rest) A:=by
 refine p_ (v:=.bool (b||y)) rfl (fun W hW=>?_) hr
 have hk:A.eval (.const (.bool true))=.bool true:=rfl;clear hr
 generalize A.eval=ev at hc hx hk ⊢
 cases b
 ·rw[jY rfl]at hx;simp[execOp,hc,hx,hk,go_sem]
 ·simp[execOp,hc,hk,go_sem]
theorem bK {dD:Act->Prop} {d:Option Tmp} {ty:TypeId} {pos:String} {af:Array Edge} {c x:Operand} {rest:List Oper} {A:Act} {b y:Bool} (hc:A.eval c=.bool b) (hx:A.eval x=gv b true (.bool y))
  (hr:g8 P ops Inv dD rest (A.put d (.bool (b&&y)))):g8 P ops Inv dD (⟨d,.pick c x (.const (.bool false)),ty,pos,af,none⟩::rest) A:=by
 refine p_ (v:=.bool (b&&y)) rfl (fun W hW=>?_) hr
 have hk:A.eval (.const (.bool false))=.bool false:=rfl;clear hr
 generalize A.eval=ev at hc hx hk ⊢
 cases b
 ·simp[execOp,hc,hk,go_sem]
 ·rw[jY rfl]at hx;simp[execOp,hc,hx,hk,go_sem]
end
@[simp] theorem aa (w:World):ab w w:=Below.refl _ _
@[simp] theorem ad {w0 W:World} (o:Obj) (h:ab w0 W):ab w0 (W.alloc o):=Below.alloc h h.size o
@[simp] theorem ah {w0 W:World} (h:ab w0 W):ab w0 W.drew:=Below.drew h
theorem OO {w W:World} (h:Below w.heap.size w W):ab w W:=h
theorem ab.below {w W:World} (h:ab w W):Below w.heap.size w W:=h
theorem ab.after {a b c:World} (h:ab a b) (h':ab b c):ab a c:=ab.trans h h'
theorem ab.cell {a b:World} (h:ab a b) {p:Addr} {v:Value} (hc:a.cell? p=some v):b.cell? p=some v:=bc h hc
theorem ag {w0 w1:World} {p:Addr} {v:Value} (f:∀W,ab w0 W->W.cell? p=some v) (h:ab w0 w1):∀W,ab w1 W->W.cell? p=some v:=fun W hW=>f W (h.after hW)
theorem ae {w0:World} {p:Addr} {v:Value} (h:w0.cell? p=some v):∀W,ab w0 W->W.cell? p=some v:=fun _ hW=>bc hW h
section
variable {P : Program} {ops : Array Oper}
theorem Jc {Q:Exit->Act->World->Prop} (oG:∀i o,ops[i]?=some o->∀j∈bg o,j<i) (J:(Nat->Prop)->Act->World->Prop)
  (fw:∀(D:Nat->Prop) a w i o,J D a w->ops[i]?=some o->¬D i->(∀d∈bg o,D d)->(∀i o,D i->ops[i]?=some o->∀d∈bg o,D d) ->
   if Region.wanted o (yielded ops a.tmps)=true then Oper.wp P o a w (J (fun j=>D j\/j=i)) Q else J (fun j=>D j\/j=i) (a.put o.dst undef) w)
  (oZ:∀(D:Nat->Prop) a w,J D a w->(∀i,i<ops.size->D i)->Q .normal a w):
  ∀(iK:Nat) (an:Array Bool) (a:Act) (W:World),an.size=ops.size->(∀i o,an.getD i false=true->ops[i]?=some o->∀j∈bg o,an.getD j false=true) ->
   ((List.range ops.size).filter fun j => !an.getD j false).length<=iK->J (fun j=>an.getD j false=true) a W->wpAny P .any ops Q iK an a W:=by
 have Jd:∀(an:Array Bool),an.size=ops.size->Region.ready .any ops an=[]->∀m,∀j,j<=m->j<ops.size->an.getD j false=true:=by
  intro an fO oY m
  induction m using Nat.strongRecOn with
  | ind m ihm=>
   intro j hjm ON;refine Classical.byContradiction fun De=>?_
   have De:an.getD j false=false:=by cases hb:an.getD j false <;> simp_all
   have ly:j∈Region.ready .any ops an:=dQ.2 ⟨by rw[ii (by omega)];exact De,ops[j],Array.getElem?_eq_getElem ON,fun d hd=>by
    have Tq:=oG j _ (Array.getElem?_eq_getElem ON) d hd
    exact ihm d (by omega) d (Nat.le_refl _) (by omega)⟩
   rw[oY]at ly;simp at ly
 intro iK
 induction iK with
 | zero=>
  intro an a W fO eG Ja hJ
  have bH:∀j,j<ops.size->an.getD j false=true:=fun j hj=>by
   rcases hb:an.getD j false with _ | _
   ·have:0<((List.range ops.size).filter fun j => !an.getD j false).length:=List.length_pos_of_mem (List.mem_filter.2 ⟨List.mem_range.2 hj,by simp[hb]⟩)
    omega
   ·rfl
  refine⟨List.eq_nil_iff_forall_not_mem.2 fun i hi=>?_,oZ _ a W hJ bH⟩
  obtain⟨h0,o,ho,_⟩:=dQ.1 hi;have d_:i<ops.size:=(Array.getElem?_eq_some_iff.1 ho).1;rw[ii (by omega),bH i d_]at h0;cases h0
 | succ iK ih=>
  intro an a W fO eG Ja hJ;refine⟨fun oY=>oZ _ a W hJ fun j hj=>Jd an fO oY j j (Nat.le_refl _) hj,fun i hi=>?_⟩
  obtain⟨h0,o,ho,gD⟩:=dQ.1 hi;have d_:i<ops.size:=(Array.getElem?_eq_some_iff.1 ho).1;rw[ii (by omega)]at h0
  have iE:∀j,(an.setIfInBounds i true).getD j false=true↔(an.getD j false=true\/j=i):=fun j=>by
   by_cases nH:i=j
   ·subst nH;simp[fO,d_]
   ·rw[getD_set_ne false nH];constructor
    ·exact .inl
    ·rintro(h | h)
     ·exact h
     ·exact absurd h.symm nH
  have hD:(fun j=>(an.setIfInBounds i true).getD j false=true)=fun j=>an.getD j false=true\/j=i:=funext fun j=>propext (iE j)
  have next:∀a W,J (fun j=>an.getD j false=true\/j=i) a W->wpAny P .any ops Q iK (an.setIfInBounds i true) a W:=fun a W hJ'=>by
   refine ih _ a W (by simpa using fO) (fun i' o' yh kR j hj=>?_) ?_ (by rw[hD];exact hJ')
   ·rcases(iE i').1 yh with h | rfl
    ·exact(iE j).2 (.inl (eG i' o' h kR j hj))
    ·rw[ho]at kR;cases kR
     exact(iE j).2 (.inl (gD j hj))
   ·have Tt:=filter_lt (l:=List.range ops.size) (p:=fun j => !an.getD j false) (q:=fun j => !(an.setIfInBounds i true).getD j false) (fun x hx=>by
     cases hb:an.getD x false
     ·rfl
     ·have:=(iE x).2 (.inl hb)
      simp only[this]at hx
      cases hx) (List.mem_range.2 d_) (by simp only[h0];rfl) (by simp only[(iE i).2 (.inr rfl)];rfl)
    omega
  have:=fw (fun j=>an.getD j false=true) a W i o hJ ho (by rw[h0];simp) gD eG
  unfold wpOp;simp only[ho]
  split
  ·rename_i hw
   rw[if_pos hw]at this;exact .inl (Oper.wp_mono next this)
  ·rename_i hw
   rw[if_neg hw]at this;exact next _ _ this
theorem vY {Q:Exit->Act->World->Prop} {id:Nat} {a:Act} {w:World} (hm:P.follows .mixedOrders=true) (oG:∀i o,ops[i]?=some o->∀j∈bg o,j<i) (J:(Nat->Prop)->Act->World->Prop)
  (h0:J (fun _=>False) a w.drew)
  (fw:∀(D:Nat->Prop) a w i o,J D a w->ops[i]?=some o->¬D i->(∀d∈bg o,D d)->(∀i o,D i->ops[i]?=some o->∀d∈bg o,D d) ->
   if Region.wanted o (yielded ops a.tmps)=true then Oper.wp P o a w (J (fun j=>D j\/j=i)) Q else J (fun j=>D j\/j=i) (a.put o.dst undef) w)
  (oZ:∀(D:Nat->Prop) a w,J D a w->(∀i,i<ops.size->D i)->Q .normal a w):(Code.region id ops true).wp P Q a w:=by
 refine wp_region_any hm ?_
 refine Jc (P:=P) (Q:=Q) oG J fw oZ ops.size (Array.replicate ops.size false) a w.drew (by simp) (fun i o hi=>by rw[jd]at hi;cases hi) ?_ ?_
 ·have:=List.length_filter_le (fun j => !(Array.replicate ops.size false).getD j false) (List.range ops.size)
  simpa using this
 ·have:(fun j=>(Array.replicate ops.size false).getD j false=true)=fun _=>False:=funext fun j=>propext ⟨(fun h=>by rw[jd]at h;cases h),fun h=>h.elim⟩
  rw[this];exact h0
def kS (P:Program) (ops:Array Oper) (w0:World) (dD:Act->Prop):List Oper->Act->Prop
 | [],A=>dD A
 | o::rest,A=>∃v,(Region.wanted o (yielded ops A.tmps)=true/\∀W,ab w0 W->(execOp A.eval o).run P W=.ok (.value v) W)/\kS P ops w0 dD rest (A.put o.dst v)
theorem bv {w0:World} {dD:Act->Prop} {o:Oper} {rest:List Oper} {A:Act} {v:Value} (hw:Region.wanted o (yielded ops A.tmps)=true) (h:∀W,ab w0 W->(execOp A.eval o).run P W=.ok (.value v) W)
  (hr:kS P ops w0 dD rest (A.put o.dst v)):kS P ops w0 dD (o::rest) A:=⟨v,⟨hw,h⟩,hr⟩
theorem qd {w0:World} {dD:Act->Prop} (l:List Oper):∀(A:Act),kS P ops w0 dD l A ->
  ∃(acp:Nat->Value) (F:Nat->Act),F 0=A/\dD (F l.length)/\∀i o,l[i]?=some o->(Region.wanted o (yielded ops (F i).tmps)=true/\∀W,ab w0 W->(execOp (F i).eval o).run P W=.ok (.value (acp i)) W)/\F (i+1)=(F i).put o.dst (acp i):=by
 induction l with
 | nil=>intro A h;exact⟨fun _=>undef,fun _=>A,rfl,h,fun i o h=>by simp at h⟩
 | cons o l ih=>
  intro A h;obtain⟨v,hs,hf⟩:=h;obtain⟨acp,F,h0,it,fw⟩:=ih _ hf;refine⟨fun i=>match i with | 0=>v | i+1=>acp i,fun i=>match i with | 0=>A | i+1=>F i,rfl,it,?_⟩
  intro i o' hi
  cases i with
  | zero=>simp at hi;subst hi;exact⟨hs,h0⟩
  | succ i=>exact fw i o' (by simpa using hi)
theorem aL.acp {a a':Act} {v v':Nat->Value} {D:Nat->Prop} (h:aL a ops v D a') (e:∀j,D j->v j=v' j):aL a ops v' D a':=
 ⟨h.defers,h.size,fun j o t hj ho hd hl=>by rw[<- e j hj];exact h.on j o t hj ho hd hl,h.off⟩
theorem aL.same {a a':Act} {v:Nat->Value} {D E:Nat->Prop} (h:aL a ops v D a') (e:∀j,D j↔E j):aL a ops v E a':=by
 have:D=E:=funext fun j=>propext (e j)
 rw[<- this];exact h
def E2 (W:World) (T:TypeId) (b:Nat) (x y:Int):Prop:=W.heap[b]?=some (.cells #[.int .i64 x,.int .i64 y] T)
def Mw (b:Nat):Value:=.pointer (some ⟨b,0,none⟩)
end
section
variable {P : Program} {ops : Array Oper}
def j9 (P:Program) (R:World->Value->Prop) (o:Oper) (A:Act) (W:World):Prop:=
 match (execOp A.eval o).run P W with
 | .ok (.value u) W'=>R W' u/\ab W W'
 | .ok (.enter f args) W'=>Calls P f args W' fun e lU=>∃u,e=.returned u/\R lU u/\ab W lU
 | _=>False
theorem eX {o:Oper} {a' A:Act} (Ts:∀t∈o.looksAt ops,a'.tmps[t]?=A.tmps[t]?) (Zr:∀cs b,o.op ≠ .select cs b):execOp a'.eval o=execOp A.eval o/\Region.wanted o (yielded ops a'.tmps)=Region.wanted o (yielded ops A.tmps):=by
 refine⟨execOp_congr o Zr (fun x hx=>?_),?_⟩
 ·cases x with
  | tmp t=>
   have:=Ts t (List.mem_append_left _ (List.mem_filterMap.2 ⟨.tmp t,by simpa using hx,rfl⟩))
   simp[Act.eval,this]
  | _=>rfl
 ·unfold Region.wanted
  cases hg:o.guard with
  | none=>rfl
  | some gw=>
   obtain⟨g,Zp⟩:=gw
   have:yielded ops a'.tmps g=yielded ops A.tmps g:=by
    unfold yielded
    cases ht:(ops[g]?).bind (·.dst) with
    | none=>rfl
    | some t=>
     have:=Ts t (by simp[Oper.looksAt,hg,ht])
     simp[this]
   simp only[this]
theorem aL.acy {a a':Act} {v v':Nat->Value} {D:Nat->Prop} (h:aL a ops v D a') (e:∀j,j<ops.size->D j->v j=v' j):aL a ops v' D a':=
 ⟨h.defers,h.size,fun j o t hj ho hd hl=>by rw[<- e j (Array.getElem?_eq_some_iff.1 ho).1 hj];exact h.on j o t hj ho hd hl,h.off⟩
end
theorem zB {w:World} {ve vi vn:Value} {n:aj} (h:aC w ve vi vn n):∃w0 A c A2 c2 A3 c3,ve=.slice A n.ends.length c/\vi=.slice A2 n.ids.length c2/\vn=.slice A3 n.acn.length c3/\n.ends.length<=c/\c<=2^63-1/\c2<=2^63-1/\c3<=2^63-1/\Hid (∀k es,n.ends[k]?=some es->∃b off u,A=some ⟨b,off,none⟩/\w0.cell? ⟨b,off+k,none⟩=some u/\yg w0 u es)/\Hid (w0=w.alloc (.cells #[.slice A n.ends.length c,.slice A2 n.ids.length c2,.slice A3 n.acn.length c3] 27))/\Hid (Below w.heap.size w w0)/\Hid (aC w0 (.slice A n.ends.length c) (.slice A2 n.ids.length c2) (.slice A3 n.acn.length c3) n)/\(∀W,ab w0 W->W.cell? ⟨w.heap.size,0,none⟩=some (.slice A n.ends.length c))/\(∀W,ab w0 W->W.cell? ⟨w.heap.size,1,none⟩=some (.slice A2 n.ids.length c2))/\∀W,ab w0 W->W.cell? ⟨w.heap.size,2,none⟩=some (.slice A3 n.acn.length c3):=by
 obtain⟨w0,bQ⟩:∃w0,w0=w.alloc (.cells #[ve,vi,vn] 27):=⟨_,rfl⟩
 have lV:Below w.heap.size w w0:=by rw[bQ];exact((Below.refl _ _).alloc (by simp) _)
 have H:=h.keep lV;obtain⟨h1,h2,h3⟩:=h.keep lV;obtain⟨A,c,rfl,fg,hm,hA⟩:=h1;obtain⟨A2,c2,rfl,_,f8,_⟩:=h2;obtain⟨A3,c3,rfl,_,fP,_⟩:=h3;unfold maxLen at hm f8 fP
 exact⟨w0,A,c,A2,c2,A3,c3,rfl,rfl,rfl,fg,hm,f8,fP,hA,bQ,lV,H,ae (by rw[bQ];simp),ae (by rw[bQ];simp),ae (by rw[bQ];simp)⟩
theorem cC {k:Nat} {p:Nat->Bool}:(List.range (k+1)).all p=((List.range k).all p&&p k):=by rw[List.range_succ,List.all_append];simp
theorem aP {n k:Nat} {p:Nat->Bool} (hk:k<n) (h:p k=false):(List.range n).all p=false:=by
 rw[List.all_eq_false];exact⟨k,List.mem_range.2 hk,by simp[h]⟩
def qf (lo hi:Int) (xs:List Int):Bool:=(List.range xs.length).all fun i=>fF lo hi (xs.getD i 0)&&(i==0||decide (xs.getD (i-1) 0<xs.getD i 0))
theorem ao {α:Type} {xs:List α} {k:Nat} {x d:α} (h:xs[k]?=some x):xs.getD k d=x:=by simp[h]
theorem tH (v:Value) (xs:List Int) (lo hi:Int) (w:World) (h:aO w v xs):
  Calls Tryz.prog 197 #[v,.int .i64 lo,.int .i64 hi] w fun e w'=>e=.returned (.bool (qf lo hi xs))/\w=w':=by
 obtain⟨A,c,rfl,fg,hm,hA⟩:=h;unfold maxLen at hm;have HA:=zh hA;clear hA
 go_enter Tryz.func197,Tryz.ntmps197
 go_wp2
 go_loop [11] (fun i=>∃k:Nat,k<=xs.length/\i=.int .i64 k/\((List.range k).all fun i=>fF lo hi (xs.getD i 0)&&(i==0||decide (xs.getD (i-1) 0<xs.getD i 0)))=true) (fun i=>xs.length-(intOf i).toNat)
 case atStart=>exact⟨0,Nat.zero_le _,rfl,rfl⟩
 case round=>
  obtain⟨k,hk,rfl,bH⟩:=hrel;have ir:=zh bH;clear bH
  by_cases az:k<xs.length
  ·obtain⟨x,hx⟩:=aA xs k az;obtain⟨b,off,rfl,gy⟩:=HA.out k x hx;have Hx:=zh hx;cases hb:fF lo hi x
   ·have Hb:=zh hb;clear hx
    go_wp2_with (go_at_call 71;refine(gA _ _ _ _).mono ?_;rintro e w' ⟨rfl,rfl⟩)
    go_ret
    exact⟨aW (aP az (by rw[ao Hx.out,Hb.out];rfl)),rfl⟩
   ·have Hb:=zh hb
    by_cases Fc:k=0
    ·subst Fc;simp only[Nat.add_zero]at gy;clear hx
     go_wp2_with (go_at_call 71;refine(gA _ _ _ _).mono ?_;rintro e w' ⟨rfl,rfl⟩)
     go_round
     case rel=>exact⟨0+1,by omega,by go_num,by rw[cC,ir.out,ao Hx.out,Hb.out];rfl⟩
     case measure=>simp[intOf];omega
    ·obtain⟨y,hy⟩:=aA xs (k-1) (by omega);obtain⟨b',n7,he,Zs⟩:=HA.out (k-1) y hy
     injection he with he
     injection he with e1 e2
     subst e1 e2;have Hy:=zh hy;have kJ:0<k:=by omega
     cases xr:decide (x<=y)
     all_goals
      have sE:=zh xr
     ·have hn:¬x<=y:=by simpa using xr
      clear hx hy xr
      go_wp2_with (go_at_call 71;refine(gA _ _ _ _).mono ?_;rintro e w' ⟨rfl,rfl⟩)
      go_round
      case rel=>exact⟨k+1,by omega,by go_num,by rw[cC,ir.out,ao Hx.out,ao Hy.out,Hb.out];simp;omega⟩
      case measure=>simp[intOf];omega
     ·have hn:x<=y:=by simpa using xr
      clear hx hy xr
      go_wp2_with (go_at_call 71;refine(gA _ _ _ _).mono ?_;rintro e w' ⟨rfl,rfl⟩)
      go_ret
      exact⟨aW (aP az (by rw[ao Hx.out,ao Hy.out,Hb.out];simp;omega)),rfl⟩
  ·obtain rfl:k=xs.length:=by omega
   go_wp2;go_ret;exact⟨j7 ir.out,rfl⟩
def sF (ids:List Int) (fx:Int):Bool:=ids.isEmpty||((ids.length:Int)==fx&&qf 1 999999 (ids.mergeSort fun x y=>decide (x<=y)))
theorem tI {w w1 w2:World} {v:Value} {xs:List Int} (h:Below w.heap.size w w1) (ho:Own w1 w.heap.size v xs) (hg:w1.grownBy w2 v.ownBlock):Below w.heap.size w w2:=
 h.grown hg h.size (fun k hk=>(World.ownsRow.lt ho k hk).1)
theorem ro (v:Value) (ids:List Int) (fx:Int) (w:World) (h:aO w v ids) (hl:ids.length<=17592186044416):
  Calls Tryz.prog 130 #[v,.int .i64 fx] w fun e w'=>e=.returned (.bool (sF ids fx))/\Below w.heap.size w w':=by
 have H:=zh h;obtain⟨A,c,rfl,fg,hm,hA⟩:=h;clear hA;unfold maxLen at hm
 by_cases h0:ids.length=0
 ·obtain rfl:ids=[]:=List.eq_nil_of_length_eq_zero h0
  go_enter Tryz.func130,Tryz.ntmps130
  go_wp2;go_ret;exact⟨rfl,Below.refl _ _⟩
 ·have h0':(((ids.length:Nat):Int)==0)=false:=by simp;intro h;simp[h]at h0
  have Tw:ids.isEmpty=false:=by cases ids <;> simp_all
  have Hr:=zh (show sF ids fx=((ids.length:Int)==fx&&qf 1 999999 (ids.mergeSort fun x y=>decide (x<=y)))by simp[sF,Tw])
  clear Tw h0;cases hn:((ids.length:Int)==fx)
  all_goals
   have Hn:=zh hn
   go_enter Tryz.func130,Tryz.ntmps130
   go_wp2_with fail;refine(F9 _ ids _ H.out hl).mono ?_;rintro e w1 ⟨u,rfl,ho,hb⟩;have Ho:=zh ho;have Hb:=zh hb;clear ho hb;go_wp2_with fail;refine(I8 _ ids _ _ Ho.out hl).mono ?_;rintro e w2 ⟨rfl,cZ,hg⟩;have fG:=zh cZ;have sG:=zh (tI Hb.out Ho.out hg);clear cZ hg;go_wp2_with fail
  ·go_ret
   exact⟨aW (by rw[Hr.out,Hn.out];rfl),sG.out⟩
  ·refine(tH _ _ _ _ _ fG.out.ints).mono ?_;rintro e w3 ⟨rfl,rfl⟩;go_wp2;go_ret
   exact⟨bJ (by rw[Hr.out,Hn.out];rfl),sG.out⟩
def fe (acn:List Int) (fx:Int):Bool:=(acn.length:Int)==fx&&acn.all (fF 0 9)
theorem qg (v:Value) (xs:List Int) (fx:Int) (w:World) (h:aO w v xs):
  Calls Tryz.prog 131 #[v,.int .i64 fx] w fun e w'=>e=.returned (.bool (fe xs fx))/\Below w.heap.size w w':=by
 have H:=zh h;obtain⟨A,c,rfl,fg,hm,hA⟩:=h;clear hA;unfold maxLen at hm;unfold fe;cases hn:((xs.length:Int)==fx)
 all_goals
  go_enter Tryz.func131,Tryz.ntmps131
  go_wp2_with fail
 ·go_ret;exact⟨rfl,Below.refl _ _⟩
 ·refine(lc _ xs _ _ _ H.out).mono ?_;rintro e w1 ⟨rfl,hb⟩;have Hb:=zh hb;clear hb;go_wp2;go_ret;exact⟨rfl,Hb.out⟩
theorem mI (ve vi vn:Value) (fv:List (List (Int×Int))) (v:Int) (w:World) (h:lx w ve fv):
  Calls Tryz.prog 108 #[.agg #[ve,vi,vn],.int .i64 v] w fun e w'=>e=.returned (.bool (fF 0 ((fv.length:Int)-1) v))/\Below w.heap.size w w':=by
 obtain⟨A,c,rfl,fg,hm,hA⟩:=h;clear hA;unfold maxLen at hm
 go_enter Tryz.func108,Tryz.ntmps108
 go_wp2_with (go_at_call 71;refine(gA _ _ _ _).mono ?_;rintro e w' ⟨rfl,rfl⟩)
 go_ret;exact⟨rfl,ai _ _⟩
def bT (fv:List (List (Int×Int))) (v i:Int):Bool:=fF 0 ((fv.length:Int)-1) v&&fF 0 (((fv.getD v.toNat []).length:Int)-1) i
theorem r8 (ve vi vn:Value) (fv:List (List (Int×Int))) (v i:Int) (w:World) (h:lx w ve fv):
  Calls Tryz.prog 57 #[.agg #[ve,vi,vn],.int .i64 v,.int .i64 i] w fun e w'=>e=.returned (.bool (bT fv v i))/\Below w.heap.size w w':=by
 have lV:Below w.heap.size w (w.alloc (.cells #[ve,vi,vn] 27)):=ai _ _;have H:=zh (h.keep lV);obtain⟨A,c,rfl,fg,hm,hA⟩:=h;unfold maxLen at hm;have aT:=zh lV;clear lV;unfold bT;cases hn:fF 0 ((fv.length:Int)-1) v
 ·clear hA
  go_enter Tryz.func57,Tryz.ntmps57
  go_wp2_with fail;refine(mI _ _ _ fv v _ H.out).mono ?_;rintro e w1 ⟨rfl,aN⟩;have gO:=zh (aT.out.trans (aN.mono (by simp)));clear aN;go_wp2;go_ret;exact⟨rfl,gO.out⟩
 ·obtain⟨Sm,Sp⟩:=bz.1 hn;obtain⟨k,rfl⟩:=Int.eq_ofNat_of_zero_le Sm;have hk:k<fv.length:=by omega
  obtain⟨es,bM⟩:=aA fv k hk;obtain⟨b,off,u,rfl,eD,hr⟩:=hA k es bM;obtain⟨A1,z1,rfl,dh,dt,_⟩:=hr;unfold maxLen at dt;have hg:=zh (show(fv.getD ((k:Int)).toNat [])=es by rw[Int.toNat_natCast,ao bM])
  rw[hg.out];have rg:=bc aT.out eD;clear hA bM eD
  go_enter Tryz.func57,Tryz.ntmps57
  go_wp2_with fail;refine(mI _ _ _ fv k _ H.out).mono ?_;rintro e w1 ⟨rfl,aN⟩;have CE:=bc aN rg;have hc4:w1.cell? ⟨w.heap.size,0,none⟩=some (.slice (some ⟨b,off,none⟩) fv.length c):=bc aN (by simp);have gO:=zh (aT.out.trans (aN.mono (by simp)));clear aN rg
  go_wp2_with (go_at_call 71;refine(gA _ _ _ _).mono ?_;rintro e w' ⟨rfl,rfl⟩)
  go_ret;exact⟨rfl,gO.out⟩
def iM (fv:List (List (Int×Int))) (v i:Nat) (e:Int×Int):Bool:=bT fv e.1 e.2&&pZ ((fv.getD e.1.toNat []).getD e.2.toNat (0,0)) ((v:Int),(i:Int))
def fZ (fv:List (List (Int×Int))) (v:Nat) (es:List (Int×Int)):Bool:=decide (es.length<=6)&&(List.range es.length).all fun i=>iM fv v i (es.getD i (0,0))
def ak (n:aj):Bool:=fF 1 40 n.ends.length&&sF n.ids n.ends.length&&fe n.acn n.ends.length&&(List.range n.ends.length).all fun v=>fZ n.ends v (n.ends.getD v [])
theorem ec (ve vi vn:Value) (n:aj) (w:World) (h:aC w ve vi vn n) (hl:n.ids.length<=17592186044416):
  Calls Tryz.prog 53 #[.agg #[ve,vi,vn]] w fun e w'=>e=.returned (.bool (ak n))/\Below w.heap.size w w':=by
 have lV:Below w.heap.size w (w.alloc (.cells #[ve,vi,vn] 27)):=ai _ _;have H:=zh (h.keep lV);obtain⟨h1,h2,h3⟩:=h;obtain⟨A,c,rfl,fg,hm,hA⟩:=h1;obtain⟨A2,c2,rfl,_,f8,_⟩:=h2;obtain⟨A3,c3,rfl,_,fP,_⟩:=h3;unfold maxLen at hm f8 fP;have aT:=zh lV;have HA:=zh hA;clear lV hA;cases t1:fF 1 40 (n.ends.length:Int)
 ·have hr:=zh (show ak n=false by simp[ak,t1])
  go_enter Tryz.func53,Tryz.ntmps53
  go_wp2_with (go_at_call 71;refine(gA _ _ _ _).mono ?_;rintro e w' ⟨rfl,rfl⟩)
  go_ret;exact⟨aW hr.out,aT.out⟩
 ·cases t2:sF n.ids n.ends.length
  ·have hr:=zh (show ak n=false by simp[ak,t2])
   go_enter Tryz.func53,Tryz.ntmps53
   go_wp2_with (go_at_call 71;refine(gA _ _ _ _).mono ?_;rintro e w' ⟨rfl,rfl⟩)
   refine(ro _ n.ids _ _ H.out.2.1 hl).mono ?_;rintro e w1 ⟨rfl,aN⟩;have gO:=zh (aT.out.trans (aN.mono (by simp)));clear aN;go_wp2;go_ret;exact⟨aW hr.out,gO.out⟩
  ·cases t3:fe n.acn n.ends.length
   ·have hr:=zh (show ak n=false by simp[ak,t3])
    go_enter Tryz.func53,Tryz.ntmps53
    go_wp2_with (go_at_call 71;refine(gA _ _ _ _).mono ?_;rintro e w' ⟨rfl,rfl⟩)
    refine(ro _ n.ids _ _ H.out.2.1 hl).mono ?_;rintro e w1 ⟨rfl,aN⟩;have gO:=zh (aT.out.trans (aN.mono (by simp)));have H1:=zh (H.out.keep aN);have d0:w1.cell? ⟨w.heap.size,0,none⟩=some (.slice A n.ends.length c):=bc aN (by simp);have d2:w1.cell? ⟨w.heap.size,2,none⟩=some (.slice A3 n.acn.length c3):=bc aN (by simp);clear aN;go_wp2_with fail;refine(qg _ n.acn _ _ H1.out.2.2).mono ?_;rintro e w2 ⟨rfl,bx⟩;have sG:=zh (gO.out.trans (bx.mono gO.out.size));clear bx;go_wp2;go_ret;exact⟨aW hr.out,sG.out⟩
   ·have hr:=zh (show ak n=(List.range n.ends.length).all fun v=>fZ n.ends v (n.ends.getD v [])by simp[ak,t1,t2,t3])
    go_enter Tryz.func53,Tryz.ntmps53
    go_wp2_with (go_at_call 71;refine(gA _ _ _ _).mono ?_;rintro e w' ⟨rfl,rfl⟩)
    refine(ro _ n.ids _ _ H.out.2.1 hl).mono ?_;rintro e w1 ⟨rfl,aN⟩;have gO:=zh (aT.out.trans (aN.mono (by simp)));have H1:=zh (H.out.keep aN);have d0:w1.cell? ⟨w.heap.size,0,none⟩=some (.slice A n.ends.length c):=bc aN (by simp);have d1:w1.cell? ⟨w.heap.size,1,none⟩=some (.slice A2 n.ids.length c2):=bc aN (by simp);have d2:w1.cell? ⟨w.heap.size,2,none⟩=some (.slice A3 n.acn.length c3):=bc aN (by simp);clear aN;go_wp2_with fail;refine(qg _ n.acn _ _ H1.out.2.2).mono ?_;rintro e w2 ⟨rfl,bx⟩;have sG:=zh (gO.out.trans (bx.mono gO.out.size));have H2:=zh (H1.out.keep bx);have e0:=bc bx d0;have e1:=bc bx d1;have e2:=bc bx d2;have fO:w.heap.size<w2.heap.size:=World.block_lt_of_cell? w2 _ e0;have E:=zh (And.intro e0 (And.intro e1 e2));clear bx d0 d1 d2 H H1;go_wp2
    go_loopw [33] (fun i wr=>∃k:Nat,k<=n.ends.length/\i=.int .i64 k/\((List.range k).all fun v=>fZ n.ends v (n.ends.getD v []))=true/\Below w2.heap.size w2 wr) (fun i _=>n.ends.length-(intOf i).toNat)
    case atStart=>exact⟨0,Nat.zero_le _,rfl,rfl,Below.refl _ _⟩
    case round=>
     obtain⟨k,hk,rfl,bH,xt⟩:=hrel;have ir:=zh bH;have Aa:=zh xt;clear bH xt
     by_cases az:k<n.ends.length
     ·obtain⟨es,bM⟩:=aA n.ends k az;obtain⟨b,off,u,rfl,eD,dm⟩:=HA.out k es bM;have L_:=sG.out.trans (Aa.out.mono sG.out.size);have rg:=bc L_ eD;have Mx:=zh (dm.keep L_);obtain⟨A1,z1,rfl,dh,dt,gh⟩:=dm;have qh:=zh gh;unfold maxLen at dt;have jZ:=zh bM;have Zt:=zh L_;clear bM L_ eD gh
      by_cases h6:es.length<=6
      ·go_wp2;obtain⟨wo,rfl⟩:∃wo:World,wo=wr:=⟨_,rfl⟩
       go_loopw [43] (fun i wq=>∃j:Nat,j<=es.length/\i=.int .i64 j/\((List.range j).all fun i=>iM n.ends k i (es.getD i (0,0)))=true/\Below wo.heap.size wo wq) (fun i _=>es.length-(intOf i).toNat)
       case atStart=>exact⟨0,Nat.zero_le _,rfl,rfl,Below.refl _ _⟩
       case round=>
        obtain⟨j,hj,rfl,Ab,Ac⟩:=hrel;have Ad:=zh Ab;have P9:=zh Ac;have IE:=Zt.out.trans (Ac.mono Zt.out.size);have Ma:=Aa.out.trans (Ac.mono Aa.out.size);clear Ab Ac
        by_cases rp:j<es.length
        ·obtain⟨⟨x1,x2⟩,he⟩:=aA es j rp;obtain⟨b1,mJ,rfl,ju,gC⟩:=qh.out j _ he;have q1:=bc IE ju;have q2:=bc IE gC;obtain⟨n0,n1,n2⟩:=E.out;have m0:=bc Ma n0;have m1:=bc Ma n1;have m2:=bc Ma n2;have abM:w.heap.size<wr.heap.size:=World.block_lt_of_cell? wr _ m0;have He:=zh he;have My:=zh IE;have HN:=zh (H2.out.1.keep Ma);clear he IE Ma n0 n1 n2 ju gC rg;cases hp:bT n.ends x1 x2
         ·have Hp:=zh hp;go_wp2;obtain⟨w0,bQ⟩:∃w0,(wr.alloc (Obj.cells #[Value.int IntKind.i64 x1,Value.int IntKind.i64 x2] 83))=w0:=⟨_,rfl⟩
          rw[bQ]
          have yj:Below wr.heap.size wr w0:=by rw[<- bQ];exact ai _ _
          have P_:∀W,ab w0 W->W.cell? ⟨w.heap.size,0,none⟩=some (.slice (some ⟨b,off,none⟩) n.ends.length c):=fun W hW=>bc hW (bc yj m0)
          have tJ:∀W,ab w0 W->W.cell? ⟨w.heap.size,1,none⟩=some (.slice A2 n.ids.length c2):=fun W hW=>bc hW (bc yj m1)
          have rq:∀W,ab w0 W->W.cell? ⟨w.heap.size,2,none⟩=some (.slice A3 n.acn.length c3):=fun W hW=>bc hW (bc yj m2)
          have Zu:∀W,ab w0 W->W.cell? ⟨wr.heap.size,0,none⟩=some (.int .i64 x1):=fun W hW=>bc hW (by rw[<- bQ];simp)
          have Zv:∀W,ab w0 W->W.cell? ⟨wr.heap.size,1,none⟩=some (.int .i64 x2):=fun W hW=>bc hW (by rw[<- bQ];simp)
          have Zw:=zh (HN.out.keep yj);have Ae:=zh yj;clear bQ yj m0 m1 m2;refine av 23 (ab w0) (by kernel_rfl) (by kernel_rfl) (by simp) (ab.drew w0) ?_;simp only[zT]
          iterate 5 (refine b_ rfl ?_;simp only[zA])
          refine fc (.bool false) rfl (fun W hW=>?_) ?_
          ·unfold da
           go_simp
           refine(r8 _ _ _ n.ends x1 x2 W (Zw.out.keep hW)).mono ?_;rintro e W' ⟨rfl,bB⟩;exact⟨by rw[Hp.out],hW.trans bB⟩
          simp only[zA]
          iterate 2 (refine b_ rfl ?_;simp only[zA])
          iterate 14 (refine xp rfl ?_;simp only[zA])
          iterate 1 (refine b_ rfl ?_;simp only[zA])
          intro W hW;have HW:=zh hW;clear hW;go_wp2;go_ret
          exact⟨aW (by rw[hr.out];refine aP az ?_;rw[ao jZ.out];simp only[fZ];rw[Bool.and_eq_false_iff];exact .inr (aP rp (by rw[ao He.out];simp[iM,Hp.out]))),(My.out.trans (Ae.out.mono My.out.size)).trans ((show Below w0.heap.size w0 W from HW.out).mono (by have:=My.out.size;have:=Ae.out.size;omega))⟩
         ·have Hp:=zh hp;have Tx:=hp;unfold bT at Tx;rw[Bool.and_eq_true]at Tx;obtain⟨p1,p2⟩:=Tx;obtain⟨p3,p4⟩:=bz.1 p1;obtain⟨k1,rfl⟩:=Int.eq_ofNat_of_zero_le p3;have kJ:k1<n.ends.length:=by omega
          obtain⟨Fe,Af⟩:=aA n.ends k1 kJ;rw[Int.toNat_natCast,ao Af]at p2;obtain⟨p5,p6⟩:=bz.1 p2;obtain⟨i1,rfl⟩:=Int.eq_ofNat_of_zero_le p5;have tJ:i1<Fe.length:=by omega
          obtain⟨⟨y1,y2⟩,hy⟩:=aA Fe i1 tJ;obtain⟨b2,Ty,u',yc,CE,Je⟩:=HA.out k1 Fe Af
          injection yc with yc
          injection yc with q3 q4
          subst q3 q4;obtain⟨Jf,Tz,rfl,Zx,Qa,Df⟩:=Je;obtain⟨b3,Mz,rfl,Qb,OP⟩:=Df i1 _ hy;unfold maxLen at Qa;have Hy:=zh hy;have Gb:=zh Af;have g3:=bc My.out CE;have g5:=bc My.out Qb;have g6:=bc My.out OP;clear Af hy CE Qb OP Df p1 p2 hp;go_wp2;obtain⟨w0,bQ⟩:∃w0,(wr.alloc (Obj.cells #[Value.int IntKind.i64 (k1:Int),Value.int IntKind.i64 (i1:Int)] 83))=w0:=⟨_,rfl⟩
          rw[bQ]
          have yj:Below wr.heap.size wr w0:=by rw[<- bQ];exact ai _ _
          have i0:∀W,ab w0 W->W.cell? ⟨w.heap.size,0,none⟩=some (.slice (some ⟨b,off,none⟩) n.ends.length c):=fun W hW=>bc hW (bc yj m0)
          have i1':∀W,ab w0 W->W.cell? ⟨w.heap.size,1,none⟩=some (.slice A2 n.ids.length c2):=fun W hW=>bc hW (bc yj m1)
          have i2:∀W,ab w0 W->W.cell? ⟨w.heap.size,2,none⟩=some (.slice A3 n.acn.length c3):=fun W hW=>bc hW (bc yj m2)
          have i3:∀W,ab w0 W->W.cell? ⟨wr.heap.size,0,none⟩=some (.int .i64 (k1:Int)):=fun W hW=>bc hW (by rw[<- bQ];simp)
          have i4:∀W,ab w0 W->W.cell? ⟨wr.heap.size,1,none⟩=some (.int .i64 (i1:Int)):=fun W hW=>bc hW (by rw[<- bQ];simp)
          have i5:∀W,ab w0 W->W.cell? ⟨b,off+k1,none⟩=some (.slice (some ⟨b3,Mz,none⟩) Fe.length Tz):=fun W hW=>bc hW (bc yj g3)
          have i6:∀W,ab w0 W->W.cell? ⟨b3,Mz+i1*2,none⟩=some (.int .i64 y1):=fun W hW=>bc hW (bc yj g5)
          have i7:∀W,ab w0 W->W.cell? ⟨b3,Mz+i1*2+1,none⟩=some (.int .i64 y2):=fun W hW=>bc hW (bc yj g6)
          have Zw:=zh (HN.out.keep yj);have Ae:=zh yj;clear bQ yj m0 m1 m2 g3 g5 g6;refine av 23 (ab w0) (by kernel_rfl) (by kernel_rfl) (by simp) (ab.drew w0) ?_;simp only[zT]
          iterate 5 (refine b_ rfl ?_;simp only[zA])
          refine fc (.bool true) rfl (fun W hW=>?_) ?_
          ·unfold da
           go_simp
           refine(r8 _ _ _ n.ends k1 i1 W (Zw.out.keep hW)).mono ?_;rintro e W' ⟨rfl,bB⟩;exact⟨by rw[Hp.out],hW.trans bB⟩
          simp only[zA]
          iterate 15 (refine b_ rfl ?_;simp only[zA])
          refine fc (.bool (!pZ (y1,y2) ((k:Int),(j:Int)))) rfl (fun W hW=>?_) ?_
          ·unfold da
           go_simp
           by_cases f1:y1=(k:Int)
           ·by_cases f2:y2=(j:Int)
            ·simp[f1,f2,pZ,hW]
            ·simp[f1,f2,pZ,hW]
           ·simp[f1,pZ,hW]
          simp only[zA];cases hq:pZ (y1,y2) ((k:Int),(j:Int))
          all_goals
           have Hq:=zh hq;clear hq
           iterate 1 (refine b_ rfl ?_;simp only[zA])
           intro W hW;have HW:=zh hW
           have HbW:=zh ((My.out.trans (Ae.out.mono My.out.size)).trans ((show Below w0.heap.size w0 W from hW).mono (by have:=My.out.size;have:=Ae.out.size;omega)))
           have Zy:=zh ((P9.out.trans (Ae.out.mono P9.out.size)).trans ((show Below w0.heap.size w0 W from hW).mono (by have:=P9.out.size;have:=Ae.out.size;omega)))
           clear hW;go_wp2
          ·go_ret
           exact⟨aW (by rw[hr.out];refine aP az ?_;rw[ao jZ.out];simp only[fZ];rw[Bool.and_eq_false_iff];exact .inr (aP rp (by rw[ao He.out];simp[iM,Hp.out,Gb.out,Hy.out,Hq.out]))),HbW.out⟩
          ·go_roundw
           case rel=>exact⟨j+1,by omega,by go_num,by rw[cC,Ad.out,ao He.out];simp[iM,Hp.out,Gb.out,Hy.out,Hq.out],Zy.out⟩
           case measure=>simp[intOf];omega
        ·obtain rfl:j=es.length:=by omega
         have Zz:=zh Ma;clear IE Ma;go_wp2;go_roundw
         case rel=>exact⟨k+1,by omega,by go_num,by rw[cC,ir.out,ao jZ.out,Bool.true_and];unfold fZ;rw[Ad.out];simp[h6],Zz.out⟩
         case measure=>simp[intOf];omega
      ·go_wp2;go_ret
       exact⟨aW (by rw[hr.out];exact aP az (by rw[ao jZ.out];simp[fZ,h6])),Zt.out⟩
     ·obtain rfl:k=n.ends.length:=by omega
      go_wp2;go_ret
      exact⟨j7 (by rw[hr.out];exact ir.out),sG.out.trans (Aa.out.mono sG.out.size)⟩
end Go.Proofs.YtgmdpppljkmabaaGreat
