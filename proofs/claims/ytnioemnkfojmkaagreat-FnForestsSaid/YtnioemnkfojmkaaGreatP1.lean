/- Parts of the proof: walks of functions and plain laws. -/
import Derived.Test.YtnioemnkfojmkaaGreatP0
import Derived.Orders
import Derived.Below
import Derived.Tactics
set_option maxRecDepth 100000
set_option maxHeartbeats 16000000
namespace Go.Proofs.YtnioemnkfojmkaaGreat
open Go Go.RowKit
section
variable {P : Program} {ops : Array Oper} {Inv : World → Prop}
def ab (w0 W:World):Prop:=Below w0.heap.size w0 W
theorem ab.drew (w0:World):ab w0 w0.drew:=(Below.refl _ _).drew
theorem ab.trans {w0 W W':World} (h:ab w0 W) (h':Below W.heap.size W W'):ab w0 W':=Below.trans h (h'.mono h.size)
theorem zQ {P:Program} {f:FuncId} {a:Array Value} {w0 W:World} {E:Ending} {R:World->Prop} (h:Calls P f a W fun e w'=>e=E/\R w') (k:∀w',R w'->ab w0 w':=by intro _ h;first | exact ab.trans (by assumption) h | (subst h;assumption)):Calls P f a W fun e w'=>e=E/\ab w0 w':=h.mono fun _ _ q=>⟨q.1,k _ q.2⟩
def a_ (P:Program) (Inv:World->Prop) (o:Oper) (A:Act) (W:World) (v:Value):Prop:=
 match (execOp A.eval o).run P W with
 | .ok (.value u) W'=>u=v/\Inv W'
 | .ok .skip W'=>undef=v/\Inv W'
 | .ok (.enter f args) W'=>Calls P f args W' fun e qP=>e=.returned v/\Inv qP
 | _=>False
def zn (P:Program) (ops:Array Oper) (Inv:World->Prop) (o:Oper) (A:Act) (v:Value):Prop:=
 ∀W,Inv W->(Region.wanted o (yielded ops A.tmps)=true/\a_ P Inv o A W v)\/(Region.wanted o (yielded ops A.tmps)=false/\v=undef)
def iH (P:Program) (ops:Array Oper) (Inv:World->Prop) (fin:Act->Prop):List Oper->Act->Prop
 | [],A=>fin A
 | o::rest,A=>∃v,zn P ops Inv o A v/\iH P ops Inv fin rest (A.put o.dst v)
def da (o:Oper):List Nat:=o.after.toList.filterMap fun e=>if Region.binds .any e then some e.on else none
theorem Gj {o:Oper} {j:Nat}:j∈da o↔∃e∈o.after,Region.binds .any e=true/\e.on=j:=by
 unfold da;rw[List.mem_filterMap];constructor
 ·rintro⟨e,he,h⟩
  split at h
  ·rename_i hb;cases h;exact⟨e,by simpa using he,hb,rfl⟩
  ·cases h
 ·rintro⟨e,he,hb,rfl⟩;exact⟨e,by simpa using he,by simp[hb]⟩
inductive UW (ops:Array Oper) (j:Nat):Nat->Prop
 | dep {i:Nat} {o:Oper}:ops[i]?=some o->j∈da o->UW ops j i
 | step {m i:Nat} {o:Oper}:UW ops j m->ops[i]?=some o->m∈da o->UW ops j i
def L5 (ops:Array Oper) (tbl:List (List Nat)) (i:Nat):List Nat:=
 match ops[i]? with
 | none=>[]
 | some o=>(List.range i).filter fun j=>(da o).contains j||(da o).any fun m=>(tbl.getD m []).contains j
def kP (ops:Array Oper):Nat->List (List Nat)
 | 0=>[]
 | n+1=>let t:=kP ops n;t++[L5 ops t n]
theorem Gk (n:Nat):(kP ops n).length=n:=by
 induction n with
 | zero=>rfl
 | succ n ih=>simp[kP,ih]
theorem kQ (n:Nat):∀i j,j∈(kP ops n).getD i []->UW ops j i:=by
 induction n with
 | zero=>intro i j h;simp[kP]at h
 | succ n ih=>
  intro i j h;have hl:=Gk (ops:=ops) n;simp only[kP]at h;rcases Nat.lt_trichotomy i n with hi | hi | hi
  ·rw[zDd,List.getElem?_append_left zO,<- zDd]at h;exact ih i j h
  ·subst hi;rw[zDd,List.getElem?_append_right zO,hl,Nat.sub_self]at h;simp only[List.getElem?_cons_zero,Option.getD_some,L5]at h
   cases ho:ops[i]? with
   | none=>simp[ho]at h
   | some o=>
    simp only[ho,List.mem_filter,Bool.or_eq_true,List.any_eq_true,List.contains_iff_mem]at h;rcases h.2 with h | ⟨m,hm,hj⟩
    ·exact .dep ho h
    ·exact .step (ih m j hj) ho hm
  ·rw[zDd,List.getElem?_append_right zO,hl,List.getElem?_eq_none (by simp;omega)]at h;simp at h
def xx (ops:Array Oper) (k:Nat):Bool:=
 Region.noSelect ops &&
 ((List.range ops.size).all fun i=>match ops[i]? with
  | none=>true
  | some o=>((da o).all fun j=>decide (j<i)) &&
   (decide (k<=i) ||
    (((o.looksAt ops).all fun t=>(List.range k).all fun j=>match ops[j]? with
     | none=>true
     | some oj=>if oj.dst=some t then (da o).contains j else true) &&
    ((List.range k).all fun j=>match ops[j]? with
     | none=>true
     | some oj=>decide (j=i)||(match o.dst with | none=>true | some d=>oj.dst != some d)))) &&
   (decide (i<k)||((List.range i).all fun j=>((kP ops (i+1)).getD i []).contains j)))
structure JP (ops:Array Oper) (k:Nat):Prop where
 ahc:∀(j:Nat) (o:Oper) cs b,ops[j]?=some o->o.op ≠ .select cs b
 back:∀i o,ops[i]?=some o->∀j∈da o,j<i
 looks:∀i o,i<k->ops[i]?=some o->∀t∈o.looksAt ops,∀j oj,j<k->ops[j]?=some oj->oj.dst=some t->j∈da o
 aha:∀i o,i<k->ops[i]?=some o->∀j oj,j<k->ops[j]?=some oj->∀d,o.dst=some d->oj.dst=some d->j=i
 tail:∀i,k<=i->i<ops.size->∀j,j<i->UW ops j i
theorem uC {k:Nat} (h:xx ops k=true):JP ops k:=by
 unfold xx at h;rw[Bool.and_eq_true,List.all_eq_true]at h;obtain⟨hs,h⟩:=h
 have lw:∀(i:Nat) (o:Oper),ops[i]?=some o->_:=fun i o ho=>by
  have:=h i (List.mem_range.2 (Array.getElem?_eq_some_iff.1 ho).1)
  simp only[ho,Bool.and_eq_true]at this;exact this
 refine⟨fun j o cs b ho=>Region.noSelect_spec hs j o cs b ho,fun i o ho j hj=>?_,fun i o hi ho t ht j oj hj jf hd=>?_,fun i o hi ho j oj hj jf d hd jL=>?_,fun i nR hi j hj=>?_⟩
 ·have:=(lw i o ho).1.1
  rw[List.all_eq_true]at this;simpa using this j hj
 ·have:=(lw i o ho).1.2
  rw[Bool.or_eq_true]at this;rcases this with h1 | h1
  ·simp at h1;omega
  ·rw[Bool.and_eq_true]at h1;have h2:=List.all_eq_true.1 (List.all_eq_true.1 h1.1 t ht) j (List.mem_range.2 hj);simp only[jf,hd,if_true]at h2;simpa using h2
 ·have:=(lw i o ho).1.2
  rw[Bool.or_eq_true]at this;rcases this with h1 | h1
  ·simp at h1;omega
  ·rw[Bool.and_eq_true]at h1;have h2:=List.all_eq_true.1 h1.2 j (List.mem_range.2 hj);simp only[jf,hd,jL,Bool.or_eq_true,decide_eq_true_eq]at h2;rcases h2 with h2 | h2
   ·exact h2
   ·simp at h2
 ·obtain⟨o,ho⟩:∃o,ops[i]?=some o:=⟨_,Array.getElem?_eq_getElem hi⟩
  have:=(lw i o ho).2
  rw[Bool.or_eq_true]at this;rcases this with h1 | h1
  ·simp at h1;omega
  ·have h2:=List.all_eq_true.1 h1 j (List.mem_range.2 hj);exact kQ (i+1) i j (by simpa using h2)
structure bi (a:Act) (ops:Array Oper) (agY:Nat->Value) (D:Nat->Prop) (a':Act):Prop where
 defers:a'.defers=a.defers
 size:a'.tmps.size=a.tmps.size
 on:∀j o t,D j->ops[j]?=some o->o.dst=some t->t<a.tmps.size->a'.tmps[t]?=some (agY j)
 off:∀t,(∀j o,D j->ops[j]?=some o->o.dst≠some t)->a'.tmps[t]?=a.tmps[t]?
theorem bi.start (a:Act) (agY:Nat->Value):bi a ops agY (fun _=>False) a:=⟨rfl,rfl,fun _ _ _ h=>h.elim,fun _ _=>rfl⟩
theorem bi.put {a a':Act} {agY:Nat->Value} {D:Nat->Prop} {i:Nat} {o:Oper} (h:bi a ops agY D a') (ho:ops[i]?=some o) (hd:∀j oj d,D j->ops[j]?=some oj->o.dst=some d->oj.dst≠some d):
  bi a ops agY (fun j=>D j\/j=i) (a'.put o.dst (agY i)):=by
 cases Y_:o.dst with
 | none=>
  refine⟨h.defers,h.size,fun j oj t hj jf ht aA=>?_,fun t ht=>h.off t (fun j oj hj=>ht j oj (.inl hj))⟩
  rcases hj with hj | rfl
  ·exact h.on j oj t hj jf ht aA
  ·rw[ho]at jf;cases jf;rw[Y_]at ht;cases ht
 | some d=>
  refine⟨h.defers,by simp[Act.put,h.size],fun j oj t hj jf ht aA=>?_,fun t ht=>?_⟩
  ·rcases hj with hj | rfl
   ·have jh:d≠t:=fun e=>hd j oj d hj jf Y_ (by rw[e];exact ht)
    simp only[Act.put];rw[Array.getElem?_setIfInBounds_ne jh];exact h.on j oj t hj jf ht aA
   ·rw[ho]at jf;cases jf;rw[Y_]at ht;cases ht
    simp only[Act.put]
    rw[Array.getElem?_setIfInBounds_self_of_lt (by rw[h.size];exact aA)]
  ·have jh:d≠t:=fun e=>ht i o (.inr rfl) ho (by rw[Y_,e])
   simp only[Act.put];rw[Array.getElem?_setIfInBounds_ne jh];exact h.off t (fun j oj hj=>ht j oj (.inl hj))
theorem bi.agree {a a1 a2:Act} {agY:Nat->Value} {D E:Nat->Prop} (h1:bi a ops agY D a1) (h2:bi a ops agY E a2) (t:Tmp)
  (ht:∀j o,(D j\/E j)->ops[j]?=some o->o.dst=some t->D j/\E j):a1.tmps[t]?=a2.tmps[t]?:=by
 rcases Nat.lt_or_ge t a.tmps.size with aA | hge
 ·by_cases hex:∃j o,(D j\/E j)/\ops[j]?=some o/\o.dst=some t
  ·obtain⟨j,o,hj,ho,hd⟩:=hex;obtain⟨hD,hE⟩:=ht j o hj ho hd;rw[h1.on j o t hD ho hd aA,h2.on j o t hE ho hd aA]
  ·rw[h1.off t (fun j o hj ho hd=>hex ⟨j,o,.inl hj,ho,hd⟩),h2.off t (fun j o hj ho hd=>hex ⟨j,o,.inr hj,ho,hd⟩)]
 ·rw[Array.getElem?_eq_none (by rw[h1.size];exact hge),Array.getElem?_eq_none (by rw[h2.size];exact hge)]
theorem bi.ext {a a1 a2:Act} {agY:Nat->Value} {D E:Nat->Prop} (h1:bi a ops agY D a1) (h2:bi a ops agY E a2) (hDE:∀j,j<ops.size->(D j↔E j)):a1=a2:=by
 have ht:a1.tmps=a2.tmps:=by
  apply Array.ext_getElem?
  intro t;refine h1.agree h2 t (fun j o hj ho _=>?_)
  have:=hDE j (Array.getElem?_eq_some_iff.1 ho).1
  rcases hj with hj | hj
  ·exact⟨hj,this.1 hj⟩
  ·exact⟨this.2 hj,hj⟩
 have hd:a1.defers=a2.defers:=h1.defers.trans h2.defers.symm
 cases a1;cases a2;simp_all
theorem xy {fin:Act->Prop} (l:List Oper):∀(A:Act),iH P ops Inv fin l A ->
  ∃(agY:Nat->Value) (F:Nat->Act),F 0=A/\fin (F l.length)/\∀i o,l[i]?=some o->zn P ops Inv o (F i) (agY i)/\F (i+1)=(F i).put o.dst (agY i):=by
 induction l with
 | nil=>intro A h;exact⟨fun _=>undef,fun _=>A,rfl,h,fun i o h=>by simp at h⟩
 | cons o l ih=>
  intro A h;obtain⟨v,hs,hf⟩:=h;obtain⟨agY,F,h0,kV,eF⟩:=ih _ hf;refine⟨fun i=>match i with | 0=>v | i+1=>agY i,fun i=>match i with | 0=>A | i+1=>F i,rfl,kV,?_⟩
  intro i o' hi
  cases i with
  | zero=>simp at hi;subst hi;exact⟨hs,h0⟩
  | succ i=>exact eF i o' (by simpa using hi)
theorem filter_lt {l:List Nat} {p q:Nat->Bool} (h:∀x,q x=true->p x=true) {x:Nat} (hx:x∈l) (hp:p x=true) (hq:q x=false):(l.filter q).length<(l.filter p).length:=by
 induction l with
 | nil=>simp at hx
 | cons y l ih=>
  have EB:(l.filter q).length<=(l.filter p).length:=by
   clear ih hx
   induction l with
   | nil=>simp
   | cons z l ih2=>
    rw[List.filter_cons,List.filter_cons];cases hqz:q z
    ·cases PN:p z <;> simp <;> omega
    ·rw[h z hqz];simpa using ih2
  rw[List.filter_cons,List.filter_cons];rcases List.mem_cons.1 hx with rfl | hx
  ·rw[hp,hq];simp;omega
  ·have:=ih hx
   cases hqy:q y
   ·cases hpy:p y <;> simp <;> omega
   ·rw[h y hqy];simpa using this
theorem JQ {D:Nat->Prop} (hc:∀i o,D i->ops[i]?=some o->∀j∈da o,D j) {j i:Nat} (h:UW ops j i):D i->D j:=by
 induction h with
 | dep ho hj=>intro hi;exact hc _ _ hi ho _ hj
 | step _ ho hm ih=>intro hi;exact ih (hc _ _ hi ho _ hm)
theorem jM {D:Nat->Prop} (hc:∀i o,D i->ops[i]?=some o->∀j∈da o,D j) {j i:Nat} {o:Oper} (ho:ops[i]?=some o) (hr:∀m∈da o,D m) (h:UW ops j i):D j:=by
 cases h with
 | dep xr hj=>rw[ho]at xr;cases xr;exact hr _ hj
 | step ha xr hm=>rw[ho]at xr;cases xr;exact JQ hc ha (hr _ hm)
theorem gV {j:Nat} {aC:Array Bool}:j∈Region.ready .any ops aC↔aC.getD j true=false/\∃o,ops[j]?=some o/\∀m∈da o,aC.getD m false=true:=by
 rw[mem_ready];constructor
 ·rintro⟨h0,o,ho,h⟩;refine⟨h0,o,ho,fun m hm=>?_⟩
  obtain⟨e,he,hb,rfl⟩:=Gj.1 hm;exact h e he hb
 ·rintro⟨h0,o,ho,h⟩;exact⟨h0,o,ho,fun e he hb=>h e.on (Gj.2 ⟨e,he,hb,rfl⟩)⟩
theorem mr {aC:Array Bool} {j:Nat} (hj:j<aC.size):aC.getD j true=aC.getD j false:=by simp[hj]
theorem Dt {Q:Exit->Act->World->Prop} {k:Nat} (hf:JP ops k):∀(ng m:Nat) (aC:Array Bool) (a:Act) (W:World),k<=m->m<=ops.size->ops.size-m<=ng->aC.size=ops.size ->
  (∀j,j<ops.size->aC.getD j false=decide (j<m))->wpList P ops Q (ops.toList.drop m) a W->wpAny P .any ops Q ng aC a W:=by
 have Qs:∀(m:Nat) (aC:Array Bool),k<=m->m<=ops.size->aC.size=ops.size->(∀j,j<ops.size->aC.getD j false=decide (j<m))->∀i∈Region.ready .any ops aC,i=m:=by
  intro m aC hkm hm fD hl i hi;obtain⟨h0,o,ho,lB⟩:=gV.1 hi;have cH:i<ops.size:=(Array.getElem?_eq_some_iff.1 ho).1;rw[mr zO,hl i cH]at h0;simp at h0
  rcases Nat.lt_or_ge m i with aA | hge
  ·have:=jM (D:=fun j=>j<m) (fun i' o' jS xr j hj=>zX (hf.back i' o' xr j hj)) ho (fun d hd=>by
    have h1:=lB d hd;have h2:=hf.back i o ho d hd;rw[hl d zO]at h1
    simpa using h1) (hf.tail i zO cH m aA)
   omega
  ·omega
 intro ng
 induction ng with
 | zero=>
  intro m aC a W hkm hm Za fD hl h;obtain rfl:m=ops.size:=zO
  refine⟨List.eq_nil_iff_forall_not_mem.2 (fun i hi=>?_),?_⟩
  ·have:=Qs ops.size aC hkm hm fD hl i hi
   obtain⟨_,o,ho,_⟩:=gV.1 hi
   have:=(Array.getElem?_eq_some_iff.1 ho).1
   omega
  ·rw[List.drop_of_length_le zS]at h;exact h
 | succ ng ih=>
  intro m aC a W hkm hm Za fD hl h;refine⟨fun JR=>?_,fun i hi=>?_⟩
  ·rcases Nat.lt_or_ge m ops.size with aA | hge
   ·exfalso
    have sT:m∈Region.ready .any ops aC:=by
     refine gV.2 ⟨by rw[mr zO,hl m aA];simp,ops[m],Array.getElem?_eq_getElem aA,fun d hd=>?_⟩
     have h2:=hf.back m _ (Array.getElem?_eq_getElem aA) d hd
     rw[hl d zO];simpa using h2
    rw[JR]at sT;simp at sT
   ·rw[List.drop_of_length_le (by simp;omega)]at h;exact h
  ·obtain rfl:=Qs m aC hkm hm fD hl i hi
   obtain⟨_,o,ho,_⟩:=gV.1 hi;have cH:i<ops.size:=(Array.getElem?_eq_some_iff.1 ho).1;rw[List.drop_eq_getElem_cons (by simpa using cH)]at h
   have Qt:ops.toList[i]'(by simpa using cH)=o:=by
    have:=(Array.getElem?_eq_some_iff.1 ho).2
    simpa using this
   rw[Qt]at h;unfold wpList at h;unfold wpOp;simp only[ho]
   have next:∀a W,wpList P ops Q (ops.toList.drop (i+1)) a W->wpAny P .any ops Q ng (aC.setIfInBounds i true) a W:=fun a W h'=>
    ih (i+1) _ a W zO zO zO (by simpa using fD) (fun j hj=>by
     by_cases nh:i=j
     ·subst nh;simp[fD,cH]
     ·rw[getD_set_ne false nh,hl j hj]
      simp;omega) h'
   split
   ·rename_i hw
    rw[if_pos hw]at h;exact h.imp (Oper.wp_mono next) id
   ·rename_i hw
    rw[if_neg hw]at h;exact next _ _ h
theorem Ni {Q:Exit->Act->World->Prop} {k:Nat} (hf:JP ops k) (hk:k<=ops.size) (a:Act) (agY:Nat->Value) (F:Nat->Act) (hF:∀i,i<=k->bi a ops agY (fun j=>j<i) (F i))
  (eF:∀i o,i<k->ops[i]?=some o->zn P ops Inv o (F i) (agY i)) (kV:∀W,Inv W->wpList P ops Q (ops.toList.drop k) (F k) W):
  ∀(ng:Nat) (aC:Array Bool) (a':Act) (W:World),aC.size=ops.size->(∀i o,aC.getD i false=true->ops[i]?=some o->∀j∈da o,aC.getD j false=true)->(∀j,aC.getD j false=true->j<k) ->
   (ops.size-k)+((List.range k).filter fun j => !aC.getD j false).length<=ng->bi a ops agY (fun j=>aC.getD j false=true) a'->Inv W->wpAny P .any ops Q ng aC a' W:=by
 intro ng
 induction ng with
 | zero=>
  intro aC a' W fD lC aA Za oF hI
  have c_:∀j,j<k->aC.getD j false=true:=fun j hj=>by
   rcases hb:aC.getD j false with _ | _
   ·have:0<((List.range k).filter fun j => !aC.getD j false).length:=List.length_pos_of_mem (List.mem_filter.2 ⟨List.mem_range.2 hj,by simp[hb]⟩)
    omega
   ·rfl
  have hl:∀j,j<ops.size->aC.getD j false=decide (j<k):=fun j _=>by
   by_cases h:j<k
   ·rw[c_ j h];simp[h]
   ·cases hb:aC.getD j false
    ·simp[h]
    ·exact absurd (aA j hb) h
  have:a'=F k:=oF.ext (hF k (Nat.le_refl _)) (fun j hj=>by rw[hl j hj];simp)
  subst this;exact Dt hf 0 k aC _ W (Nat.le_refl _) hk zO fD hl (kV W hI)
 | succ ng ih=>
  intro aC a' W fD lC aA Za oF hI
  by_cases c_:∀j,j<k->aC.getD j false=true
  ·have hl:∀j,j<ops.size->aC.getD j false=decide (j<k):=fun j _=>by
    by_cases h:j<k
    ·rw[c_ j h];simp[h]
    ·cases hb:aC.getD j false
     ·simp[h]
     ·exact absurd (aA j hb) h
   have:a'=F k:=oF.ext (hF k (Nat.le_refl _)) (fun j hj=>by rw[hl j hj];simp)
   subst this;exact Dt hf (ng+1) k aC _ W (Nat.le_refl _) hk zO fD hl (kV W hI)
  ·obtain⟨j0,hj0,abx⟩:∃j,j<k/\aC.getD j false=false:=by
    refine Classical.byContradiction fun i_=>c_ fun j hj=>?_
    cases hb:aC.getD j false
    ·exact absurd ⟨j,hj,hb⟩ i_
    ·rfl
   refine⟨fun JR=>?_,fun i hi=>?_⟩
   ·exfalso
    have:∀m,∀j,j<=m->j<k->aC.getD j false=false->False:=by
     intro m
     induction m using Nat.strongRecOn with
     | ind m ihm=>
      intro j hjm sU hjn;have hjs:j<ops.size:=zO
      by_cases hd:∀d∈da ops[j],aC.getD d false=true
      ·have sT:j∈Region.ready .any ops aC:=gV.2 ⟨by rw[mr zO];exact hjn,ops[j],Array.getElem?_eq_getElem hjs,hd⟩
       rw[JR]at sT;simp at sT
      ·obtain⟨d,qD,jL⟩:∃d,d∈da ops[j]/\aC.getD d false=false:=by
        refine Classical.byContradiction fun i_=>hd fun d hd=>?_
        cases hb:aC.getD d false
        ·exact absurd ⟨d,hd,hb⟩ i_
        ·rfl
       have hdj:=hf.back j _ (Array.getElem?_eq_getElem hjs) d qD;exact ihm d zO d (Nat.le_refl _) zO jL
    exact this j0 j0 (Nat.le_refl _) hj0 abx
   ·obtain⟨h0,o,ho,lB⟩:=gV.1 hi;have cH:i<ops.size:=(Array.getElem?_eq_some_iff.1 ho).1;rw[mr zO]at h0
    have nS:i<k:=by
     rcases Nat.lt_or_ge i k with h | h
     ·exact h
     ·have:=jM (D:=fun j=>aC.getD j false=true) lC ho lB (hf.tail i h cH j0 zO)
      simp only[abx]at this;cases this
    have Zb:∀t∈o.looksAt ops,a'.tmps[t]?=(F i).tmps[t]?:=fun t ht=>oF.agree (hF i zO) t (fun j oj hj jf hd=>by
     have sU:j<k:=by
      rcases hj with hj | hj
      ·exact aA j hj
      ·omega
     have:=hf.looks i o nS ho t ht j oj sU jf hd
     exact⟨lB j this,hf.back i o ho j this⟩)
    have he:execOp a'.eval o=execOp (F i).eval o:=execOp_congr o (fun cs b=>hf.ahc i o cs b ho) (fun x hx=>by
     cases x with
     | tmp t=>
      have:=Zb t (List.mem_append_left _ (List.mem_filterMap.2 ⟨.tmp t,by simpa using hx,rfl⟩))
      simp[Act.eval,this]
     | _=>rfl)
    have hw:Region.wanted o (yielded ops a'.tmps)=Region.wanted o (yielded ops (F i).tmps):=by
     unfold Region.wanted
     cases hg:o.guard with
     | none=>rfl
     | some gw=>
      obtain⟨g,adQ⟩:=gw
      have:yielded ops a'.tmps g=yielded ops (F i).tmps g:=by
       unfold yielded
       cases ht:(ops[g]?).bind (·.dst) with
       | none=>rfl
       | some t=>
        have:=Zb t (by simp[Oper.looksAt,hg,ht])
        simp[this]
      simp only[this]
    have next:∀W',Inv W'->wpAny P .any ops Q ng (aC.setIfInBounds i true) (a'.put o.dst (agY i)) W':=fun W' hI'=>by
     have ki:∀j,(aC.setIfInBounds i true).getD j false=true↔(aC.getD j false=true\/j=i):=fun j=>by
      by_cases nh:i=j
      ·subst nh;simp[fD,cH]
      ·rw[getD_set_ne false nh];constructor
       ·exact .inl
       ·rintro(h | h)
        ·exact h
        ·exact absurd h.symm nh
     refine ih _ _ W' (by simpa using fD) (fun i' o' jS xr j hj=>?_) (fun j hj=>?_) ?_ ?_ hI'
     ·rcases(ki i').1 jS with h | rfl
      ·exact(ki j).2 (.inl (lC i' o' h xr j hj))
      ·rw[ho]at xr;cases xr
       exact(ki j).2 (.inl (lB j hj))
     ·rcases(ki j).1 hj with h | rfl
      ·exact aA j h
      ·exact nS
     ·have adR:=filter_lt (l:=List.range k) (p:=fun j => !aC.getD j false) (q:=fun j => !(aC.setIfInBounds i true).getD j false) (fun x hx=>by
       cases hb:aC.getD x false
       ·rfl
       ·have:=(ki x).2 (.inl hb)
        simp only[this]at hx
        cases hx) (List.mem_range.2 nS) (by simp only[h0];rfl) (by simp only[(ki i).2 (.inr rfl)];rfl)
      omega
     ·have:=oF.put (i:=i) ho (fun j oj d hj jf hd jL=>by
       have:=hf.aha i o nS ho j oj (aA j hj) jf d hd jL
       subst this;rw[h0]at hj
       cases hj)
      refine⟨this.defers,this.size,fun j oj t hj=>this.on j oj t ((ki j).1 hj),fun t ht=>this.off t (fun j oj hj=>ht j oj ((ki j).2 hj))⟩
    unfold wpOp;simp only[ho,hw];rcases eF i o nS ho W hI with⟨h1,h2⟩ | ⟨h1,h2⟩
    ·rw[if_pos h1];refine .inl ?_;unfold Oper.wp;unfold a_ at h2;rw[he]
     generalize (execOp (F i).eval o).run P W=r at h2 ⊢
     cases r with
     | ok nx W'=>
      cases nx with
      | value u=>simp only at h2;obtain⟨rfl,h3⟩:=h2;exact next W' h3
      | skip=>simp only at h2;obtain⟨h4,h3⟩:=h2;simp only[Oper.upon];rw[h4];exact next W' h3
      | enter f args=>
       simp only at h2
       simp only[Oper.upon]
       exact h2.mono fun e qP ⟨Nj,h3⟩=>by subst Nj;exact next qP h3
      | _=>exact h2.elim
     | halt x W'=>exact h2.elim
    ·rw[if_neg (by rw[h1];simp)]
     have:=next W hI
     rw[h2]at this;exact this
theorem oG (n j:Nat):(Array.replicate n false).getD j false=false:=by
 rcases Nat.lt_or_ge j n with h | h
 ·simp[h]
 ·simp[h]
theorem ap {Q:Exit->Act->World->Prop} {id:Nat} {a:Act} {w:World} (k:Nat) (Inv:World->Prop) (hm:P.follows .mixedOrders=true) (hf:xx ops k=true) (hk:k<=ops.size) (hI:Inv w.drew)
  (h:iH P ops Inv (fun A=>∀W,Inv W->wpList P ops Q (ops.toList.drop k) A W) (ops.toList.take k) a):(Code.region id ops true).wp P Q a w:=by
 have eZ:=uC hf;obtain⟨agY,F,h0,kV,hst⟩:=xy _ a h
 have ii:(ops.toList.take k).length=k:=by simp;omega
 rw[ii]at kV
 have oH:∀i o,i<k->ops[i]?=some o->(ops.toList.take k)[i]?=some o:=fun i o hi ho=>by
  rw[List.getElem?_take,if_pos hi];simpa using ho
 have hF:∀i,i<=k->bi a ops agY (fun j=>j<i) (F i):=by
  intro i
  induction i with
  | zero=>intro _;rw[h0];exact⟨rfl,rfl,fun j _ _ hj=>absurd hj zO,fun _ _=>rfl⟩
  | succ i ih=>
   intro hi;have jS:i<ops.size:=zO
   have ho:ops[i]?=some ops[i]:=Array.getElem?_eq_getElem jS;rw[(hst i _ (oH i _ zO ho)).2]
   have:=(ih zO).put ho (fun j oj d hj jf hd jL=>by
    have:=eZ.aha i _ zO ho j oj zO jf d hd jL
    omega)
   exact⟨this.defers,this.size,fun j oj t hj=>this.on j oj t zO,fun t ht=>this.off t (fun j oj hj=>ht j oj zO)⟩
 refine wp_region_any hm ?_
 have:=Ni (P:=P) (Inv:=Inv) eZ hk a agY F hF (fun i o hi ho=>(hst i o (oH i o hi ho)).1) kV ops.size (Array.replicate ops.size false) a w.drew zS
  (fun i o hi=>by rw[oG]at hi;cases hi) (fun j hj=>by rw[oG]at hj;cases hj) (by
   have:((List.range k).filter fun j => !(Array.replicate ops.size false).getD j false).length<=k:=by
    have:=List.length_filter_le (fun j => !(Array.replicate ops.size false).getD j false) (List.range k)
    simpa using this
   omega) ⟨rfl,rfl,(fun j _ _ hj=>by rw[oG]at hj;cases hj),fun _ _=>rfl⟩ hI
 exact this
theorem zo {fin:Act->Prop} {o:Oper} {rest:List Oper} {A:Act} {v:Value} (hw:Region.wanted o (yielded ops A.tmps)=true) (h:∀W,Inv W->(execOp A.eval o).run P W=.ok (.value v) W)
  (hr:iH P ops Inv fin rest (A.put o.dst v)):iH P ops Inv fin (o::rest) A:=
 ⟨v,fun W hI=>.inl ⟨hw,by unfold a_;rw[h W hI];exact⟨rfl,hI⟩⟩,hr⟩
theorem ch {fin:Act->Prop} {o:Oper} {rest:List Oper} {A:Act} {v:Value} (hw:Region.wanted o (yielded ops A.tmps)=true) (hr:iH P ops Inv fin rest (A.put o.dst v)) (h:∀W,Inv W->(execOp A.eval o).run P W=.ok (.value v) W:=by intro W hW;go_simp;with_reducible rfl):iH P ops Inv fin (o::rest) A:=zo hw h hr
theorem Du {fin:Act->Prop} {o:Oper} {rest:List Oper} {A:Act} (hw:Region.wanted o (yielded ops A.tmps)=false)
  (hr:iH P ops Inv fin rest (A.put o.dst undef)):iH P ops Inv fin (o::rest) A:=⟨undef,fun _ _=>.inr ⟨hw,rfl⟩,hr⟩
theorem dE {fin:Act->Prop} {o:Oper} {rest:List Oper} {A:Act} (v:Value) (hw:Region.wanted o (yielded ops A.tmps)=true) (h:∀W,Inv W->a_ P Inv o A W v)
  (hr:iH P ops Inv fin rest (A.put o.dst v)):iH P ops Inv fin (o::rest) A:=⟨v,fun W hI=>.inl ⟨hw,h W hI⟩,hr⟩
end
section
variable {P : Program} {ops : Array Oper} {Inv : World → Prop}
theorem Dv {Q:Exit->Act->World->Prop} {fin:Act->Prop} {rest:List Oper} (kV:∀A,fin A->∀W,Inv W->wpList P ops Q rest A W):
  ∀(l:List Oper) (A:Act) (W:World),Inv W->iH P ops Inv fin l A->wpList P ops Q (l++rest) A W
 | [],A,W,hI,h=>kV A h W hI
 | o::l,A,W,hI,⟨v,hv,h⟩=>by
  have next:∀W',Inv W'->wpList P ops Q (l++rest) (A.put o.dst v) W':=fun W' hI'=>Dv kV l _ W' hI' h
  show wpList P ops Q (o::(l++rest)) A W
  unfold wpList;rcases hv W hI with⟨h1,h2⟩ | ⟨h1,h2⟩
  ·rw[if_pos h1];refine .inl ?_;unfold Oper.wp;unfold a_ at h2
   generalize (execOp A.eval o).run P W=r at h2 ⊢
   cases r with
   | ok nx W'=>
    cases nx with
    | value u=>simp only at h2;obtain⟨rfl,h3⟩:=h2;exact next W' h3
    | skip=>simp only at h2;obtain⟨h4,h3⟩:=h2;simp only[Oper.upon];rw[h4];exact next W' h3
    | enter f args=>
     simp only at h2
     simp only[Oper.upon]
     exact h2.mono fun e qP ⟨Nj,h3⟩=>by subst Nj;exact next qP h3
    | _=>exact h2.elim
   | halt x W'=>exact h2.elim
  ·rw[if_neg (by rw[h1];simp)]
   have:=next W hI
   rw[h2]at this;exact this
theorem aM {Q:Exit->Act->World->Prop} {id:Nat} {a:Act} {w:World} (k:Nat) (Inv:World->Prop) (hI:Inv w)
  (h:iH P ops Inv (fun A=>∀W,Inv W->wpList P ops Q (ops.toList.drop k) A W) (ops.toList.take k) a):(Code.region id ops false).wp P Q a w:=by
 refine wp_region_list ?_
 have:=Dv (P:=P) (ops:=ops) (Q:=Q) (rest:=ops.toList.drop k) (fun A h=>h) _ a w hI h
 rwa [List.take_append_drop]at this
theorem uD {o:Oper} {tmps:Array Value} {g:Nat} {e b:Bool} (hg:o.guard=some (g,e)) (hy:yielded ops tmps g=some b):Region.wanted o (yielded ops tmps)=(b==e):=by
 unfold Region.wanted;rw[hg];show(yielded ops tmps g==some e)=_
 rw[hy]
 cases b <;> cases e <;> rfl
def gv (b e:Bool) (v:Value):Value:=if b=e then v else undef
@[simp] theorem lU {b e:Bool} {v:Value} (h:b=e):gv b e v=v:=if_pos h
theorem bn {fin:Act->Prop} {o:Oper} {rest:List Oper} {A:Act} {g:Nat} {e b:Bool} {v:Value} (hg:o.guard=some (g,e)) (hy:yielded ops A.tmps g=some b)
  (h:b=e->∀W,Inv W->a_ P Inv o A W v) (hr:iH P ops Inv fin rest (A.put o.dst (gv b e v))):iH P ops Inv fin (o::rest) A:=by
 refine⟨_,fun W hI=>?_,hr⟩
 rw[uD hg hy]
 by_cases lV:b=e
 ·rw[lU lV];exact .inl ⟨by simp[lV],h lV W hI⟩
 ·rw[show gv b e v=undef from if_neg lV];exact .inr ⟨by simpa using lV,rfl⟩
theorem wh {fin:Act->Prop} {o:Oper} {rest:List Oper} {A:Act} {g:Nat} {e b:Bool} {v:Value} (hg:o.guard=some (g,e)) (hy:yielded ops A.tmps g=some b)
  (h:b=e->∀W,Inv W->(execOp A.eval o).run P W=.ok (.value v) W) (hr:iH P ops Inv fin rest (A.put o.dst (gv b e v))):iH P ops Inv fin (o::rest) A:=
 bn hg hy (fun hb W hI=>by unfold a_;rw[h hb W hI];exact⟨rfl,hI⟩) hr
theorem iT {fin:Act->Prop} {o:Oper} {rest:List Oper} {A:Act} {g:Nat} {e b:Bool} {v:Value} (hg:o.guard=some (g,e)) (hy:yielded ops A.tmps g=some b) (hr:iH P ops Inv fin rest (A.put o.dst (gv b e v))) (h:b=e->∀W,Inv W->(execOp A.eval o).run P W=.ok (.value v) W:=by intro hb;intro W hW;go_simp;with_reducible rfl):iH P ops Inv fin (o::rest) A:=wh hg hy h hr
theorem CG {o:Oper} {tmps:Array Value} {g:Nat} {e' b e x:Bool} (hg:o.guard=some (g,e')) (hy:((ops[g]?).bind (·.dst)).bind (tmps[·]?)=some (gv b e (.bool x))):Region.wanted o (yielded ops tmps)=((b==e)&&(x==e')):=by
 unfold Region.wanted;rw[hg];show(yielded ops tmps g==some e')=_
 unfold yielded;rw[hy]
 by_cases lV:b=e
 ·rw[lU lV];subst lV
  cases x <;> cases e' <;> simp
 ·rw[show gv b e (.bool x)=undef from if_neg lV]
  have:(b==e)=false:=by simpa using lV
  rw[this];rfl
theorem oI {fin:Act->Prop} {o:Oper} {rest:List Oper} {A:Act} {g:Nat} {e' b e x:Bool} {v:Value} (hg:o.guard=some (g,e')) (hy:((ops[g]?).bind (·.dst)).bind (A.tmps[·]?)=some (gv b e (.bool x)))
  (h:b=e->x=e'->∀W,Inv W->a_ P Inv o A W v) (hr:iH P ops Inv fin rest (A.put o.dst (gv ((b==e)&&(x==e')) true v))):iH P ops Inv fin (o::rest) A:=by
 refine⟨_,fun W hI=>?_,hr⟩
 rw[CG hg hy]
 by_cases lV:((b==e)&&(x==e'))=true
 ·rw[lU lV];have adS:=lV;rw[Bool.and_eq_true,beq_iff_eq,beq_iff_eq]at lV;exact .inl ⟨adS,h lV.1 lV.2 W hI⟩
 ·rw[show gv _ true v=undef from if_neg lV];exact .inr ⟨by simpa using lV,rfl⟩
theorem iI {fin:Act->Prop} {o:Oper} {rest:List Oper} {A:Act} {g:Nat} {e' b e x:Bool} {v:Value} (hg:o.guard=some (g,e')) (hy:((ops[g]?).bind (·.dst)).bind (A.tmps[·]?)=some (gv b e (.bool x)))
  (h:b=e->x=e'->∀W,Inv W->(execOp A.eval o).run P W=.ok (.value v) W) (hr:iH P ops Inv fin rest (A.put o.dst (gv ((b==e)&&(x==e')) true v))):iH P ops Inv fin (o::rest) A:=
 oI hg hy (fun hb hx W hI=>by unfold a_;rw[h hb hx W hI];exact⟨rfl,hI⟩) hr
theorem oJ {fin:Act->Prop} {d:Option Tmp} {ty:TypeId} {pos:String} {af:Array Edge} {c t:Operand} {rest:List Oper} {A:Act} {g:Nat} {e b x y:Bool} (hy:yielded ops A.tmps g=some b) (hc:A.eval c=gv b e (.bool x)) (hx:A.eval t=gv ((b==e)&&(x==true)) true (.bool y))
  (hr:iH P ops Inv fin rest (A.put d (gv b e (.bool (x&&y))))):iH P ops Inv fin (⟨d,.pick c t (.const (.bool false)),ty,pos,af,some (g,e)⟩::rest) A:=by
 refine wh (v:=.bool (x&&y)) rfl hy (fun hb W hW=>?_) hr
 have hk:A.eval (.const (.bool false))=.bool false:=rfl;clear hr;rw[lU hb]at hc;subst hb
 generalize A.eval=ev at hc hx hk ⊢
 cases x
 ·simp[execOp,hc,hk,go_sem]
 ·rw[lU zS]at hx;simp[execOp,hc,hx,hk,go_sem]
theorem Qu {fin:Act->Prop} {d:Option Tmp} {ty:TypeId} {pos:String} {af:Array Edge} {c t:Operand} {rest:List Oper} {A:Act} {g:Nat} {e b x y:Bool} (hy:yielded ops A.tmps g=some b) (hc:A.eval c=gv b e (.bool x)) (hx:A.eval t=gv ((b==e)&&(x==false)) true (.bool y))
  (hr:iH P ops Inv fin rest (A.put d (gv b e (.bool (x||y))))):iH P ops Inv fin (⟨d,.pick c (.const (.bool true)) t,ty,pos,af,some (g,e)⟩::rest) A:=by
 refine wh (v:=.bool (x||y)) rfl hy (fun hb W hW=>?_) hr
 have hk:A.eval (.const (.bool true))=.bool true:=rfl;clear hr;rw[lU hb]at hc;subst hb
 generalize A.eval=ev at hc hx hk ⊢
 cases x
 ·rw[lU zS]at hx;simp[execOp,hc,hx,hk,go_sem]
 ·simp[execOp,hc,hk,go_sem]
theorem mf {fin:Act->Prop} {o:Oper} {rest:List Oper} {A:Act} {g:Nat} {e b:Bool} (hg:o.guard=some (g,e)) (hy:yielded ops A.tmps g=some b)
  (h:(b==e)=false) (hr:iH P ops Inv fin rest (A.put o.dst undef)):iH P ops Inv fin (o::rest) A:=
 Du (by rw[uD hg hy];exact h) hr
theorem db {fin:Act->Prop} {d:Option Tmp} {ty:TypeId} {pos:String} {af:Array Edge} {c x:Operand} {rest:List Oper} {A:Act} {b y:Bool} (hc:A.eval c=.bool b) (hx:A.eval x=gv b false (.bool y))
  (hr:iH P ops Inv fin rest (A.put d (.bool (b||y)))):iH P ops Inv fin (⟨d,.pick c (.const (.bool true)) x,ty,pos,af,none⟩::rest) A:=by
 refine zo (v:=.bool (b||y)) rfl (fun W hW=>?_) hr
 have hk:A.eval (.const (.bool true))=.bool true:=rfl;clear hr
 generalize A.eval=ev at hc hx hk ⊢
 cases b
 ·rw[lU rfl]at hx;simp[execOp,hc,hx,hk,go_sem]
 ·simp[execOp,hc,hk,go_sem]
theorem dy {fin:Act->Prop} {d:Option Tmp} {ty:TypeId} {pos:String} {af:Array Edge} {c x:Operand} {rest:List Oper} {A:Act} {b y:Bool} (hc:A.eval c=.bool b) (hx:A.eval x=gv b true (.bool y))
  (hr:iH P ops Inv fin rest (A.put d (.bool (b&&y)))):iH P ops Inv fin (⟨d,.pick c x (.const (.bool false)),ty,pos,af,none⟩::rest) A:=by
 refine zo (v:=.bool (b&&y)) rfl (fun W hW=>?_) hr
 have hk:A.eval (.const (.bool false))=.bool false:=rfl;clear hr
 generalize A.eval=ev at hc hx hk ⊢
 cases b
 ·simp[execOp,hc,hk,go_sem]
 ·rw[lU rfl]at hx;simp[execOp,hc,hx,hk,go_sem]
end
@[simp] theorem aa (w:World):ab w w:=Below.refl _ _
@[simp] theorem ad {w0 W:World} (o:Obj) (h:ab w0 W):ab w0 (W.alloc o):=Below.alloc h h.size o
@[simp] theorem aj {w0 W:World} (h:ab w0 W):ab w0 W.drew:=Below.drew h
theorem XL {w W:World} (h:Below w.heap.size w W):ab w W:=h
theorem ab.below {w W:World} (h:ab w W):Below w.heap.size w W:=h
theorem ab.after {a b c:World} (h:ab a b) (h':ab b c):ab a c:=ab.trans h h'
theorem ab.cell {a b:World} (h:ab a b) {p:Addr} {v:Value} (hc:a.cell? p=some v):b.cell? p=some v:=bc h hc
theorem al {w0 w1:World} {p:Addr} {v:Value} (f:∀W,ab w0 W->W.cell? p=some v) (h:ab w0 w1):∀W,ab w1 W->W.cell? p=some v:=fun W hW=>f W (h.after hW)
theorem ae {w0:World} {p:Addr} {v:Value} (h:w0.cell? p=some v):∀W,ab w0 W->W.cell? p=some v:=fun _ hW=>bc hW h
section
variable {P : Program} {ops : Array Oper}
def oK (P:Program) (ops:Array Oper) (w0:World) (fin:Act->Prop):List Oper->Act->Prop
 | [],A=>fin A
 | o::rest,A=>∃v,(Region.wanted o (yielded ops A.tmps)=true/\∀W,ab w0 W->(execOp A.eval o).run P W=.ok (.value v) W)/\oK P ops w0 fin rest (A.put o.dst v)
theorem ef {w0:World} {fin:Act->Prop} {o:Oper} {rest:List Oper} {A:Act} {v:Value} (hw:Region.wanted o (yielded ops A.tmps)=true) (h:∀W,ab w0 W->(execOp A.eval o).run P W=.ok (.value v) W)
  (hr:oK P ops w0 fin rest (A.put o.dst v)):oK P ops w0 fin (o::rest) A:=⟨v,⟨hw,h⟩,hr⟩
theorem EC {w0:World} {fin:Act->Prop} (l:List Oper):∀(A:Act),oK P ops w0 fin l A ->
  ∃(agY:Nat->Value) (F:Nat->Act),F 0=A/\fin (F l.length)/\∀i o,l[i]?=some o->(Region.wanted o (yielded ops (F i).tmps)=true/\∀W,ab w0 W->(execOp (F i).eval o).run P W=.ok (.value (agY i)) W)/\F (i+1)=(F i).put o.dst (agY i):=by
 induction l with
 | nil=>intro A h;exact⟨fun _=>undef,fun _=>A,rfl,h,fun i o h=>by simp at h⟩
 | cons o l ih=>
  intro A h;obtain⟨v,hs,hf⟩:=h;obtain⟨agY,F,h0,kV,eF⟩:=ih _ hf;refine⟨fun i=>match i with | 0=>v | i+1=>agY i,fun i=>match i with | 0=>A | i+1=>F i,rfl,kV,?_⟩
  intro i o' hi
  cases i with
  | zero=>simp at hi;subst hi;exact⟨hs,h0⟩
  | succ i=>exact eF i o' (by simpa using hi)
theorem bi.agY {a a':Act} {v v':Nat->Value} {D:Nat->Prop} (h:bi a ops v D a') (e:∀j,D j->v j=v' j):bi a ops v' D a':=
 ⟨h.defers,h.size,fun j o t hj ho hd hl=>by rw[<- e j hj];exact h.on j o t hj ho hd hl,h.off⟩
theorem bi.same {a a':Act} {v:Nat->Value} {D E:Nat->Prop} (h:bi a ops v D a') (e:∀j,D j↔E j):bi a ops v E a':=by
 have:D=E:=funext fun j=>propext (e j)
 rw[<- this];exact h
def E2 (W:World) (T:TypeId) (b:Nat) (x y:Int):Prop:=W.heap[b]?=some (.cells #[.int .i64 x,.int .i64 y] T)
end
section
variable {P : Program} {ops : Array Oper}
theorem jE {o:Oper} {a' A:Act} (Zb:∀t∈o.looksAt ops,a'.tmps[t]?=A.tmps[t]?) (XM:∀cs b,o.op ≠ .select cs b):execOp a'.eval o=execOp A.eval o/\Region.wanted o (yielded ops a'.tmps)=Region.wanted o (yielded ops A.tmps):=by
 refine⟨execOp_congr o XM (fun x hx=>?_),?_⟩
 ·cases x with
  | tmp t=>
   have:=Zb t (List.mem_append_left _ (List.mem_filterMap.2 ⟨.tmp t,by simpa using hx,rfl⟩))
   simp[Act.eval,this]
  | _=>rfl
 ·unfold Region.wanted
  cases hg:o.guard with
  | none=>rfl
  | some gw=>
   obtain⟨g,adQ⟩:=gw
   have:yielded ops a'.tmps g=yielded ops A.tmps g:=by
    unfold yielded
    cases ht:(ops[g]?).bind (·.dst) with
    | none=>rfl
    | some t=>
     have:=Zb t (by simp[Oper.looksAt,hg,ht])
     simp[this]
   simp only[this]
theorem bi.ag_ {a a':Act} {v v':Nat->Value} {D:Nat->Prop} (h:bi a ops v D a') (e:∀j,j<ops.size->D j->v j=v' j):bi a ops v' D a':=
 ⟨h.defers,h.size,fun j o t hj ho hd hl=>by rw[<- e j (Array.getElem?_eq_some_iff.1 ho).1 hj];exact h.on j o t hj ho hd hl,h.off⟩
end
theorem zB {w:World} {ve vi vn:Value} {n:ao} (h:aR w ve vi vn n):∃w0 A c A2 c2 A3 c3,ve=.slice A n.ends.length c/\vi=.slice A2 n.ids.length c2/\vn=.slice A3 n.agT.length c3/\n.ends.length<=c/\c<=2^63-1/\c2<=2^63-1/\c3<=2^63-1/\Hid (∀k es,n.ends[k]?=some es->∃b off u,A=some ⟨b,off,none⟩/\w0.cell? ⟨b,off+k,none⟩=some u/\CF w0 u es)/\Hid (aR w0 (.slice A n.ends.length c) (.slice A2 n.ids.length c2) (.slice A3 n.agT.length c3) n)/\Hid (w0=(w).alloc (.cells #[.slice A n.ends.length c,.slice A2 n.ids.length c2,.slice A3 n.agT.length c3] 30))/\Hid (Below w.heap.size w w0)/\(∀W,ab w0 W->W.cell? ⟨w.heap.size,0,none⟩=some (.slice A n.ends.length c))/\(∀W,ab w0 W->W.cell? ⟨w.heap.size,1,none⟩=some (.slice A2 n.ids.length c2))/\(∀W,ab w0 W->W.cell? ⟨w.heap.size,2,none⟩=some (.slice A3 n.agT.length c3)):=by
 obtain⟨w0,bj⟩:=J_ ((w).alloc (.cells #[ve,vi,vn] 30))
 have ks:Below w.heap.size w w0:=by rw[bj];exact((Below.refl _ _).alloc (by simp <;> omega) _)
 have H:=h.agU ks;obtain⟨h1,h2,h3⟩:=h.agU ks;obtain⟨A,c,rfl,fR,hm,hA⟩:=h1;obtain⟨A2,c2,rfl,_,gC,_⟩:=h2;obtain⟨A3,c3,rfl,_,jz,_⟩:=h3;unfold maxLen at hm gC jz
 exact⟨w0,A,c,A2,c2,A3,c3,rfl,rfl,rfl,fR,hm,gC,jz,zh hA,zh H,zh bj,zh ks,ae (by rw[bj];simp),ae (by rw[bj];simp),ae (by rw[bj];simp)⟩
theorem zpI {w0:World} {a:Value} {l:List Int} (h:bs w0 a l):∀W,ab w0 W->bs W a l:=fun _ hW=>h.agU hW
theorem ET {w0:World} {a b c:Value} {n:ao} (h:aR w0 a b c n):∀W,ab w0 W->aR W a b c n:=fun _ hW=>h.agU hW
theorem Zaa : ∀ {n : Nat}, List.range (Nat.succ n) = List.range n ++ [n] := @List.range_succ
theorem Zab : ∀ {m n : Nat}, m ∈ List.range n ↔ m < n := @List.mem_range
theorem Zac : ∀ (n : Nat), 0 ≤ n := @Nat.zero_le
theorem Zad : ∀ {w : Go.World} {base : Nat} {e : Go.TypeId} {size : Nat} {v : Go.Value} {n : Nat} {xs : List Go.Value}, Go.World.ownsRow w base e size v n xs → ∀ (k : Nat), Go.Value.ownBlock v = Option.some k → base ≤ k ∧ k < Array.size (Go.World.heap w) := @World.ownsRow.lt
theorem Zae : ∀ {α : Type _} {l : List α}, List.length l = 0 → l = [] := @List.eq_nil_of_length_eq_zero
theorem Zaf : ∀ (B : Nat) (w : Go.World), Go.RowKit.Below B w w := @Below.refl
theorem Zag : ∀ (n : Nat), Int.toNat ↑n = n := @Int.toNat_natCast
theorem Zah : ∀ {x y : Bool}, (x && y) = Bool.false ↔ x = Bool.false ∨ y = Bool.false := @Bool.and_eq_false_iff
theorem Zai : ∀ (a b : Bool), ((a && b) = Bool.true) = (a = Bool.true ∧ b = Bool.true) := @Bool.and_eq_true
theorem Zaj : ∀ (n : Nat), n ≤ n := @Nat.le_refl
theorem Zak : ∀ {n m k : Nat}, n ≤ m → m ≤ k → n ≤ k := @Nat.le_trans
theorem Zal : ∀ {n m k : Nat}, n < m → m ≤ k → n < k := @Nat.lt_of_lt_of_le
theorem Zam : ∀ {w w' : Go.World} {a : Go.Addr}, (Go.World.heap w')[Go.Addr.block a]? = (Go.World.heap w)[Go.Addr.block a]? → Go.World.cell? w' a = Go.World.cell? w a := @World.cell?_of_block
theorem Zan : ∀ (w : Go.World) (a : Go.Addr) (u : Go.Value) (k : Nat), k ≠ Go.Addr.block a → (Go.World.heap (Go.World.setCell w a u))[k]? = (Go.World.heap w)[k]? := @Below.heap_setCell
theorem Zao : ∀ {α : Type _} {b : α} («as» : List α) {bs : List α}, b ∈ bs → b ∈ «as» ++ bs := @List.mem_append_right
theorem Zap : ∀ {α : Type _} {a : α} {L : List (List α)}, a ∈ List.flatten L ↔ ∃ l, l ∈ L ∧ a ∈ l := @List.mem_flatten
theorem Zaq : ∀ {α : Type _} {l : List α} {i : Nat} {a : α}, l[i]? = Option.some a → a ∈ l := @List.mem_of_getElem?
theorem Zar : ∀ {α : Type _} {a : α} {s t : List α}, a ∈ s ++ t ↔ a ∈ s ∨ a ∈ t := @List.mem_append
theorem Zas : ∀ {α : Type _} {i : Nat} {b : α} {xs : Array α}, xs[i]? = Option.some b ↔ ∃ h, xs[i] = b := @Array.getElem?_eq_some_iff
theorem Zat : ∀ {α : Type _} {l₁ l₂ : List α}, List.Nodup (l₁ ++ l₂) ↔ List.Nodup l₁ ∧ List.Nodup l₂ ∧ ∀ (a : α), a ∈ l₁ → ∀ (b : α), b ∈ l₂ → a ≠ b := @List.nodup_append
theorem Zau : ∀ {α : Type _} {«as» : List α} {i : Nat} {a : α}, List.length (List.set «as» i a) = List.length «as» := @List.length_set
theorem Zav : ∀ {α : Type _} {l : List α} {i : Nat} {a : α}, i < List.length l → (List.set l i a)[i]? = Option.some a := @List.getElem?_set_self
theorem Zaw : ∀ {α : Type _} {l : List α} {i j : Nat}, i ≠ j → ∀ {a : α}, (List.set l i a)[j]? = l[j]? := @List.getElem?_set_ne
theorem Zax : ∀ {α : Type _} {a : α} {«as» : List α} (bs : List α), a ∈ «as» → a ∈ «as» ++ bs := @List.mem_append_left
theorem Zay : ∀ {α : Type _} {«as» bs : List α}, List.length («as» ++ bs) = List.length «as» + List.length bs := @List.length_append
theorem Zaz : ∀ {α : Type _} {a : α} {«as» : List α}, List.length (a :: «as») = List.length «as» + 1 := @List.length_cons
theorem Zba : ∀ (n : Nat), 0 + n = n := @Nat.zero_add
theorem Zbb : ∀ {α : Type _} {n : Nat} {a : α}, List.length (List.replicate n a) = n := @List.length_replicate
theorem Zbc : ∀ {α : Type _} {xs : Array α} {x : α}, (Array.push xs x)[Array.size xs]? = Option.some x := @Array.getElem?_push_size
theorem Zbd : ∀ {α : Type _} (y : α) {a : α} {l : List α}, a ∈ l → a ∈ y :: l := @List.mem_cons_of_mem
theorem Zbe : ∀ {α : Type _} {b : α} {l : List α} {a : α}, a ∈ b :: l ↔ a = b ∨ a ∈ l := @List.mem_cons
theorem Zbf : ∀ {α : Type _} {xs : Array α} {i : Nat} {f : α → α} {j : Nat}, (Array.modify xs i f)[j]? = if i = j then Option.map f xs[j]? else xs[j]? := @Array.getElem?_modify
theorem Zbg : ∀ {α : Type _} {R : α → α → Prop} {l : List α}, List.Pairwise R l ↔ ∀ (i j : Nat) (_hi : i < List.length l) (_hj : j < List.length l), i < j → R l[i] l[j] := @List.pairwise_iff_getElem
theorem Zbh : ∀ {α : Type _} {p : α → Bool} {l : List α}, List.all l p = Bool.true ↔ ∀ (x : α), x ∈ l → p x = Bool.true := @List.all_eq_true
theorem Zbi : ∀ (n m : Nat), n < m ∨ n ≥ m := @Nat.lt_or_ge
theorem Zbj : ∀ {α : Type _} {l : List α} {n : Nat} (h : n < List.length l), l[n] ∈ l := @List.getElem_mem
theorem Zbk : ∀ (n : Nat), n = 0 ∨ n > 0 := @Nat.eq_zero_or_pos
theorem Zbl : ∀ {a b : Bool}, a = b ↔ (a = Bool.true ↔ b = Bool.true) := @Bool.eq_iff_iff
theorem Zbm : ∀ {α : Type _} {a b : α}, a ∈ [b] ↔ a = b := @List.mem_singleton
theorem Zbn : ∀ {x y : Bool}, (x || y) = Bool.false ↔ x = Bool.false ∧ y = Bool.false := @Bool.or_eq_false_iff
theorem Zbo : ∀ (b : Bool), ((!b) = Bool.false) = (b = Bool.true) := @Bool.not_eq_false'
theorem Zbp : ∀ (a b : Bool), ((a || b) = Bool.true) = (a = Bool.true ∨ b = Bool.true) := @Bool.or_eq_true
theorem Zbq : ∀ {α : Type _} {l : List α}, List.take (List.length l) l = l := @List.take_length
theorem Zbr : ∀ {α : Type _} {β : Type _} {f : α → β} {l : List α} {i : Nat}, (List.map f l)[i]? = Option.map f l[i]? := @List.getElem?_map
theorem Zbs : ∀ {α : Type _} {i : Nat} {a : α} {l : List α}, l[i]? = Option.some a ↔ ∃ h, l[i] = a := @List.getElem?_eq_some_iff
theorem Zbt : ∀ {α : Type _} {i : Nat} {l : List α} (h : i < List.length l), List.drop i l = l[i] :: List.drop (i + 1) l := @List.drop_eq_getElem_cons
theorem Zbu : ∀ {α : Type _} {l : List α} {i : Nat} (h : i < List.length l), l[i]? = Option.some l[i] := @List.getElem?_eq_getElem
theorem Zbv : ∀ {α : Type _} [inst : BEq α] [LawfulBEq α] {a : α} {«as» : List α}, List.contains «as» a = Bool.true ↔ a ∈ «as» := @List.contains_iff_mem
theorem Zbw : ∀ {B : Nat} {a b c : Go.World}, Go.RowKit.Below B a b → Go.RowKit.Below B b c → Go.RowKit.Below B a c := @Below.trans
theorem Zbx : ∀ {α : Type _} {val val_1 : α}, Option.some val = Option.some val_1 → val = val_1 := @Option.some.inj
theorem Zby : ∀ {α : Type _} {i : Nat} {l : List α}, List.length (List.take i l) = Min.min i (List.length l) := @List.length_take
theorem Zbz : ∀ {α : Type _} {i : Nat} {l : List α}, List.length l ≤ i → List.take i l = l := @List.take_of_length_le
theorem Zca : ∀ {α : Type _} {l₁ l₂ : List α} {i : Nat}, List.length l₁ ≤ i → (l₁ ++ l₂)[i]? = l₂[i - List.length l₁]? := @List.getElem?_append_right
theorem Zcb : ∀ {α : Type _} {l₁ l₂ : List α} {i : Nat}, i < List.length l₁ → (l₁ ++ l₂)[i]? = l₁[i]? := @List.getElem?_append_left
theorem Zcc : ∀ {α : Type _} {xs : Array α} {i : Nat} (h : i < Array.size xs), xs[i]? = Option.some xs[i] := @Array.getElem?_eq_getElem
theorem Zcd : ∀ {n m : Nat}, n < m → n ≤ m := @Nat.le_of_lt
theorem Zce : ∀ {α : Type _} {l : List α} {i : Nat}, List.length l ≤ i → l[i]? = Option.none := @List.getElem?_eq_none
theorem Zcf : ∀ {α : Type _} {xs : List α} {p : α → Bool} {i : Nat}, List.findIdx? p xs = Option.some i ↔ ∃ h, p xs[i] = Bool.true ∧ ∀ (j : Nat) (hji : j < i), ¬p xs[j] = Bool.true := @List.findIdx?_eq_some_iff_getElem
theorem Zcg : ∀ {α : Type _} {p : α → Bool} {l : List α}, List.any l p = Bool.true ↔ ∃ x, x ∈ l ∧ p x = Bool.true := @List.any_eq_true
theorem Zch : ∀ {n : Nat} {α : Type _} {a : α} {i : Nat}, (List.replicate n a)[i]? = if i < n then Option.some a else Option.none := @List.getElem?_replicate
theorem Zci : ∀ {α : Type _} {l : List α} {i j : Nat} {a : α}, (List.set l i a)[j]? = if i = j then if i < List.length l then Option.some a else Option.none else l[j]? := @List.getElem?_set
theorem Zcj : ∀ {i n : Nat}, i < n → (List.range n)[i]? = Option.some i := @List.getElem?_range
theorem Zck : ∀ {α : Type _} {l₁ l₂ : List α}, (∀ (i : Nat), l₁[i]? = l₂[i]?) → l₁ = l₂ := @List.ext_getElem?
theorem Zcl : ∀ {a : Int}, 0 ≤ a → ↑(Int.toNat a) = a := @Int.toNat_of_nonneg
theorem Zcm : ∀ {α : Type _} {a : α} {o : Option α}, a ∈ Option.toList o ↔ o = Option.some a := @Option.mem_toList
end Go.Proofs.YtnioemnkfojmkaaGreat
