/- Parts of the proof: walks of functions and plain laws. -/
import Derived.Test.YtgmdpppljkmabaaGreatP0
import Derived.Test.YtgmdpppljkmabaaGreatP1
set_option maxRecDepth 100000
set_option maxHeartbeats 16000000
namespace Go.Proofs.YtgmdpppljkmabaaGreat
open Go Go.RowKit
section
variable {P : Program} {ops : Array Oper}
theorem Gj {Q:Exit->Act->World->Prop} (oG:∀i o,ops[i]?=some o->∀j∈bg o,j<i) (J:(Nat->Prop)->Act->World->Prop)
  (fw:∀(D:Nat->Prop) a w i o,J D a w->ops[i]?=some o->¬D i->(∀d∈bg o,D d)->(∀i o,D i->ops[i]?=some o->∀d∈bg o,D d) ->
   if Region.wanted o (yielded ops a.tmps)=true then Oper.wp P o a w (J (fun j=>D j\/j=i)) Q\/(o.asks P a w/\LetsOut Q) else J (fun j=>D j\/j=i) (a.put o.dst undef) w)
  (oZ:∀(D:Nat->Prop) a w,J D a w->(∀i,i<ops.size->D i)->Q .normal a w):
  ∀(iK:Nat) (an:Array Bool) (a:Act) (W:World),an.size=ops.size->(∀i o,an.getD i false=true->ops[i]?=some o->∀j∈bg o,an.getD j false=true) ->
   ((List.range ops.size).filter fun j => !an.getD j false).length<=iK->J (fun j=>an.getD j false=true) a W->wpAny P .any ops Q iK an a W:=by
 have Jd:∀(an:Array Bool),an.size=ops.size->Region.ready .any ops an=[]->∀m,∀j,j<=m->j<ops.size->an.getD j false=true:=by
  intro an fO oY m
  induction m using Nat.strongRecOn with
  | ind m ihm=>
   intro j hjm ON;refine Classical.byContradiction fun De=>?_
   have De:an.getD j false=false:=by cases hb:an.getD j false <;> simp_all
   have ly:j∈Region.ready .any ops an:=dQ.2 ⟨by rw[ii (by omega)];exact De,ops[j],Array.getElem?_eq_getElem ON,fun d hd=>by
    have Tq:=oG j _ (Array.getElem?_eq_getElem ON) d hd
    exact ihm d (by omega) d (Nat.le_refl _) (by omega)⟩
   rw[oY]at ly;simp at ly
 intro iK
 induction iK with
 | zero=>
  intro an a W fO eG Ja hJ
  have bH:∀j,j<ops.size->an.getD j false=true:=fun j hj=>by
   rcases hb:an.getD j false with _ | _
   ·have:0<((List.range ops.size).filter fun j => !an.getD j false).length:=List.length_pos_of_mem (List.mem_filter.2 ⟨List.mem_range.2 hj,by simp[hb]⟩)
    omega
   ·rfl
  refine⟨List.eq_nil_iff_forall_not_mem.2 fun i hi=>?_,oZ _ a W hJ bH⟩
  obtain⟨h0,o,ho,_⟩:=dQ.1 hi;have d_:i<ops.size:=(Array.getElem?_eq_some_iff.1 ho).1;rw[ii (by omega),bH i d_]at h0;cases h0
 | succ iK ih=>
  intro an a W fO eG Ja hJ;refine⟨fun oY=>oZ _ a W hJ fun j hj=>Jd an fO oY j j (Nat.le_refl _) hj,fun i hi=>?_⟩
  obtain⟨h0,o,ho,gD⟩:=dQ.1 hi;have d_:i<ops.size:=(Array.getElem?_eq_some_iff.1 ho).1;rw[ii (by omega)]at h0
  have iE:∀j,(an.setIfInBounds i true).getD j false=true↔(an.getD j false=true\/j=i):=fun j=>by
   by_cases nH:i=j
   ·subst nH;simp[fO,d_]
   ·rw[getD_set_ne false nH];constructor
    ·exact .inl
    ·rintro(h | h)
     ·exact h
     ·exact absurd h.symm nH
  have hD:(fun j=>(an.setIfInBounds i true).getD j false=true)=fun j=>an.getD j false=true\/j=i:=funext fun j=>propext (iE j)
  have next:∀a W,J (fun j=>an.getD j false=true\/j=i) a W->wpAny P .any ops Q iK (an.setIfInBounds i true) a W:=fun a W hJ'=>by
   refine ih _ a W (by simpa using fO) (fun i' o' yh kR j hj=>?_) ?_ (by rw[hD];exact hJ')
   ·rcases(iE i').1 yh with h | rfl
    ·exact(iE j).2 (.inl (eG i' o' h kR j hj))
    ·rw[ho]at kR;cases kR
     exact(iE j).2 (.inl (gD j hj))
   ·have Tt:=filter_lt (l:=List.range ops.size) (p:=fun j => !an.getD j false) (q:=fun j => !(an.setIfInBounds i true).getD j false) (fun x hx=>by
     cases hb:an.getD x false
     ·rfl
     ·have:=(iE x).2 (.inl hb)
      simp only[this]at hx
      cases hx) (List.mem_range.2 d_) (by simp only[h0];rfl) (by simp only[(iE i).2 (.inr rfl)];rfl)
    omega
  have:=fw (fun j=>an.getD j false=true) a W i o hJ ho (by rw[h0];simp) gD eG
  unfold wpOp;simp only[ho]
  split
  ·rename_i hw
   rw[if_pos hw]at this;exact this.imp (Oper.wp_mono next) id
  ·rename_i hw
   rw[if_neg hw]at this;exact next _ _ this
theorem iP {Q:Exit->Act->World->Prop} {id:Nat} {a:Act} {w:World} (hm:P.follows .mixedOrders=true) (oG:∀i o,ops[i]?=some o->∀j∈bg o,j<i) (J:(Nat->Prop)->Act->World->Prop)
  (h0:J (fun _=>False) a w.drew)
  (fw:∀(D:Nat->Prop) a w i o,J D a w->ops[i]?=some o->¬D i->(∀d∈bg o,D d)->(∀i o,D i->ops[i]?=some o->∀d∈bg o,D d) ->
   if Region.wanted o (yielded ops a.tmps)=true then Oper.wp P o a w (J (fun j=>D j\/j=i)) Q\/(o.asks P a w/\LetsOut Q) else J (fun j=>D j\/j=i) (a.put o.dst undef) w)
  (oZ:∀(D:Nat->Prop) a w,J D a w->(∀i,i<ops.size->D i)->Q .normal a w):(Code.region id ops true).wp P Q a w:=by
 refine wp_region_any hm ?_
 refine Gj (P:=P) (Q:=Q) oG J fw oZ ops.size (Array.replicate ops.size false) a w.drew (by simp) (fun i o hi=>by rw[jd]at hi;cases hi) ?_ ?_
 ·have:=List.length_filter_le (fun j => !(Array.replicate ops.size false).getD j false) (List.range ops.size)
  simpa using this
 ·have:(fun j=>(Array.replicate ops.size false).getD j false=true)=fun _=>False:=funext fun j=>propext ⟨(fun h=>by rw[jd]at h;cases h),fun h=>h.elim⟩
  rw[this];exact h0
def dS {α:Type}:List Bool->List α->List α
 | true::m,o::l=>o::dS m l
 | false::m,_::l=>dS m l
 | [],_=>[]
 | _::_,[]=>[]
def er {α:Type}:List Bool->List α->List α
 | true::m,_::l=>er m l
 | false::m,o::l=>o::er m l
 | [],_=>[]
 | _::_,[]=>[]
def rk (b:Bool) (m:List Bool) (i:Nat):Nat:=(m.take i).count b
theorem yp {α:Type}:∀(m:List Bool) (l:List α) (i:Nat),m.length=l.length->m[i]?=some true->(dS m l)[rk true m i]?=l[i]?
 | [],_,i,_,h=>by simp at h
 | true::m,o::l,0,_,_=>by simp[rk,dS]
 | true::m,o::l,i+1,hl,h=>by
  have:=yp m l i (by simpa using hl) (by simpa using h)
  simpa[rk,dS]using this
 | false::m,o::l,0,_,h=>by simp at h
 | false::m,o::l,i+1,hl,h=>by
  have:=yp m l i (by simpa using hl) (by simpa using h)
  simpa[rk,dS]using this
theorem td {α:Type}:∀(m:List Bool) (l:List α) (i:Nat),m.length=l.length->m[i]?=some false->(er m l)[rk false m i]?=l[i]?
 | [],_,i,_,h=>by simp at h
 | false::m,o::l,0,_,_=>by simp[rk,er]
 | false::m,o::l,i+1,hl,h=>by
  have:=td m l i (by simpa using hl) (by simpa using h)
  simpa[rk,er]using this
 | true::m,o::l,0,_,h=>by simp at h
 | true::m,o::l,i+1,hl,h=>by
  have:=td m l i (by simpa using hl) (by simpa using h)
  simpa[rk,er]using this
theorem tN {α:Type}:∀(m:List Bool) (l:List α),m.length=l.length->(dS m l).length=m.count true
 | [],[],_=>rfl
 | true::m,o::l,hl=>by simp[dS,tN m l (by simpa using hl)]
 | false::m,o::l,hl=>by simp[dS,tN m l (by simpa using hl)]
theorem tO {α:Type}:∀(m:List Bool) (l:List α),m.length=l.length->(er m l).length=m.count false
 | [],[],_=>rfl
 | true::m,o::l,hl=>by simp[er,tO m l (by simpa using hl)]
 | false::m,o::l,hl=>by simp[er,tO m l (by simpa using hl)]
theorem MD {b:Bool} {m:List Bool} {i:Nat} {x:Bool} (h:m[i]?=some x):rk b m (i+1)=rk b m i+if x=b then 1 else 0:=by
 obtain⟨hi,rfl⟩:=List.getElem?_eq_some_iff.1 h;unfold rk;rw[List.take_succ_eq_append_getElem hi,List.count_append];congr 1
 simp[List.count_cons]
theorem TF {b:Bool} {m:List Bool} {i j:Nat} (h:i<=j):rk b m i<=rk b m j:=by
 unfold rk;exact List.Sublist.count_le _ (List.IsPrefix.sublist (List.take_prefix_take_left h))
theorem Ax {b:Bool} {m:List Bool} {i j:Nat} (h:i<j) (hi:m[i]?=some b):rk b m i<rk b m j:=by
 have h1:=MD (b:=b) hi;rw[if_pos rfl]at h1
 have:=TF (b:=b) (m:=m) (show i+1<=j from h)
 omega
theorem Dq {b:Bool} {m:List Bool} {i j:Nat} (hi:m[i]?=some b) (hj:m[j]?=some b) (h:rk b m i=rk b m j):i=j:=by
 rcases Nat.lt_trichotomy i j with hl | hl | hl
 ·have:=Ax hl hi;omega
 ·exact hl
 ·have:=Ax hl hj;omega
theorem mN {b:Bool} {m:List Bool} {i:Nat} (hi:m[i]?=some b):rk b m i<m.count b:=by
 have h1:=Ax (Nat.lt_of_lt_of_le (List.getElem?_eq_some_iff.1 hi).1 (Nat.le_refl m.length)) hi
 unfold rk at h1 ⊢
 rw[List.take_length]at h1;exact h1
theorem tP {b:Bool}:∀(m:List Bool) (q:Nat),q<m.count b->∃i:Nat,m[i]?=some b/\rk b m i=q
 | [],q,h=>by simp at h
 | x::m,q,h=>by
  by_cases hx:x=b
  ·subst hx
   cases q with
   | zero=>exact⟨0,by simp,by simp[rk]⟩
   | succ q=>
    obtain⟨i,h1,h2⟩:=tP m q (by simpa using h)
    exact ⟨i + 1, by simpa using h1, by have : rk x (x :: m) (i + 1) = rk x m i + 1 := by simp [rk]
                                        omega⟩
  ·obtain⟨i,h1,h2⟩:=tP m q (by rwa [List.count_cons_of_ne hx]at h)
   exact ⟨i + 1, by simpa using h1, by have : rk b (x :: m) (i + 1) = rk b m i := by simp [rk, List.count_cons_of_ne hx]
                                       omega⟩
def bh (P:Program) (ops:Array Oper) (S:World->Prop) (dD:Act->World->Prop):List Oper->Act->World->Prop
 | [],A,W=>dD A W
 | o::rest,A,W=>
  (Region.wanted o (yielded ops A.tmps)=true/\match (execOp A.eval o).run P W with
   | .ok (.value u) W'=>S W'/\bh P ops S dD rest (A.put o.dst u) W'
   | .ok .skip W'=>S W'/\bh P ops S dD rest (A.put o.dst undef) W'
   | .ok (.row row args) W'=>Rows P row args W' fun v lU=>S lU/\bh P ops S dD rest (A.put o.dst v) lU
   | .ok (.enter f args) W'=>Calls P f args W' fun e lU=>∃u,e=.returned u/\S lU/\bh P ops S dD rest (A.put o.dst u) lU
   | _=>False)\/(Region.wanted o (yielded ops A.tmps)=false/\bh P ops S dD rest (A.put o.dst undef) W)
theorem de {S:World->Prop} {dD:Act->World->Prop} {o:Oper} {rest:List Oper} {A:Act} {W:World} {v:Value} (hw:Region.wanted o (yielded ops A.tmps)=true) (h:(execOp A.eval o).run P W=.ok (.value v) W) (hS:S W)
  (hr:bh P ops S dD rest (A.put o.dst v) W):bh P ops S dD (o::rest) A W:=.inl ⟨hw,by rw[h];exact⟨hS,hr⟩⟩
theorem xA {S:World->Prop} {dD:Act->World->Prop} {o:Oper} {rest:List Oper} {A:Act} {W W':World} {v:Value} (hw:Region.wanted o (yielded ops A.tmps)=true) (h:(execOp A.eval o).run P W=.ok (.value v) W') (hS:S W')
  (hr:bh P ops S dD rest (A.put o.dst v) W'):bh P ops S dD (o::rest) A W:=.inl ⟨hw,by rw[h];exact⟨hS,hr⟩⟩
theorem df {S:World->Prop} {dD:Act->World->Prop} {o:Oper} {rest:List Oper} {A:Act} {W:World}
  (h:∀Q':Exit->Act->World->Prop,(∀u W',S W'->bh P ops S dD rest (A.put o.dst u) W'->Q' .normal (A.put o.dst u) W')->wpList P ops Q' [o] A W):bh P ops S dD (o::rest) A W:=by
 have h1:=h (fun x a w=>x=.normal/\a.defers=A.defers/\S w/\bh P ops S dD rest a w) (fun u W' hS ht=>⟨rfl,by cases o.dst <;> rfl,hS,ht⟩)
 unfold wpList at h1;unfold bh
 split at h1
 ·rename_i hw
  refine .inl ⟨hw,?_⟩;rcases h1 with h1 | ⟨-,a',w',h1,-⟩
  ·unfold Oper.wp at h1
   generalize (execOp A.eval o).run P W=r at h1 ⊢
   cases r with
   | ok nx W'=>
    cases nx with
    | value u=>exact h1.2.2
    | skip=>exact h1.2.2
    | row row args=>exact Rows.mono h1 fun u lU h=>h.2.2
    | enter f args=>
     simp only[Oper.upon]at h1;refine Calls.mono h1 fun e lU h2=>?_
     cases e with
     | returned v=>exact⟨v,rfl,h2.2.2⟩
     | panicked c=>exact absurd h2.1 (by simp)
     | outgrown=>obtain⟨a',w',h3,-⟩:=h2;cases h3
    | defer d=>
     have:=h1.2.1
     simp only[Act.put]at this;have hl:=congrArg List.length this
     cases hd:o.dst <;> simp[hd]at hl
    | _=>exact h1.elim
   | halt x W'=>cases x <;> first | exact absurd h1.1 (by simp) | exact h1.elim
  ·cases h1
 ·rename_i hw
  exact .inr ⟨by simpa using hw,h1.2.2.2⟩
def yq (ops:Array Oper) (k:Nat) (mask:List Bool):Bool:=
 p7 ops k&&decide (mask.length=k)&&decide (k<=ops.size) &&
 (List.range k).all fun i=>match ops[i]? with
  | none=>true
  | some o=>if mask.getD i true then (List.range i).all fun j => !mask.getD j true||((jX ops (i+1)).getD i []).contains j
   else (bg o).all fun j => !mask.getD j true
def ry (P:Program) (ops:Array Oper) (S:World->Prop) (dD:Act->Prop):List Oper->Act->Prop
 | [],A=>dD A
 | o::rest,A=>∃v,(Region.wanted o (yielded ops A.tmps)=true/\∀W,S W->(execOp A.eval o).run P W=.ok (.value v) W)/\ry P ops S dD rest (A.put o.dst v)
theorem bs {S:World->Prop} {dD:Act->Prop} {o:Oper} {rest:List Oper} {A:Act} {v:Value} (hw:Region.wanted o (yielded ops A.tmps)=true) (h:∀W,S W->(execOp A.eval o).run P W=.ok (.value v) W)
  (hr:ry P ops S dD rest (A.put o.dst v)):ry P ops S dD (o::rest) A:=⟨v,⟨hw,h⟩,hr⟩
theorem wd {S:World->Prop} {dD:Act->Prop} (l:List Oper):∀(A:Act),ry P ops S dD l A ->
  ∃(acp:Nat->Value) (F:Nat->Act),F 0=A/\dD (F l.length)/\∀i o,l[i]?=some o->(Region.wanted o (yielded ops (F i).tmps)=true/\∀W,S W->(execOp (F i).eval o).run P W=.ok (.value (acp i)) W)/\F (i+1)=(F i).put o.dst (acp i):=by
 induction l with
 | nil=>intro A h;exact⟨fun _=>undef,fun _=>A,rfl,h,fun i o h=>by simp at h⟩
 | cons o l ih=>
  intro A h;obtain⟨v,hs,hf⟩:=h;obtain⟨acp,F,h0,it,fw⟩:=ih _ hf;refine⟨fun i=>match i with | 0=>v | i+1=>acp i,fun i=>match i with | 0=>A | i+1=>F i,rfl,it,?_⟩
  intro i o' hi
  cases i with
  | zero=>simp at hi;subst hi;exact⟨hs,h0⟩
  | succ i=>exact fw i o' (by simpa using hi)
theorem ax {Q:Exit->Act->World->Prop} {Dr:Nat} {a:Act} {w:World} (S:World->Prop) (k:Nat) (mask:List Bool) (hm:P.follows .mixedOrders=true) (hc:yq ops k mask=true) (aU:S w.drew)
  (h:ry P ops S (fun A=>bh P ops S (fun A W=>wpList P ops Q (ops.toList.drop k) A W) (dS mask (ops.toList.take k)) A w.drew) (er mask (ops.toList.take k)) a):(Code.region Dr ops true).wp P Q a w:=by
 unfold yq at hc;simp only[Bool.and_eq_true,decide_eq_true_eq]at hc;obtain⟨⟨⟨hf,Fk⟩,CJ⟩,Yc⟩:=hc;have ge:=nG hf
 have az:mask.length=(ops.toList.take k).length:=by simp;omega
 have ME:∀i,i<k->∃b,mask[i]?=some b:=fun i hi=>⟨_,List.getElem?_eq_getElem (by omega)⟩
 have p9:∀i o,i<k->ops[i]?=some o->(ops.toList.take k)[i]?=some o:=fun i o hi ho=>by
  rw[List.getElem?_take,if_pos hi];simpa using ho
 have zC:∀i b,mask[i]?=some b->mask.getD i true=b:=fun i b hb=>by rw[zDd,hb];rfl
 have fa:∀i b,mask[i]?=some b->i<k:=fun i b hb=>by have:=(List.getElem?_eq_some_iff.1 hb).1;omega
 have chT:∀i j,mask[i]?=some true->mask[j]?=some true->j<i->L9 ops j i:=fun i j hi hj nH=>by
  have jo:=fa i _ hi;have ho:ops[i]?=some ops[i]:=Array.getElem?_eq_getElem (by omega)
  have:=List.all_eq_true.1 Yc i (List.mem_range.2 jo)
  simp only[ho]at this;rw[if_pos (zC i _ hi)]at this
  have:=List.all_eq_true.1 this j (List.mem_range.2 nH)
  rw[zC j _ hj,Bool.not_true,Bool.false_or]at this;exact fU (i+1) i j (by simpa using this)
 have chF:∀i o j,mask[i]?=some false->ops[i]?=some o->j∈bg o->mask[j]?=some false:=fun i o j hi ho hj=>by
  have jo:=fa i _ hi;have nH:=ge.back i o ho j hj
  have:=List.all_eq_true.1 Yc i (List.mem_range.2 jo)
  simp only[ho]at this
  rw[if_neg (by rw[zC i _ hi];simp)]at this
  have:=List.all_eq_true.1 this j hj
  obtain⟨b,hb⟩:=ME j (by omega);rw[zC j _ hb]at this
  cases b <;> simp_all
 obtain⟨acp,F,h0,it,j8⟩:=wd _ a h
 have xB:∀r,r<=mask.count false->aL a ops (fun j=>acp (rk false mask j)) (fun j=>mask[j]?=some false/\rk false mask j<r) (F r):=by
  intro r
  induction r with
  | zero=>intro _;rw[h0];exact⟨rfl,rfl,fun j _ _ hj=>by have:=hj.2;omega,fun _ _=>rfl⟩
  | succ r ih=>
   intro hr;obtain⟨i,tJ,rq⟩:=tP (b:=false) mask r (by omega);have jo:=fa i _ tJ;have ho:ops[i]?=some ops[i]:=Array.getElem?_eq_getElem (by omega);have ka:=td mask _ i az tJ;rw[p9 i _ jo ho,rq]at ka;rw[(j8 r _ ka).2]
   have:=((ih (by omega)).put ho (fun j oj d hj ez hd gC=>by
    have:=ge.acB i _ jo ho j oj (fa j _ hj.1) ez d hd gC
    subst this
    have:=hj.2
    omega)).same (E:=fun j=>mask[j]?=some false/\rk false mask j<r+1) (fun j=>by
     constructor
     ·rintro(⟨a1,a2⟩ | rfl)
      ·exact⟨a1,by omega⟩
      ·exact⟨tJ,by omega⟩
     ·rintro⟨a1,a2⟩
      by_cases e:rk false mask j=r
      ·exact .inr (Dq a1 tJ (by omega))
      ·exact .inl ⟨a1,by omega⟩)
   rw[show acp r=acp (rk false mask i)by rw[rq]]
   exact this
 have ZG:(er mask (ops.toList.take k)).length=mask.count false:=tO _ _ az;rw[ZG]at it
 let SP:Nat->Prop:=fun j=>mask[j]?=some false
 let J:(Nat->Prop)->Act->World->Prop:=fun D a' W=>
  (S W/\(∀j,D j->j<k)/\∃(V:Nat->Value) (q:Nat) (A:Act),(∀j,mask[j]?=some false->V j=acp (rk false mask j))/\(∀j,mask[j]?=some true->(D j↔rk true mask j<q)) /\
   aL a ops V D a'/\aL a ops V (fun j=>mask[j]?=some false\/(mask[j]?=some true/\rk true mask j<q)) A /\
   bh P ops S (fun A W=>wpList P ops Q (ops.toList.drop k) A W) ((dS mask (ops.toList.take k)).drop q) A W) \/
  (∃m,k<=m/\m<=ops.size/\(∀j,j<ops.size->(D j↔j<m))/\wpList P ops Q (ops.toList.drop m) a' W)
 have htl:(dS mask (ops.toList.take k)).length=mask.count true:=tN _ _ az
 have tQ:∀D a' W,J D a' W->(∀j,j<k->D j)->∃m,k<=m/\m<=ops.size/\(∀j,j<ops.size->(D j↔j<m))/\wpList P ops Q (ops.toList.drop m) a' W:=by
  intro D a' W hJ hD;rcases hJ with⟨hW,lA,V,q,A,hV,hT,iZ,wg,CK⟩ | hJ
  ·have hq:mask.count true<=q:=by
    by_cases e:mask.count true<=q
    ·exact e
    ·obtain⟨i,tJ,rq⟩:=tP (b:=true) mask q (by omega)
     have:=(hT i tJ).1 (hD i (fa i _ tJ))
     omega
   have Jo:(dS mask (ops.toList.take k)).drop q=[]:=List.drop_eq_nil_of_le (by omega);rw[Jo]at CK
   have:a'=A:=iZ.ext wg (fun j hj=>by
    constructor
    ·intro Da;obtain⟨b,hb⟩:=ME j (lA j Da);cases b
     ·exact .inl hb
     ·exact .inr ⟨hb,(hT j hb).1 Da⟩
    ·rintro(hb | ⟨hb,_⟩) <;> exact hD j (fa j _ hb))
   subst this;exact⟨k,Nat.le_refl _,CJ,fun j _=>⟨fun h=>lA j h,fun h=>hD j h⟩,CK⟩
  ·exact hJ
 refine iP hm ge.back J (.inl ⟨aU,fun j hj=>hj.elim,fun j=>acp (rk false mask j),0,F (mask.count false),fun j _=>rfl,fun j _=>⟨fun h=>h.elim,fun h=>by omega⟩,⟨rfl,rfl,fun j _ _ hj=>hj.elim,fun _ _=>rfl⟩,?_,?_⟩) ?_ ?_
 ·exact(xB _ (Nat.le_refl _)).same (fun j=>by
   constructor
   ·rintro⟨a1,-⟩;exact .inl a1
   ·rintro(a1 | ⟨-,a2⟩)
    ·exact⟨a1,mN a1⟩
    ·omega)
 ·rw[List.drop_zero];exact it
 ·intro D a' W i o hJ ho lB gD eG;have d_:i<ops.size:=(Array.getElem?_eq_some_iff.1 ho).1
  by_cases jo:i<k
  ·-- one of the first k
   rcases hJ with⟨hW,lA,V,q,A,hV,hT,iZ,wg,CK⟩ | ⟨m,h1,h2,h3,-⟩
   rotate_left
   ·exact absurd ((h3 i d_).2 (by omega)) lB
   have look:∀t∈o.looksAt ops,∀j oj,j<k->ops[j]?=some oj->oj.dst=some t->D j/\j∈bg o:=fun t ht j oj ld ez hd=>by
    have:=ge.looks i o jo ho t ht j oj ld ez hd
    exact⟨gD j this,this⟩
   have pi:∀j oj d,D j->ops[j]?=some oj->o.dst=some d->oj.dst≠some d:=fun j oj d hj ez hd gC=>by
    have:=ge.acB i o jo ho j oj (lA j hj) ez d hd gC
    subst this;exact lB hj
   obtain⟨b,hb⟩:=ME i jo
   cases b with
   | false=>
    have ka:=td mask _ i az hb;rw[p9 i _ jo ho]at ka;obtain⟨⟨hw,dG⟩,-⟩:=j8 _ _ ka;have hr:=mN hb
    obtain⟨he,tR⟩:=eX (ops:=ops) (a':=a') (A:=F (rk false mask i)) (fun t ht=>(iZ.acy (v':=V) (fun _ _ _=>rfl)).agree ((xB _ (Nat.le_of_lt hr)).acp (v':=V) (fun j hj=>(hV j hj.1).symm)) t (fun j oj hj ez hd=>by
     have ld:j<k:=hj.elim (fun h=>lA j h) (fun h=>fa j _ h.1)
     obtain⟨d1,d2⟩:=look t ht j oj ld ez hd;have OU:=chF i o j hb ho d2
     exact⟨d1,OU,Ax (ge.back i o ho j d2) OU⟩)) (fun cs b=>ge.acA i o cs b ho)
    rw[if_pos (tR.trans hw)];refine .inl ?_;unfold Oper.wp;rw[he,dG W hW];refine .inl ⟨hW,fun j hj=>hj.elim (fun h=>lA j h) (fun h=>by omega),V,q,A,hV,fun j hj=>?_,?_,wg,CK⟩
    ·rw[<- hT j hj];constructor
     ·rintro(h | rfl)
      ·exact h
      ·rw[hb]at hj;cases hj
     ·exact .inl
    ·have:=iZ.put (i:=i) ho pi
     rwa [hV i hb]at this
   | true=>
    have hq:rk true mask i=q:=by
     have h1:¬rk true mask i<q:=fun h=>lB ((hT i hb).2 h)
     by_cases e:rk true mask i=q
     ·exact e
     ·obtain⟨j,rz,xm⟩:=tP (b:=true) mask q (by have:=mN hb;omega)
      have nH:j<i:=by
       rcases Nat.lt_trichotomy j i with h | h | h
       ·exact h
       ·subst h;omega
       ·have:=Ax h hb;omega
      have:=fV eG ho gD (chT i j hb rz nH)
      have:=(hT j rz).1 this
      omega
    have ka:=yp mask _ i az hb;rw[p9 i _ jo ho,hq]at ka;have IG:q<(dS mask (ops.toList.take k)).length:=(List.getElem?_eq_some_iff.1 ka).1;rw[List.drop_eq_getElem_cons IG,(List.getElem?_eq_some_iff.1 ka).2]at CK
    obtain⟨he,tR⟩:=eX (ops:=ops) (a':=a') (A:=A) (fun t ht=>iZ.agree wg t (fun j oj hj ez hd=>by
     have ld:j<k:=hj.elim (fun h=>lA j h) (fun h=>h.elim (fa j _) (fun h=>fa j _ h.1))
     obtain⟨d1,d2⟩:=look t ht j oj ld ez hd;refine⟨d1,?_⟩;obtain⟨b,hb'⟩:=ME j ld;cases b
     ·exact .inl hb'
     ·exact .inr ⟨hb',(hT j hb').1 d1⟩)) (fun cs b=>ge.acA i o cs b ho)
    have next:∀u W',S W'->bh P ops S (fun A W=>wpList P ops Q (ops.toList.drop k) A W) ((dS mask (ops.toList.take k)).drop (q+1)) (A.put o.dst u) W'->J (fun j=>D j\/j=i) (a'.put o.dst u) W':=by
     intro u W' hS ht
     let V':Nat->Value:=fun j=>if j=i then u else V j
     have e1:∀j,j≠i->V' j=V j:=fun j hj=>if_neg hj
     have e2:V' i=u:=if_pos rfl;refine .inl ⟨hS,fun j hj=>hj.elim (fun h=>lA j h) (fun h=>by omega),V',q+1,A.put o.dst u,fun j hj=>?_,fun j hj=>?_,?_,?_,ht⟩
     ·rw[e1 j (fun e=>by subst e;rw[hb]at hj;cases hj)];exact hV j hj
     ·constructor
      ·rintro(h | rfl)
       ·have:=(hT j hj).1 h;omega
       ·omega
      ·intro h
       by_cases e:rk true mask j=q
       ·exact .inr (Dq hj hb (by omega))
       ·exact .inl ((hT j hj).2 (by omega))
     ·have:=(iZ.acy (v':=V') (fun j _ hj=>(e1 j (fun e=>by subst e;exact lB hj)).symm)).put (i:=i) ho pi
      rwa [e2]at this
     ·have:=((wg.acy (v':=V') (fun j _ hj=>(e1 j (fun e=>by
       subst e;rcases hj with hj | ⟨-,hj⟩
       ·rw[hb]at hj;cases hj
       ·omega)).symm)).put (i:=i) ho (fun j oj d hj ez hd gC=>by
        have ld:j<k:=hj.elim (fa j _) (fun h=>fa j _ h.1)
        have:=ge.acB i o jo ho j oj ld ez d hd gC
        subst this;rcases hj with hj | ⟨-,hj⟩
        ·rw[hb]at hj;cases hj
        ·omega)).same (E:=fun j=>mask[j]?=some false\/(mask[j]?=some true/\rk true mask j<q+1)) (fun j=>by
        constructor
        ·rintro((h | ⟨h,h'⟩) | rfl)
         ·exact .inl h
         ·exact .inr ⟨h,by omega⟩
         ·exact .inr ⟨hb,by omega⟩
        ·rintro(h | ⟨h,h'⟩)
         ·exact .inl (.inl h)
         ·by_cases e:rk true mask j=q
          ·exact .inr (Dq h hb (by omega))
          ·exact .inl (.inr ⟨h,by omega⟩))
      rwa [e2]at this
    rcases CK with⟨hw,dG⟩ | ⟨hw,dG⟩
    ·rw[if_pos (tR.trans hw)];refine .inl ?_;unfold Oper.wp;rw[he]
     generalize (execOp A.eval o).run P W=r at dG ⊢
     cases r with
     | ok nx W'=>
      cases nx with
      | value u=>exact next u W' dG.1 dG.2
      | skip=>exact next undef W' dG.1 dG.2
      | row row args=>exact Rows.mono dG fun u lU h=>next u lU h.1 h.2
      | enter f args=>
       simp only[Oper.upon]
       exact Calls.mono dG fun e lU ⟨u,z_,h3,h4⟩=>by subst z_;exact next u lU h3 h4
      | _=>exact dG.elim
     | halt x W'=>exact dG.elim
    ·rw[if_neg (by rw[tR.trans hw];simp)]
     exact next _ _ hW dG
  ·-- the tail
   have bH:∀j,j<i->D j:=fun j hj=>fV eG ho gD (ge.tail i (by omega) d_ j hj)
   obtain⟨m,h1,h2,h3,h4⟩:=tQ D a' W hJ (fun j hj=>bH j (by omega))
   have MF:m=i:=by
    by_cases e1:i<m
    ·exact absurd ((h3 i d_).2 e1) lB
    ·by_cases e2:m<i
     ·have:=(h3 m (by omega)).1 (bH m e2);omega
     ·omega
   subst MF
   have CL:ops.toList.drop m=o::ops.toList.drop (m+1):=by
    have:m<ops.toList.length:=by simpa using d_
    rw[List.drop_eq_getElem_cons this];congr 1
    have:=(Array.getElem?_eq_some_iff.1 ho).2
    simpa using this
   rw[CL]at h4;unfold wpList at h4
   have next:∀a W,wpList P ops Q (ops.toList.drop (m+1)) a W->J (fun j=>D j\/j=m) a W:=fun a W h=>.inr ⟨m+1,by omega,by omega,fun j hj=>by
    constructor
    ·rintro(h | rfl)
     ·have:=(h3 j hj).1 h;omega
     ·omega
    ·intro h
     by_cases e:j=m
     ·exact .inr e
     ·exact .inl ((h3 j hj).2 (by omega)),h⟩
   split
   ·rename_i hw
    rw[if_pos hw]at h4;exact h4.imp (Oper.wp_mono next) id
   ·rename_i hw
    rw[if_neg hw]at h4;exact next _ _ h4
 ·intro D a' W hJ bH;obtain⟨m,h1,h2,h3,h4⟩:=tQ D a' W hJ (fun j hj=>bH j (by omega))
  have Qe:m=ops.size:=by
   by_cases e:m<ops.size
   ·have:=(h3 m e).1 (bH m e);omega
   ·omega
  subst Qe;rw[List.drop_eq_nil_of_le (by simp)]at h4;exact h4
theorem Fl {w0:World} {dD:Act->Prop}:∀(l:List Oper) (A:Act),kS P ops w0 dD l A->ry P ops (ab w0) dD l A
 | [],_,h=>h
 | _::l,_,⟨v,h1,h2⟩=>⟨v,h1,Fl l _ h2⟩
theorem eh {Q:Exit->Act->World->Prop} {Dr:Nat} {a:Act} {w w0:World} (k:Nat) (mask:List Bool) (hm:P.follows .mixedOrders=true) (hc:yq ops k mask=true) (aU:ab w0 w)
  (h:kS P ops w0 (fun A=>bh P ops (ab w0) (fun A W=>wpList P ops Q (ops.toList.drop k) A W) (dS mask (ops.toList.take k)) A w.drew) (er mask (ops.toList.take k)) a):(Code.region Dr ops true).wp P Q a w:=
 ax (ab w0) k mask hm hc (ah aU) (Fl _ _ h)
theorem tS {w0:World} {dD TG:Act->Prop} (hf:∀A,dD A->TG A):∀(l:List Oper) (A:Act),kS P ops w0 dD l A->kS P ops w0 TG l A
 | [],A,h=>hf A h
 | _::l,_,⟨v,h1,h2⟩=>⟨v,h1,tS hf l _ h2⟩
theorem eP {Q:Exit->Act->World->Prop} {Dr:Nat} {a:Act} {w w0:World} (k:Nat) (mask:List Bool) (hm:P.follows .mixedOrders=true) (hc:yq ops k mask=true) (aU:ab w0 w)
  (h:kS P ops w0 (fun A=>∀W,ab w0 W->bh P ops (ab w0) (fun A W=>wpList P ops Q (ops.toList.drop k) A W) (dS mask (ops.toList.take k)) A W) (er mask (ops.toList.take k)) a):(Code.region Dr ops true).wp P Q a w:=
 eh k mask hm hc aU (tS (fun _ h=>h _ (ah aU)) _ _ h)
end
section
variable {P : Program} {ops : Array Oper}
def jM {α:Type} (c:Nat):List Nat->List α->List α
 | x::m,o::l=>if x=c then o::jM c m l else jM c m l
 | [],_=>[]
 | _::_,[]=>[]
def iQ (b:Nat) (m:List Nat) (i:Nat):Nat:=(m.take i).count b
theorem qq {α:Type} (c:Nat):∀(m:List Nat) (l:List α) (i:Nat),m.length=l.length->m[i]?=some c->(jM c m l)[iQ c m i]?=l[i]?
 | [],_,i,_,h=>by simp at h
 | x::m,o::l,0,_,h=>by simp at h;subst h;simp[iQ,jM]
 | x::m,o::l,i+1,hl,h=>by
  have:=qq c m l i (by simpa using hl) (by simpa using h)
  unfold jM
  split
  ·rename_i e;subst e;simpa[iQ]using this
  ·rename_i e;simpa[iQ,List.count_cons_of_ne e]using this
theorem qr {α:Type} (c:Nat):∀(m:List Nat) (l:List α),m.length=l.length->(jM c m l).length=m.count c
 | [],[],_=>rfl
 | x::m,o::l,hl=>by
  have:=qr c m l (by simpa using hl)
  unfold jM
  split
  ·rename_i e;subst e;simp[this]
  ·rename_i e;simp[List.count_cons_of_ne e,this]
theorem Jp {b:Nat} {m:List Nat} {i:Nat} {x:Nat} (h:m[i]?=some x):iQ b m (i+1)=iQ b m i+if x=b then 1 else 0:=by
 obtain⟨hi,rfl⟩:=List.getElem?_eq_some_iff.1 h;unfold iQ;rw[List.take_succ_eq_append_getElem hi,List.count_append];congr 1
 simp[List.count_cons]
theorem Qf {b:Nat} {m:List Nat} {i j:Nat} (h:i<=j):iQ b m i<=iQ b m j:=by
 unfold iQ;exact List.Sublist.count_le _ (List.IsPrefix.sublist (List.take_prefix_take_left h))
theorem rA {b:Nat} {m:List Nat} {i j:Nat} (h:i<j) (hi:m[i]?=some b):iQ b m i<iQ b m j:=by
 have h1:=Jp (b:=b) hi;rw[if_pos rfl]at h1
 have:=Qf (b:=b) (m:=m) (show i+1<=j from h)
 omega
theorem qs {b:Nat} {m:List Nat} {i j:Nat} (hi:m[i]?=some b) (hj:m[j]?=some b) (h:iQ b m i=iQ b m j):i=j:=by
 rcases Nat.lt_trichotomy i j with hl | hl | hl
 ·have:=rA hl hi;omega
 ·exact hl
 ·have:=rA hl hj;omega
theorem gS {b:Nat} {m:List Nat} {i:Nat} (hi:m[i]?=some b):iQ b m i<m.count b:=by
 have h1:=rA (Nat.lt_of_lt_of_le (List.getElem?_eq_some_iff.1 hi).1 (Nat.le_refl m.length)) hi
 unfold iQ at h1 ⊢
 rw[List.take_length]at h1;exact h1
theorem l6 {b:Nat}:∀(m:List Nat) (q:Nat),q<m.count b->∃i:Nat,m[i]?=some b/\iQ b m i=q
 | [],q,h=>by simp at h
 | x::m,q,h=>by
  by_cases hx:x=b
  ·subst hx
   cases q with
   | zero=>exact⟨0,by simp,by simp[iQ]⟩
   | succ q=>
    obtain⟨i,h1,h2⟩:=l6 m q (by simpa using h)
    exact ⟨i + 1, by simpa using h1, by have : iQ x (x :: m) (i + 1) = iQ x m i + 1 := by simp [iQ]
                                        omega⟩
  ·obtain⟨i,h1,h2⟩:=l6 m q (by rwa [List.count_cons_of_ne hx]at h)
   exact ⟨i + 1, by simpa using h1, by have : iQ b (x :: m) (i + 1) = iQ b m i := by simp [iQ, List.count_cons_of_ne hx]
                                       omega⟩
def qt (P:Program) (ops:Array Oper) (dD:Act->World->Prop):List Oper->Act->World->Prop
 | [],A,W=>dD A W
 | o::rest,A,W=>∀W1,ab W W1 ->
  (Region.wanted o (yielded ops A.tmps)=true/\match (execOp A.eval o).run P W1 with
   | .ok (.value u) W2=>ab W1 W2/\qt P ops dD rest (A.put o.dst u) W2
   | .ok (.enter f args) W2=>Calls P f args W2 fun e W3=>∃u,e=.returned u/\ab W1 W3/\qt P ops dD rest (A.put o.dst u) W3
   | _=>False)
theorem qt.since {dD:Act->World->Prop} (it:∀A W W',dD A W->ab W W'->dD A W'):∀(l:List Oper) (A:Act) (W W':World),qt P ops dD l A W->ab W W'->qt P ops dD l A W'
 | [],A,W,W',h,hs=>it A W W' h hs
 | _::_,_,_,_,h,hs=>fun W1 h1=>h W1 (hs.after h1)
def ap (ops:Array Oper):List Nat->(Nat->Value)->Act->Act
 | [],_,A=>A
 | j::r,us,A=>ap ops r us (match ops[j]? with | none=>A | some o=>A.put o.dst (us j))
def rB (c:Nat) (mask:List Nat):List Nat:=(List.range mask.length).filter fun i=>mask.getD i 99==c
def OV (ops:Array Oper) (k:Nat) (mask:List Nat):Bool:=
 p7 ops k&&decide (mask.length=k)&&decide (k<=ops.size)&&(mask.all fun x=>decide (x<=3)) &&
 (List.range k).all fun i=>match ops[i]? with
  | none=>true
  | some o=>
   let c:=mask.getD i 99
   let up:=(jX ops (i+1)).getD i []
   if c=0 then (bg o).all fun j=>mask.getD j 99==0
   else if c=1 then ((bg o).all fun j=>mask.getD j 99==0||mask.getD j 99==1)&&(List.range i).all fun j => !(mask.getD j 99==1)||up.contains j
   else if c=2 then (bg o).all fun j=>mask.getD j 99==0
   else ((List.range k).all fun j => !(mask.getD j 99==1||mask.getD j 99==2)||up.contains j)&&(List.range i).all fun j => !(mask.getD j 99==3)||up.contains j
def Qg (P:Program) (ops:Array Oper) (w0:World) (R:Nat->World->Value->Prop) (A:Act) (j:Nat):Prop:=
 ∀o,ops[j]?=some o->Region.wanted o (yielded ops A.tmps)=true/\∀W,ab w0 W->j9 P (R j) o A W
theorem j3 {a:Act} {k:Nat} (hd:∀i o,i<k->ops[i]?=some o->∀j oj,j<k->ops[j]?=some oj->∀d,o.dst=some d->oj.dst=some d->j=i) (hk:k<=ops.size) (V:Nat->Value):∀(l:List Nat) (D:Nat->Prop) (A:Act),(∀j,D j->j<k)->(∀j∈l,j<k/\¬D j)->l.Nodup->aL a ops V D A->aL a ops V (fun j=>D j\/j∈l) (ap ops l V A)
 | [],D,A,_,_,_,h=>h.same (fun j=>by simp)
 | j::r,D,A,hD,hl,hn,h=>by
  have hj:=hl j (by simp);have De:j<ops.size:=by omega
  have ho:ops[j]?=some ops[j]:=Array.getElem?_eq_getElem De
  have h1:=h.put ho (fun j' oj d Da ez ju gC=>by
   have:=hd j _ hj.1 ho j' oj (hD j' Da) ez d ju gC
   subst this
   exact hj.2 Da)
  have OW:=List.nodup_cons.1 hn
  have:=j3 hd hk V r (fun x=>D x\/x=j) _ (fun x hx=>hx.elim (hD x) (fun e=>by omega)) (fun x hx=>⟨(hl x (List.mem_cons_of_mem _ hx)).1,fun e=>e.elim (hl x (List.mem_cons_of_mem _ hx)).2 (fun e=>by subst e;exact OW.1 hx)⟩) OW.2 h1
  unfold ap;rw[ho];exact this.same (fun x=>by simp[or_assoc])
theorem mO {Q:Exit->Act->World->Prop} {Dr:Nat} {a:Act} {w w0:World} (k:Nat) (mask:List Nat) (R:Nat->World->Value->Prop) (hR:∀j W W' u,R j W u->ab W W'->R j W' u) (hm:P.follows .mixedOrders=true) (hc:OV ops k mask=true) (aU:ab w0 w)
  (h:kS P ops w0 (fun A=>(∀j∈rB 2 mask,Qg P ops w0 R A j)/\∀W,ab w0 W->qt P ops (fun A W=>∀(us:Nat->Value) W1,ab W W1->(∀j∈rB 2 mask,R j W1 (us j))->bh P ops (ab w0) (fun A W=>wpList P ops Q (ops.toList.drop k) A W) (jM 3 mask (ops.toList.take k)) (ap ops (rB 2 mask) us A) W1) (jM 1 mask (ops.toList.take k)) A W) (jM 0 mask (ops.toList.take k)) a):(Code.region Dr ops true).wp P Q a w:=by
 unfold OV at hc;simp only[Bool.and_eq_true,decide_eq_true_eq]at hc;obtain⟨⟨⟨⟨hf,Fk⟩,CJ⟩,fP⟩,Yc⟩:=hc;have ge:=nG hf
 have az:mask.length=(ops.toList.take k).length:=by simp;omega
 have ME:∀i,i<k->∃b,mask[i]?=some b/\b<=3:=fun i hi=>⟨_,List.getElem?_eq_getElem (by omega),by simpa using List.all_eq_true.1 fP _ (List.getElem_mem (by omega))⟩
 have p9:∀i o,i<k->ops[i]?=some o->(ops.toList.take k)[i]?=some o:=fun i o hi ho=>by
  rw[List.getElem?_take,if_pos hi];simpa using ho
 have zC:∀i b,mask[i]?=some b->mask.getD i 99=b:=fun i b hb=>by rw[zDd,hb];rfl
 have fa:∀i b,mask[i]?=some b->i<k:=fun i b hb=>by have:=(List.getElem?_eq_some_iff.1 hb).1;omega
 have MF:∀j c,j∈rB c mask↔mask[j]?=some c/\c≠99\/(c=99/\j∈rB c mask):=fun j c=>by
  by_cases TH:c=99
  ·simp[TH]
  ·simp only[TH,ne_eq,not_false_eq_true,and_true,false_and,or_false];unfold rB;rw[List.mem_filter,List.mem_range];constructor
   ·rintro⟨h1,h2⟩;rw[zDd,List.getElem?_eq_getElem h1]at h2;rw[List.getElem?_eq_getElem h1];simpa using h2
   ·intro h1
    exact⟨(List.getElem?_eq_some_iff.1 h1).1,by rw[zC j c h1];simp⟩
 have rq:∀j,j∈rB 2 mask↔mask[j]?=some 2:=fun j=>by rw[MF j 2];simp
 have row:∀i o,i<k->ops[i]?=some o->_:=fun i o hi ho=>by
  have:=List.all_eq_true.1 Yc i (List.mem_range.2 hi)
  simp only[ho]at this;exact this
 have Yd:∀i j o c,i<k->ops[i]?=some o->j∈bg o->(mask.getD j 99==c)=true->mask[j]?=some c:=fun i j o c hi ho hj hd=>by
  have ld:j<k:=by have:=ge.back i o ho j hj;omega
  obtain⟨b,hb,-⟩:=ME j ld;rw[zC j b hb]at hd
  rw[hb];simpa using hd
 have c0:∀i o j,mask[i]?=some 0->ops[i]?=some o->j∈bg o->mask[j]?=some 0:=fun i o j hi ho hj=>by
  have jo:=fa i _ hi
  have:=row i o jo ho
  simp only[zC i _ hi,if_true]at this;exact Yd i j o 0 jo ho hj (List.all_eq_true.1 this j hj)
 have c1:∀i o j,mask[i]?=some 1->ops[i]?=some o->j∈bg o->mask[j]?=some 0\/mask[j]?=some 1:=fun i o j hi ho hj=>by
  have jo:=fa i _ hi
  have:=row i o jo ho
  simp only[zC i _ hi,Nat.one_ne_zero,if_false,if_true,Bool.and_eq_true]at this;have h1:=List.all_eq_true.1 this.1 j hj;rw[Bool.or_eq_true]at h1;exact h1.imp (Yd i j o 0 jo ho hj) (Yd i j o 1 jo ho hj)
 have c2:∀i o j,mask[i]?=some 2->ops[i]?=some o->j∈bg o->mask[j]?=some 0:=fun i o j hi ho hj=>by
  have jo:=fa i _ hi
  have:=row i o jo ho
  simp only[zC i _ hi,show ¬(2:Nat)=0 by decide,show ¬(2:Nat)=1 by decide,if_false,if_true]at this
  exact Yd i j o 0 jo ho hj (List.all_eq_true.1 this j hj)
 have ch1:∀i j,mask[i]?=some 1->mask[j]?=some 1->j<i->L9 ops j i:=fun i j hi hj nH=>by
  have jo:=fa i _ hi
  have:=row i _ jo (Array.getElem?_eq_getElem (by omega))
  simp only[zC i _ hi,Nat.one_ne_zero,if_false,if_true,Bool.and_eq_true]at this
  have:=List.all_eq_true.1 this.2 j (List.mem_range.2 nH)
  rw[zC j _ hj]at this;exact fU (i+1) i j (by simpa using this)
 have ch3:∀i j,mask[i]?=some 3->(mask[j]?=some 1\/mask[j]?=some 2\/(mask[j]?=some 3/\j<i))->L9 ops j i:=fun i j hi hj=>by
  have jo:=fa i _ hi
  have:=row i _ jo (Array.getElem?_eq_getElem (by omega))
  simp only[zC i _ hi,show ¬(3:Nat)=0 by decide,show ¬(3:Nat)=1 by decide,show ¬(3:Nat)=2 by decide,if_false,Bool.and_eq_true]at this
  rcases hj with hj | hj | ⟨hj,nH⟩
  ·have:=List.all_eq_true.1 this.1 j (List.mem_range.2 (fa j _ hj))
   rw[zC j _ hj]at this;exact fU (i+1) i j (by simpa using this)
  ·have:=List.all_eq_true.1 this.1 j (List.mem_range.2 (fa j _ hj))
   rw[zC j _ hj]at this;exact fU (i+1) i j (by simpa using this)
  ·have:=List.all_eq_true.1 this.2 j (List.mem_range.2 nH)
   rw[zC j _ hj]at this;exact fU (i+1) i j (by simpa using this)
 obtain⟨acp,F,h0,⟨Ay,it⟩,j8⟩:=qd _ a h
 have xB:∀r,r<=mask.count 0->aL a ops (fun j=>acp (iQ 0 mask j)) (fun j=>mask[j]?=some 0/\iQ 0 mask j<r) (F r):=by
  intro r
  induction r with
  | zero=>intro _;rw[h0];exact⟨rfl,rfl,fun j _ _ hj=>by have:=hj.2;omega,fun _ _=>rfl⟩
  | succ r ih=>
   intro hr;obtain⟨i,tJ,rq⟩:=l6 (b:=0) mask r (by omega);have jo:=fa i _ tJ;have ho:ops[i]?=some ops[i]:=Array.getElem?_eq_getElem (by omega);have ka:=qq 0 mask _ i az tJ;rw[p9 i _ jo ho,rq]at ka;rw[(j8 r _ ka).2]
   have:=((ih (by omega)).put ho (fun j oj d hj ez hd gC=>by
    have:=ge.acB i _ jo ho j oj (fa j _ hj.1) ez d hd gC
    subst this
    have:=hj.2
    omega)).same (E:=fun j=>mask[j]?=some 0/\iQ 0 mask j<r+1) (fun j=>by
     constructor
     ·rintro(⟨a1,a2⟩ | rfl)
      ·exact⟨a1,by omega⟩
      ·exact⟨tJ,by omega⟩
     ·rintro⟨a1,a2⟩
      by_cases e:iQ 0 mask j=r
      ·exact .inr (qs a1 tJ (by omega))
      ·exact .inl ⟨a1,by omega⟩)
   rw[show acp r=acp (iQ 0 mask i)by rw[rq]]
   exact this
 have ZG:(jM 0 mask (ops.toList.take k)).length=mask.count 0:=qr _ _ _ az;rw[ZG]at it Ay;have jU:(jM 1 mask (ops.toList.take k)).length=mask.count 1:=qr _ _ _ az;have Sv:(jM 3 mask (ops.toList.take k)).length=mask.count 3:=qr _ _ _ az
 let Jq:Act->World->Prop:=fun A W=>∀(us:Nat->Value) W1,ab W W1->(∀j∈rB 2 mask,R j W1 (us j))->bh P ops (ab w0) (fun A W=>wpList P ops Q (ops.toList.drop k) A W) (jM 3 mask (ops.toList.take k)) (ap ops (rB 2 mask) us A) W1
 have TI:∀A W W',Jq A W->ab W W'->Jq A W':=fun A W W' h hs us W1 h1=>h us W1 (hs.after h1)
 let J:(Nat->Prop)->Act->World->Prop:=fun D a' W=>
  (ab w0 W/\(∀j,D j->j<k)/\(∀j,mask[j]?=some 3->¬D j)/\∃(V:Nat->Value) (q:Nat) (A:Act),(∀j,mask[j]?=some 0->V j=acp (iQ 0 mask j))/\(∀j,mask[j]?=some 1->(D j↔iQ 1 mask j<q)) /\
   (∀j,mask[j]?=some 2->D j->R j W (V j))/\aL a ops V D a'/\aL a ops V (fun j=>mask[j]?=some 0\/(mask[j]?=some 1/\iQ 1 mask j<q)) A /\
   qt P ops Jq ((jM 1 mask (ops.toList.take k)).drop q) A W) \/
  (ab w0 W/\(∀j,D j->j<k)/\(∀j,mask[j]?=some 1\/mask[j]?=some 2->D j)/\∃(V:Nat->Value) (q:Nat) (A:Act),(∀j,mask[j]?=some 0->V j=acp (iQ 0 mask j))/\(∀j,mask[j]?=some 3->(D j↔iQ 3 mask j<q)) /\
   aL a ops V D a'/\aL a ops V (fun j=>mask[j]?=some 0\/mask[j]?=some 1\/mask[j]?=some 2\/(mask[j]?=some 3/\iQ 3 mask j<q)) A /\
   bh P ops (ab w0) (fun A W=>wpList P ops Q (ops.toList.drop k) A W) ((jM 3 mask (ops.toList.take k)).drop q) A W) \/
  (∃m,k<=m/\m<=ops.size/\(∀j,j<ops.size->(D j↔j<m))/\wpList P ops Q (ops.toList.drop m) a' W)
 have TJ:∀D a' W,J D a' W->(∀j,mask[j]?=some 1\/mask[j]?=some 2->D j)->(∀j,D j->j<k) ->
   (ab w0 W/\∃(V:Nat->Value) (q:Nat) (A:Act),(∀j,mask[j]?=some 0->V j=acp (iQ 0 mask j))/\(∀j,mask[j]?=some 3->(D j↔iQ 3 mask j<q)) /\
   aL a ops V D a'/\aL a ops V (fun j=>mask[j]?=some 0\/mask[j]?=some 1\/mask[j]?=some 2\/(mask[j]?=some 3/\iQ 3 mask j<q)) A /\
   bh P ops (ab w0) (fun A W=>wpList P ops Q (ops.toList.drop k) A W) ((jM 3 mask (ops.toList.take k)).drop q) A W)\/∃m,k<=m/\m<=ops.size/\(∀j,j<ops.size->(D j↔j<m))/\wpList P ops Q (ops.toList.drop m) a' W:=by
  intro D a' W hJ hD MG;rcases hJ with⟨hW,lA,h3,V,q,A,hV,hT,hU,iZ,wg,MH⟩ | ⟨hW,lA,-,hJ⟩ | hJ
  ·have hq:mask.count 1<=q:=by
    by_cases e:mask.count 1<=q
    ·exact e
    ·obtain⟨i,tJ,rq⟩:=l6 (b:=1) mask q (by omega)
     have:=(hT i tJ).1 (hD i (.inl tJ))
     omega
   have Jo:(jM 1 mask (ops.toList.take k)).drop q=[]:=List.drop_eq_nil_of_le (by omega);rw[Jo]at MH;have ZH:Jq A W:=MH;have CK:=ZH V W (aa _) (fun j hj=>hU j ((rq j).1 hj) (hD j (.inr ((rq j).1 hj))))
   refine .inl ⟨hW,V,0,ap ops (rB 2 mask) V A,hV,fun j hj=>⟨fun h=>absurd h (h3 j hj),fun h=>by omega⟩,iZ,?_,by rw[List.drop_zero];exact CK⟩
   have:=j3 (a:=a) ge.acB CJ V (rB 2 mask) _ A (fun j hj=>hj.elim (fun h=>fa j _ h) (fun h=>fa j _ h.1)) (fun j hj=>⟨fa j _ ((rq j).1 hj),fun e=>by
    have h2:=(rq j).1 hj
    rcases e with e | ⟨e,-⟩ <;> rw[h2]at e <;> cases e⟩) (List.Pairwise.filter _ List.nodup_range) wg
   exact this.same (fun j=>by
    rw[rq];constructor
    ·rintro((h | ⟨h,-⟩) | h)
     ·exact .inl h
     ·exact .inr (.inl h)
     ·exact .inr (.inr (.inl h))
    ·rintro(h | h | h | ⟨-,h⟩)
     ·exact .inl (.inl h)
     ·exact .inl (.inr ⟨h,by have:=gS h;omega⟩)
     ·exact .inr h
     ·omega)
  ·exact .inl ⟨hW,hJ⟩
  ·exact .inr hJ
 have tQ:∀D a' W,J D a' W->(∀j,j<k->D j)->∃m,k<=m/\m<=ops.size/\(∀j,j<ops.size->(D j↔j<m))/\wpList P ops Q (ops.toList.drop m) a' W:=by
  intro D a' W hJ hD
  by_cases lA:∀j,D j->j<k
  ·rcases TJ D a' W hJ (fun j hj=>hD j (hj.elim (fa j _) (fa j _))) lA with⟨hW,V,q,A,hV,hT,iZ,wg,CK⟩ | hJ
   ·have hq:mask.count 3<=q:=by
     by_cases e:mask.count 3<=q
     ·exact e
     ·obtain⟨i,tJ,rq⟩:=l6 (b:=3) mask q (by omega)
      have:=(hT i tJ).1 (hD i (fa i _ tJ))
      omega
    have Jo:(jM 3 mask (ops.toList.take k)).drop q=[]:=List.drop_eq_nil_of_le (by omega);rw[Jo]at CK
    have:a'=A:=iZ.ext wg (fun j hj=>by
     constructor
     ·intro Da;obtain⟨b,hb,bB⟩:=ME j (lA j Da)
      have:b=0\/b=1\/b=2\/b=3:=by omega
      rcases this with rfl | rfl | rfl | rfl
      ·exact .inl hb
      ·exact .inr (.inl hb)
      ·exact .inr (.inr (.inl hb))
      ·exact .inr (.inr (.inr ⟨hb,(hT j hb).1 Da⟩))
     ·rintro(hb | hb | hb | ⟨hb,_⟩) <;> exact hD j (fa j _ hb))
    subst this;exact⟨k,Nat.le_refl _,CJ,fun j _=>⟨fun h=>lA j h,fun h=>hD j h⟩,CK⟩
   ·exact hJ
  ·rcases hJ with⟨-,MG,-⟩ | ⟨-,MG,-⟩ | hJ
   ·exact absurd MG lA
   ·exact absurd MG lA
   ·exact hJ
 refine iP hm ge.back J (.inl ⟨ah aU,fun j hj=>hj.elim,fun j _ hj=>hj.elim,fun j=>acp (iQ 0 mask j),0,F (mask.count 0),fun j _=>rfl,fun j _=>⟨fun h=>h.elim,fun h=>by omega⟩,fun j _ hj=>hj.elim,⟨rfl,rfl,fun j _ _ hj=>hj.elim,fun _ _=>rfl⟩,?_,?_⟩) ?_ ?_
 ·exact(xB _ (Nat.le_refl _)).same (fun j=>by
   constructor
   ·rintro⟨a1,-⟩;exact .inl a1
   ·rintro(a1 | ⟨-,a2⟩)
    ·exact⟨a1,gS a1⟩
    ·omega)
 ·rw[List.drop_zero];exact it _ (ah aU)
 ·intro D a' W i o hJ ho lB gD eG;have d_:i<ops.size:=(Array.getElem?_eq_some_iff.1 ho).1
  by_cases jo:i<k
  ·have lA:∀j,D j->j<k:=by
    rcases hJ with⟨-,h,-⟩ | ⟨-,h,-⟩ | ⟨m,h1,h2,h3,-⟩
    ·exact h
    ·exact h
    ·exact absurd ((h3 i d_).2 (by omega)) lB
   have Jr:∀j,(D j\/j=i)->j<k:=fun j hj=>hj.elim (lA j) (fun e=>by omega)
   have MI:∀ {p:Prop},(∃m,k<=m/\m<=ops.size/\(∀j,j<ops.size->(D j↔j<m))/\wpList P ops Q (ops.toList.drop m) a' W)->p:=fun ⟨m,h1,h2,h3,_⟩=>absurd ((h3 i d_).2 (by omega)) lB
   have look:∀t∈o.looksAt ops,∀j oj,j<k->ops[j]?=some oj->oj.dst=some t->D j/\j∈bg o:=fun t ht j oj ld ez hd=>by
    have:=ge.looks i o jo ho t ht j oj ld ez hd
    exact⟨gD j this,this⟩
   have pi:∀(E:Nat->Prop),(∀j,E j->j<k)->¬E i->∀j oj d,E j->ops[j]?=some oj->o.dst=some d->oj.dst≠some d:=fun E hE Qh j oj d hj ez hd gC=>by
    have:=ge.acB i o jo ho j oj (hE j hj) ez d hd gC
    subst this;exact Qh hj
   obtain⟨b,hb,bB⟩:=ME i jo;have hb':b=0\/b=1\/b=2\/b=3:=by omega
   have Js:∀j c,mask[j]?=some c->c≠b->j≠i:=fun j c hj hc e=>by subst e;rw[hb]at hj;cases hj;exact hc rfl
   rcases hb' with rfl | rfl | rfl | rfl
   ·-- a read
    have ka:=qq 0 mask _ i az hb;rw[p9 i _ jo ho]at ka;obtain⟨⟨hw,dG⟩,-⟩:=j8 _ _ ka;have hr:=gS hb
    have tG:∀V:Nat->Value,(∀j,mask[j]?=some 0->V j=acp (iQ 0 mask j))->aL a ops V D a'->execOp a'.eval o=execOp (F (iQ 0 mask i)).eval o/\Region.wanted o (yielded ops a'.tmps)=Region.wanted o (yielded ops (F (iQ 0 mask i)).tmps):=fun V hV iZ=>
     eX (ops:=ops) (a':=a') (A:=F (iQ 0 mask i)) (fun t ht=>iZ.agree ((xB _ (Nat.le_of_lt hr)).acp (v':=V) (fun j hj=>(hV j hj.1).symm)) t (fun j oj hj ez hd=>by
      have ld:j<k:=hj.elim (fun h=>lA j h) (fun h=>fa j _ h.1)
      obtain⟨d1,d2⟩:=look t ht j oj ld ez hd;have OU:=c0 i o j hb ho d2
      exact⟨d1,OU,rA (ge.back i o ho j d2) OU⟩)) (fun cs b=>ge.acA i o cs b ho)
    have TK:∀V:Nat->Value,(∀j,mask[j]?=some 0->V j=acp (iQ 0 mask j))->aL a ops V D a'->aL a ops V (fun j=>D j\/j=i) (a'.put o.dst (acp (iQ 0 mask i))):=fun V hV iZ=>by
     have:=iZ.put (i:=i) ho (pi D lA lB)
     rwa [hV i hb]at this
    have dd:∀j c,c≠0->mask[j]?=some c->((D j\/j=i)↔D j):=fun j c hc hj=>⟨fun h=>h.elim id (fun e=>absurd e (Js j c hj hc)),.inl⟩
    rcases hJ with⟨hW,-,h3,V,q,A,hV,hT,hU,iZ,wg,MH⟩ | ⟨hW,-,kb,V,q,A,hV,hT,iZ,wg,CK⟩ | hJ
    ·obtain⟨he,tR⟩:=tG V hV iZ;rw[if_pos (tR.trans hw)];refine .inl ?_;unfold Oper.wp;rw[he,dG W hW];exact .inl ⟨hW,Jr,fun j hj h=>h3 j hj ((dd j 3 (by decide) hj).1 h),V,q,A,hV,fun j hj=>(dd j 1 (by decide) hj).trans (hT j hj),fun j hj h=>hU j hj ((dd j 2 (by decide) hj).1 h),TK V hV iZ,wg,MH⟩
    ·obtain⟨he,tR⟩:=tG V hV iZ;rw[if_pos (tR.trans hw)];refine .inl ?_;unfold Oper.wp;rw[he,dG W hW];exact .inr (.inl ⟨hW,Jr,fun j hj=>.inl (kb j hj),V,q,A,hV,fun j hj=>(dd j 3 (by decide) hj).trans (hT j hj),TK V hV iZ,wg,CK⟩)
    ·exact MI hJ
   ·-- the first chain
    rcases hJ with⟨hW,-,h3,V,q,A,hV,hT,hU,iZ,wg,MH⟩ | ⟨hW,-,kb,-⟩ | hJ
    rotate_left
    ·exact absurd (kb i (.inl hb)) lB
    ·exact MI hJ
    have hq:iQ 1 mask i=q:=by
     have h1:¬iQ 1 mask i<q:=fun h=>lB ((hT i hb).2 h)
     by_cases e:iQ 1 mask i=q
     ·exact e
     ·obtain⟨j,rz,xm⟩:=l6 (b:=1) mask q (by have:=gS hb;omega)
      have nH:j<i:=by
       rcases Nat.lt_trichotomy j i with h | h | h
       ·exact h
       ·subst h;omega
       ·have:=rA h hb;omega
      have:=fV eG ho gD (ch1 i j hb rz nH)
      have:=(hT j rz).1 this
      omega
    have ka:=qq 1 mask _ i az hb;rw[p9 i _ jo ho,hq]at ka;have IG:q<(jM 1 mask (ops.toList.take k)).length:=(List.getElem?_eq_some_iff.1 ka).1;rw[List.drop_eq_getElem_cons IG,(List.getElem?_eq_some_iff.1 ka).2]at MH
    obtain⟨he,tR⟩:=eX (ops:=ops) (a':=a') (A:=A) (fun t ht=>iZ.agree wg t (fun j oj hj ez hd=>by
     have ld:j<k:=hj.elim (fun h=>lA j h) (fun h=>h.elim (fa j _) (fun h=>fa j _ h.1))
     obtain⟨d1,d2⟩:=look t ht j oj ld ez hd;refine⟨d1,?_⟩;rcases c1 i o j hb ho d2 with hb' | hb'
     ·exact .inl hb'
     ·exact .inr ⟨hb',(hT j hb').1 d1⟩)) (fun cs b=>ge.acA i o cs b ho)
    have next:∀u W',ab W W'->qt P ops Jq ((jM 1 mask (ops.toList.take k)).drop (q+1)) (A.put o.dst u) W'->J (fun j=>D j\/j=i) (a'.put o.dst u) W':=by
     intro u W' hS ht
     let V':Nat->Value:=fun j=>if j=i then u else V j
     have e1:∀j,j≠i->V' j=V j:=fun j hj=>if_neg hj
     have e2:V' i=u:=if_pos rfl;refine .inl ⟨hW.after hS,Jr,fun j hj h=>h.elim (h3 j hj) (Js j 3 hj (by decide)),V',q+1,A.put o.dst u,fun j hj=>?_,fun j hj=>?_,fun j hj h=>?_,?_,?_,ht⟩
     ·rw[e1 j (Js j 0 hj (by decide))];exact hV j hj
     ·constructor
      ·rintro(h | rfl)
       ·have:=(hT j hj).1 h;omega
       ·omega
      ·intro h
       by_cases e:iQ 1 mask j=q
       ·exact .inr (qs hj hb (by omega))
       ·exact .inl ((hT j hj).2 (by omega))
     ·rw[e1 j (Js j 2 hj (by decide))];exact hR j W W' _ (hU j hj (h.elim id (fun e=>absurd e (Js j 2 hj (by decide))))) hS
     ·have:=(iZ.acy (v':=V') (fun j _ hj=>(e1 j (fun e=>by subst e;exact lB hj)).symm)).put (i:=i) ho (pi D lA lB)
      rwa [e2]at this
     ·have Qh:¬(mask[i]?=some 0\/(mask[i]?=some 1/\iQ 1 mask i<q)):=by
       rintro(h | ⟨-,h⟩)
       ·rw[hb]at h;cases h
       ·omega
      have:=((wg.acy (v':=V') (fun j _ hj=>(e1 j (fun e=>by subst e;exact Qh hj)).symm)).put (i:=i) ho (pi _ (fun j hj=>hj.elim (fa j _) (fun h=>fa j _ h.1)) Qh)).same (E:=fun j=>mask[j]?=some 0\/(mask[j]?=some 1/\iQ 1 mask j<q+1)) (fun j=>by
        constructor
        ·rintro((h | ⟨h,h'⟩) | rfl)
         ·exact .inl h
         ·exact .inr ⟨h,by omega⟩
         ·exact .inr ⟨hb,by omega⟩
        ·rintro(h | ⟨h,h'⟩)
         ·exact .inl (.inl h)
         ·by_cases e:iQ 1 mask j=q
          ·exact .inr (qs h hb (by omega))
          ·exact .inl (.inr ⟨h,by omega⟩))
      rwa [e2]at this
    obtain⟨hw,dG⟩:=MH W (aa _);rw[if_pos (tR.trans hw)];refine .inl ?_;unfold Oper.wp;rw[he]
    generalize (execOp A.eval o).run P W=r at dG ⊢
    cases r with
    | ok nx W'=>
     cases nx with
     | value u=>exact next u W' dG.1 dG.2
     | enter f args=>
      simp only[Oper.upon]
      exact Calls.mono dG fun e lU ⟨u,z_,h3,h4⟩=>by subst z_;exact next u lU h3 h4
     | _=>exact dG.elim
    | halt x W'=>exact dG.elim
   ·-- a free one
    rcases hJ with⟨hW,-,h3,V,q,A,hV,hT,hU,iZ,wg,MH⟩ | ⟨hW,-,kb,-⟩ | hJ
    rotate_left
    ·exact absurd (kb i (.inr hb)) lB
    ·exact MI hJ
    obtain⟨hw,kF⟩:=Ay i ((rq i).2 hb) o ho
    obtain⟨he,tR⟩:=eX (ops:=ops) (a':=a') (A:=F (mask.count 0)) (fun t ht=>iZ.agree ((xB _ (Nat.le_refl _)).acp (v':=V) (fun j hj=>(hV j hj.1).symm)) t (fun j oj hj ez hd=>by
     have ld:j<k:=hj.elim (fun h=>lA j h) (fun h=>fa j _ h.1)
     obtain⟨d1,d2⟩:=look t ht j oj ld ez hd;have OU:=c2 i o j hb ho d2
     exact⟨d1,OU,gS OU⟩)) (fun cs b=>ge.acA i o cs b ho)
    have next:∀u W',R i W' u->ab W W'->J (fun j=>D j\/j=i) (a'.put o.dst u) W':=by
     intro u W' hr hS
     let V':Nat->Value:=fun j=>if j=i then u else V j
     have e1:∀j,j≠i->V' j=V j:=fun j hj=>if_neg hj
     have e2:V' i=u:=if_pos rfl;refine .inl ⟨hW.after hS,Jr,fun j hj h=>h.elim (h3 j hj) (Js j 3 hj (by decide)),V',q,A,fun j hj=>?_,fun j hj=>?_,fun j hj h=>?_,?_,?_,qt.since TI _ _ _ _ MH hS⟩
     ·rw[e1 j (Js j 0 hj (by decide))];exact hV j hj
     ·rw[<- hT j hj];exact⟨fun h=>h.elim id (fun e=>absurd e (Js j 1 hj (by decide))),.inl⟩
     ·by_cases e:j=i
      ·subst e;rw[e2];exact hr
      ·rw[e1 j e];exact hR j W W' _ (hU j hj (h.elim id (fun e'=>absurd e' e))) hS
     ·have:=(iZ.acy (v':=V') (fun j _ hj=>(e1 j (fun e=>by subst e;exact lB hj)).symm)).put (i:=i) ho (pi D lA lB)
      rwa [e2]at this
     ·exact wg.acy (fun j _ hj=>(e1 j (by
       rcases hj with hj | ⟨hj,-⟩
       ·exact Js j 0 hj (by decide)
       ·exact Js j 1 hj (by decide))).symm)
    rw[if_pos (tR.trans hw)];refine .inl ?_;unfold Oper.wp;rw[he];have kF:=kF W hW;unfold j9 at kF
    generalize (execOp (F (mask.count 0)).eval o).run P W=r at kF ⊢
    cases r with
    | ok nx W'=>
     cases nx with
     | value u'=>exact next u' W' kF.1 kF.2
     | enter f args=>
      simp only[Oper.upon]
      exact Calls.mono kF fun e lU ⟨u,z_,h3,h4⟩=>by subst z_;exact next u lU h3 h4
     | _=>exact kF.elim
    | halt x W'=>exact kF.elim
   ·-- the chain behind
    have kb:∀j,mask[j]?=some 1\/mask[j]?=some 2->D j:=fun j hj=>fV eG ho gD (ch3 i j hb (hj.elim .inl (fun h=>.inr (.inl h))))
    rcases TJ D a' W hJ kb lA with⟨hW,V,q,A,hV,hT,iZ,wg,CK⟩ | hJ'
    rotate_left
    ·exact MI hJ'
    have hq:iQ 3 mask i=q:=by
     have h1:¬iQ 3 mask i<q:=fun h=>lB ((hT i hb).2 h)
     by_cases e:iQ 3 mask i=q
     ·exact e
     ·obtain⟨j,rz,xm⟩:=l6 (b:=3) mask q (by have:=gS hb;omega)
      have nH:j<i:=by
       rcases Nat.lt_trichotomy j i with h | h | h
       ·exact h
       ·subst h;omega
       ·have:=rA h hb;omega
      have:=fV eG ho gD (ch3 i j hb (.inr (.inr ⟨rz,nH⟩)))
      have:=(hT j rz).1 this
      omega
    have ka:=qq 3 mask _ i az hb;rw[p9 i _ jo ho,hq]at ka;have IG:q<(jM 3 mask (ops.toList.take k)).length:=(List.getElem?_eq_some_iff.1 ka).1;rw[List.drop_eq_getElem_cons IG,(List.getElem?_eq_some_iff.1 ka).2]at CK
    obtain⟨he,tR⟩:=eX (ops:=ops) (a':=a') (A:=A) (fun t ht=>iZ.agree wg t (fun j oj hj ez hd=>by
     have ld:j<k:=hj.elim (fun h=>lA j h) (fun h=>h.elim (fa j _) (fun h=>h.elim (fa j _) (fun h=>h.elim (fa j _) (fun h=>fa j _ h.1))))
     obtain⟨d1,d2⟩:=look t ht j oj ld ez hd;refine⟨d1,?_⟩;obtain⟨b,hb',vL⟩:=ME j ld
     have:b=0\/b=1\/b=2\/b=3:=by omega
     rcases this with rfl | rfl | rfl | rfl
     ·exact .inl hb'
     ·exact .inr (.inl hb')
     ·exact .inr (.inr (.inl hb'))
     ·exact .inr (.inr (.inr ⟨hb',(hT j hb').1 d1⟩)))) (fun cs b=>ge.acA i o cs b ho)
    have next:∀u W',ab w0 W'->bh P ops (ab w0) (fun A W=>wpList P ops Q (ops.toList.drop k) A W) ((jM 3 mask (ops.toList.take k)).drop (q+1)) (A.put o.dst u) W'->J (fun j=>D j\/j=i) (a'.put o.dst u) W':=by
     intro u W' hS ht
     let V':Nat->Value:=fun j=>if j=i then u else V j
     have e1:∀j,j≠i->V' j=V j:=fun j hj=>if_neg hj
     have e2:V' i=u:=if_pos rfl;refine .inr (.inl ⟨hS,Jr,fun j hj=>.inl (kb j hj),V',q+1,A.put o.dst u,fun j hj=>?_,fun j hj=>?_,?_,?_,ht⟩)
     ·rw[e1 j (Js j 0 hj (by decide))];exact hV j hj
     ·constructor
      ·rintro(h | rfl)
       ·have:=(hT j hj).1 h;omega
       ·omega
      ·intro h
       by_cases e:iQ 3 mask j=q
       ·exact .inr (qs hj hb (by omega))
       ·exact .inl ((hT j hj).2 (by omega))
     ·have:=(iZ.acy (v':=V') (fun j _ hj=>(e1 j (fun e=>by subst e;exact lB hj)).symm)).put (i:=i) ho (pi D lA lB)
      rwa [e2]at this
     ·have Qh:¬(mask[i]?=some 0\/mask[i]?=some 1\/mask[i]?=some 2\/(mask[i]?=some 3/\iQ 3 mask i<q)):=by
       rintro(h | h | h | ⟨-,h⟩)
       ·rw[hb]at h;cases h
       ·rw[hb]at h;cases h
       ·rw[hb]at h;cases h
       ·omega
      have:=((wg.acy (v':=V') (fun j _ hj=>(e1 j (fun e=>by subst e;exact Qh hj)).symm)).put (i:=i) ho (pi _ (fun j hj=>hj.elim (fa j _) (fun h=>h.elim (fa j _) (fun h=>h.elim (fa j _) (fun h=>fa j _ h.1)))) Qh)).same (E:=fun j=>mask[j]?=some 0\/mask[j]?=some 1\/mask[j]?=some 2\/(mask[j]?=some 3/\iQ 3 mask j<q+1)) (fun j=>by
        constructor
        ·rintro((h | h | h | ⟨h,h'⟩) | rfl)
         ·exact .inl h
         ·exact .inr (.inl h)
         ·exact .inr (.inr (.inl h))
         ·exact .inr (.inr (.inr ⟨h,by omega⟩))
         ·exact .inr (.inr (.inr ⟨hb,by omega⟩))
        ·rintro(h | h | h | ⟨h,h'⟩)
         ·exact .inl (.inl h)
         ·exact .inl (.inr (.inl h))
         ·exact .inl (.inr (.inr (.inl h)))
         ·by_cases e:iQ 3 mask j=q
          ·exact .inr (qs h hb (by omega))
          ·exact .inl (.inr (.inr (.inr ⟨h,by omega⟩))))
      rwa [e2]at this
    rcases CK with⟨hw,dG⟩ | ⟨hw,dG⟩
    ·rw[if_pos (tR.trans hw)];refine .inl ?_;unfold Oper.wp;rw[he]
     generalize (execOp A.eval o).run P W=r at dG ⊢
     cases r with
     | ok nx W'=>
      cases nx with
      | value u=>exact next u W' dG.1 dG.2
      | skip=>exact next undef W' dG.1 dG.2
      | row row args=>exact Rows.mono dG fun u lU h=>next u lU h.1 h.2
      | enter f args=>
       simp only[Oper.upon]
       exact Calls.mono dG fun e lU ⟨u,z_,h3,h4⟩=>by subst z_;exact next u lU h3 h4
      | _=>exact dG.elim
     | halt x W'=>exact dG.elim
    ·rw[if_neg (by rw[tR.trans hw];simp)]
     exact next _ _ hW dG
  ·-- the tail
   have bH:∀j,j<i->D j:=fun j hj=>fV eG ho gD (ge.tail i (by omega) d_ j hj)
   obtain⟨m,h1,h2,h3,h4⟩:=tQ D a' W hJ (fun j hj=>bH j (by omega))
   have MF:m=i:=by
    by_cases e1:i<m
    ·exact absurd ((h3 i d_).2 e1) lB
    ·by_cases e2:m<i
     ·have:=(h3 m (by omega)).1 (bH m e2);omega
     ·omega
   subst MF
   have CL:ops.toList.drop m=o::ops.toList.drop (m+1):=by
    have:m<ops.toList.length:=by simpa using d_
    rw[List.drop_eq_getElem_cons this];congr 1
    have:=(Array.getElem?_eq_some_iff.1 ho).2
    simpa using this
   rw[CL]at h4;unfold wpList at h4
   have next:∀a W,wpList P ops Q (ops.toList.drop (m+1)) a W->J (fun j=>D j\/j=m) a W:=fun a W h=>.inr (.inr ⟨m+1,by omega,by omega,fun j hj=>by
    constructor
    ·rintro(h | rfl)
     ·have:=(h3 j hj).1 h;omega
     ·omega
    ·intro h
     by_cases e:j=m
     ·exact .inr e
     ·exact .inl ((h3 j hj).2 (by omega)),h⟩)
   split
   ·rename_i hw
    rw[if_pos hw]at h4;exact h4.imp (Oper.wp_mono next) id
   ·rename_i hw
    rw[if_neg hw]at h4;exact next _ _ h4
 ·intro D a' W hJ bH;obtain⟨m,h1,h2,h3,h4⟩:=tQ D a' W hJ (fun j hj=>bH j (by omega))
  have Qe:m=ops.size:=by
   by_cases e:m<ops.size
   ·have:=(h3 m e).1 (bH m e);omega
   ·omega
  subst Qe;rw[List.drop_eq_nil_of_le (by simp)]at h4;exact h4
end
end Go.Proofs.YtgmdpppljkmabaaGreat
