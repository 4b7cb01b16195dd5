/- Parts of the proof: walks of functions and plain laws. -/
import Derived.Test.YtgmdpppljkmabaaGreatQ0
import Derived.Test.YtgmdpppljkmabaaGreatQ1
import Derived.Deep.SlicePairs
import Derived.Deep.Slices
import Derived.Lib.SmallJoins
import Derived.Test.YtgmdpppljkmabaaGreatQ2
set_option maxRecDepth 100000
set_option maxHeartbeats 16000000
namespace Go.Proofs.YtgmdpppljkmabaaGreat
open Go Go.RowKit
section
variable {P : Program} {ops : Array Oper}
theorem JQ {Q:Exit->Act->World->Prop} (qy:∀i o,ops[i]?=some o->∀j∈bM o,j<i) (J:(Nat->Prop)->Act->World->Prop)
  (gJ:∀(D:Nat->Prop) a w i o,J D a w->ops[i]?=some o->¬D i->(∀d∈bM o,D d)->(∀i o,D i->ops[i]?=some o->∀d∈bM o,D d) ->
   if Region.wanted o (yielded ops a.tmps)=true then Oper.wp P o a w (J (fun j=>D j\/j=i)) Q\/(o.asks P a w/\LetsOut Q) else J (fun j=>D j\/j=i) (a.put o.dst undef) w)
  (wK:∀(D:Nat->Prop) a w,J D a w->(∀i,i<ops.size->D i)->Q .normal a w):
  ∀(jr:Nat) (aq:Array Bool) (a:Act) (W:World),aq.size=ops.size->(∀i o,aq.getD i false=true->ops[i]?=some o->∀j∈bM o,aq.getD j false=true) ->
   ((List.range ops.size).filter fun j => !aq.getD j false).length<=jr->J (fun j=>aq.getD j false=true) a W->wpAny P .any ops Q jr aq a W:=by
 have Mv:∀(aq:Array Bool),aq.size=ops.size->Region.ready .any ops aq=[]->∀m,∀j,j<=m->j<ops.size->aq.getD j false=true:=by
  intro aq eP qX m
  induction m using Nat.strongRecOn with
  | ind m ihm=>
   intro j hjm SE;refine Classical.byContradiction fun Fz=>?_
   have Fz:aq.getD j false=false:=by cases hb:aq.getD j false <;> simp_all
   have lM:j∈Region.ready .any ops aq:=ez.2 ⟨by rw[iI (by omega)];exact Fz,ops[j],Array.getElem?_eq_getElem SE,fun d hd=>by
    have hdj:=qy j _ (Array.getElem?_eq_getElem SE) d hd
    exact ihm d (by omega) d (Nat.le_refl _) (by omega)⟩
   rw[qX]at lM;simp at lM
 intro jr
 induction jr with
 | zero=>
  intro aq a W eP d9 T1 hJ
  have bZ:∀j,j<ops.size->aq.getD j false=true:=fun j hj=>by
   rcases hb:aq.getD j false with _ | _
   ·have:0<((List.range ops.size).filter fun j => !aq.getD j false).length:=List.length_pos_of_mem (List.mem_filter.2 ⟨List.mem_range.2 hj,by simp[hb]⟩)
    omega
   ·rfl
  refine⟨List.eq_nil_iff_forall_not_mem.2 fun i hi=>?_,wK _ a W hJ bZ⟩
  obtain⟨h0,o,ho,_⟩:=ez.1 hi;have eU:i<ops.size:=(Array.getElem?_eq_some_iff.1 ho).1;rw[iI (by omega),bZ i eU]at h0;cases h0
 | succ jr ih=>
  intro aq a W eP d9 T1 hJ;refine⟨fun qX=>wK _ a W hJ fun j hj=>Mv aq eP qX j j (Nat.le_refl _) hj,fun i hi=>?_⟩
  obtain⟨h0,o,ho,iX⟩:=ez.1 hi;have eU:i<ops.size:=(Array.getElem?_eq_some_iff.1 ho).1;rw[iI (by omega)]at h0
  have iJ:∀j,(aq.setIfInBounds i true).getD j false=true↔(aq.getD j false=true\/j=i):=fun j=>by
   by_cases oo:i=j
   ·subst oo;simp[eP,eU]
   ·rw[getD_set_ne false oo];constructor
    ·exact .inl
    ·rintro(h | h)
     ·exact h
     ·exact absurd h.symm oo
  have hD:(fun j=>(aq.setIfInBounds i true).getD j false=true)=fun j=>aq.getD j false=true\/j=i:=funext fun j=>propext (iJ j)
  have next:∀a W,J (fun j=>aq.getD j false=true\/j=i) a W->wpAny P .any ops Q jr (aq.setIfInBounds i true) a W:=fun a W hJ'=>by
   refine ih _ a W (by simpa using eP) (fun i' o' yC lU j hj=>?_) ?_ (by rw[hD];exact hJ')
   ·rcases(iJ i').1 yC with h | rfl
    ·exact(iJ j).2 (.inl (d9 i' o' h lU j hj))
    ·rw[ho]at lU;cases lU
     exact(iJ j).2 (.inl (iX j hj))
   ·have XD:=filter_lt (l:=List.range ops.size) (p:=fun j => !aq.getD j false) (q:=fun j => !(aq.setIfInBounds i true).getD j false) (fun x hx=>by
     cases hb:aq.getD x false
     ·rfl
     ·have:=(iJ x).2 (.inl hb)
      simp only[this]at hx
      cases hx) (List.mem_range.2 eU) (by simp only[h0];rfl) (by simp only[(iJ i).2 (.inr rfl)];rfl)
    omega
  have:=gJ (fun j=>aq.getD j false=true) a W i o hJ ho (by rw[h0];simp) iX d9
  unfold wpOp;simp only[ho]
  split
  ·rename_i hw
   rw[if_pos hw]at this;exact this.imp (Oper.wp_mono next) id
  ·rename_i hw
   rw[if_neg hw]at this;exact next _ _ this
theorem lf {Q:Exit->Act->World->Prop} {id:Nat} {a:Act} {w:World} (hm:P.follows .mixedOrders=true) (qy:∀i o,ops[i]?=some o->∀j∈bM o,j<i) (J:(Nat->Prop)->Act->World->Prop)
  (h0:J (fun _=>False) a w.drew)
  (gJ:∀(D:Nat->Prop) a w i o,J D a w->ops[i]?=some o->¬D i->(∀d∈bM o,D d)->(∀i o,D i->ops[i]?=some o->∀d∈bM o,D d) ->
   if Region.wanted o (yielded ops a.tmps)=true then Oper.wp P o a w (J (fun j=>D j\/j=i)) Q\/(o.asks P a w/\LetsOut Q) else J (fun j=>D j\/j=i) (a.put o.dst undef) w)
  (wK:∀(D:Nat->Prop) a w,J D a w->(∀i,i<ops.size->D i)->Q .normal a w):(Code.region id ops true).wp P Q a w:=by
 refine wp_region_any hm ?_
 refine JQ (P:=P) (Q:=Q) qy J gJ wK ops.size (Array.replicate ops.size false) a w.drew (by simp) (fun i o hi=>by rw[jO]at hi;cases hi) ?_ ?_
 ·have:=List.length_filter_le (fun j => !(Array.replicate ops.size false).getD j false) (List.range ops.size)
  simpa using this
 ·have:(fun j=>(Array.replicate ops.size false).getD j false=true)=fun _=>False:=funext fun j=>propext ⟨(fun h=>by rw[jO]at h;cases h),fun h=>h.elim⟩
  rw[this];exact h0
def ea {α:Type}:List Bool->List α->List α
 | true::m,o::l=>o::ea m l
 | false::m,_::l=>ea m l
 | [],_=>[]
 | _::_,[]=>[]
def eE {α:Type}:List Bool->List α->List α
 | true::m,_::l=>eE m l
 | false::m,o::l=>o::eE m l
 | [],_=>[]
 | _::_,[]=>[]
def rk (b:Bool) (m:List Bool) (i:Nat):Nat:=(m.take i).count b
theorem Be {α:Type}:∀(m:List Bool) (l:List α) (i:Nat),m.length=l.length->m[i]?=some true->(ea m l)[rk true m i]?=l[i]?
 | [],_,i,_,h=>by simp at h
 | true::m,o::l,0,_,_=>by simp[rk,ea]
 | true::m,o::l,i+1,hl,h=>by
  have:=Be m l i (by simpa using hl) (by simpa using h)
  simpa[rk,ea]using this
 | false::m,o::l,0,_,h=>by simp at h
 | false::m,o::l,i+1,hl,h=>by
  have:=Be m l i (by simpa using hl) (by simpa using h)
  simpa[rk,ea]using this
theorem vK {α:Type}:∀(m:List Bool) (l:List α) (i:Nat),m.length=l.length->m[i]?=some false->(eE m l)[rk false m i]?=l[i]?
 | [],_,i,_,h=>by simp at h
 | false::m,o::l,0,_,_=>by simp[rk,eE]
 | false::m,o::l,i+1,hl,h=>by
  have:=vK m l i (by simpa using hl) (by simpa using h)
  simpa[rk,eE]using this
 | true::m,o::l,0,_,h=>by simp at h
 | true::m,o::l,i+1,hl,h=>by
  have:=vK m l i (by simpa using hl) (by simpa using h)
  simpa[rk,eE]using this
theorem wU {α:Type}:∀(m:List Bool) (l:List α),m.length=l.length->(ea m l).length=m.count true
 | [],[],_=>rfl
 | true::m,o::l,hl=>by simp[ea,wU m l (by simpa using hl)]
 | false::m,o::l,hl=>by simp[ea,wU m l (by simpa using hl)]
theorem wV {α:Type}:∀(m:List Bool) (l:List α),m.length=l.length->(eE m l).length=m.count false
 | [],[],_=>rfl
 | true::m,o::l,hl=>by simp[eE,wV m l (by simpa using hl)]
 | false::m,o::l,hl=>by simp[eE,wV m l (by simpa using hl)]
theorem Qv {b:Bool} {m:List Bool} {i:Nat} {x:Bool} (h:m[i]?=some x):rk b m (i+1)=rk b m i+if x=b then 1 else 0:=by
 obtain⟨hi,rfl⟩:=List.getElem?_eq_some_iff.1 h;unfold rk;rw[List.take_succ_eq_append_getElem hi,List.count_append];congr 1
 simp[List.count_cons]
theorem XI {b:Bool} {m:List Bool} {i j:Nat} (h:i<=j):rk b m i<=rk b m j:=by
 unfold rk;exact List.Sublist.count_le _ (List.IsPrefix.sublist (List.take_prefix_take_left h))
theorem Da {b:Bool} {m:List Bool} {i j:Nat} (h:i<j) (hi:m[i]?=some b):rk b m i<rk b m j:=by
 have h1:=Qv (b:=b) hi;rw[if_pos rfl]at h1
 have:=XI (b:=b) (m:=m) (show i+1<=j from h)
 omega
theorem FE {b:Bool} {m:List Bool} {i j:Nat} (hi:m[i]?=some b) (hj:m[j]?=some b) (h:rk b m i=rk b m j):i=j:=by
 rcases Nat.lt_trichotomy i j with hl | hl | hl
 ·have:=Da hl hi;omega
 ·exact hl
 ·have:=Da hl hj;omega
theorem o6 {b:Bool} {m:List Bool} {i:Nat} (hi:m[i]?=some b):rk b m i<m.count b:=by
 have h1:=Da (Nat.lt_of_lt_of_le (List.getElem?_eq_some_iff.1 hi).1 (Nat.le_refl m.length)) hi
 unfold rk at h1 ⊢
 rw[List.take_length]at h1;exact h1
theorem wW {b:Bool}:∀(m:List Bool) (q:Nat),q<m.count b->∃i:Nat,m[i]?=some b/\rk b m i=q
 | [],q,h=>by simp at h
 | x::m,q,h=>by
  by_cases hx:x=b
  ·subst hx
   cases q with
   | zero=>exact⟨0,by simp,by simp[rk]⟩
   | succ q=>
    obtain⟨i,h1,h2⟩:=wW m q (by simpa using h)
    exact ⟨i + 1, by simpa using h1, by have : rk x (x :: m) (i + 1) = rk x m i + 1 := by simp [rk]
                                        omega⟩
  ·obtain⟨i,h1,h2⟩:=wW m q (by rwa [List.count_cons_of_ne hx]at h)
   exact ⟨i + 1, by simpa using h1, by have : rk b (x :: m) (i + 1) = rk b m i := by simp [rk, List.count_cons_of_ne hx]
                                       omega⟩
def bz (P:Program) (ops:Array Oper) (S:World->Prop) (fin:Act->World->Prop):List Oper->Act->World->Prop
 | [],A,W=>fin A W
 | o::rest,A,W=>
  (Region.wanted o (yielded ops A.tmps)=true/\match (execOp A.eval o).run P W with
   | .ok (.value u) W'=>S W'/\bz P ops S fin rest (A.put o.dst u) W'
   | .ok .skip W'=>S W'/\bz P ops S fin rest (A.put o.dst undef) W'
   | .ok (.row row args) W'=>Rows P row args W' fun v oN=>S oN/\bz P ops S fin rest (A.put o.dst v) oN
   | .ok (.enter f args) W'=>Calls P f args W' fun e oN=>∃u,e=.returned u/\S oN/\bz P ops S fin rest (A.put o.dst u) oN
   | _=>False)\/(Region.wanted o (yielded ops A.tmps)=false/\bz P ops S fin rest (A.put o.dst undef) W)
theorem dG {S:World->Prop} {fin:Act->World->Prop} {o:Oper} {rest:List Oper} {A:Act} {W:World} {v:Value} (hw:Region.wanted o (yielded ops A.tmps)=true) (h:(execOp A.eval o).run P W=.ok (.value v) W) (hS:S W)
  (hr:bz P ops S fin rest (A.put o.dst v) W):bz P ops S fin (o::rest) A W:=.inl ⟨hw,by rw[h];exact⟨hS,hr⟩⟩
theorem zR {S:World->Prop} {fin:Act->World->Prop} {o:Oper} {rest:List Oper} {A:Act} {W W':World} {v:Value} (hw:Region.wanted o (yielded ops A.tmps)=true) (h:(execOp A.eval o).run P W=.ok (.value v) W') (hS:S W')
  (hr:bz P ops S fin rest (A.put o.dst v) W'):bz P ops S fin (o::rest) A W:=.inl ⟨hw,by rw[h];exact⟨hS,hr⟩⟩
theorem ee {S:World->Prop} {fin:Act->World->Prop} {o:Oper} {rest:List Oper} {A:Act} {W:World}
  (h:∀Q':Exit->Act->World->Prop,(∀u W',S W'->bz P ops S fin rest (A.put o.dst u) W'->Q' .normal (A.put o.dst u) W')->wpList P ops Q' [o] A W):bz P ops S fin (o::rest) A W:=by
 have h1:=h (fun x a w=>x=.normal/\a.defers=A.defers/\S w/\bz P ops S fin rest a w) (fun u W' hS ht=>⟨rfl,by cases o.dst <;> rfl,hS,ht⟩)
 unfold wpList at h1;unfold bz
 split at h1
 ·rename_i hw
  refine .inl ⟨hw,?_⟩;rcases h1 with h1 | ⟨-,a',w',h1,-⟩
  ·unfold Oper.wp at h1
   generalize (execOp A.eval o).run P W=r at h1 ⊢
   cases r with
   | ok nx W'=>
    cases nx with
    | value u=>exact h1.2.2
    | skip=>exact h1.2.2
    | row row args=>exact Rows.mono h1 fun u oN h=>h.2.2
    | enter f args=>
     simp only[Oper.upon]at h1;refine Calls.mono h1 fun e oN h2=>?_
     cases e with
     | returned v=>exact⟨v,rfl,h2.2.2⟩
     | panicked c=>exact absurd h2.1 (by simp)
     | outgrown=>obtain⟨a',w',h3,-⟩:=h2;cases h3
    | defer d=>
     have:=h1.2.1
     simp only[Act.put]at this;have hl:=congrArg List.length this
     cases hd:o.dst <;> simp[hd]at hl
    | _=>exact h1.elim
   | halt x W'=>cases x <;> first | exact absurd h1.1 (by simp) | exact h1.elim
  ·cases h1
 ·rename_i hw
  exact .inr ⟨by simpa using hw,h1.2.2.2⟩
def Bf (ops:Array Oper) (k:Nat) (mask:List Bool):Bool:=
 wJ ops k&&decide (mask.length=k)&&decide (k<=ops.size) &&
 (List.range k).all fun i=>match ops[i]? with
  | none=>true
  | some o=>if mask.getD i true then (List.range i).all fun j => !mask.getD j true||((kO ops (i+1)).getD i []).contains j
   else (bM o).all fun j => !mask.getD j true
def th (P:Program) (ops:Array Oper) (S:World->Prop) (fin:Act->Prop):List Oper->Act->Prop
 | [],A=>fin A
 | o::rest,A=>∃v,(Region.wanted o (yielded ops A.tmps)=true/\∀W,S W->(execOp A.eval o).run P W=.ok (.value v) W)/\th P ops S fin rest (A.put o.dst v)
theorem bV {S:World->Prop} {fin:Act->Prop} {o:Oper} {rest:List Oper} {A:Act} {v:Value} (hw:Region.wanted o (yielded ops A.tmps)=true) (h:∀W,S W->(execOp A.eval o).run P W=.ok (.value v) W)
  (hr:th P ops S fin rest (A.put o.dst v)):th P ops S fin (o::rest) A:=⟨v,⟨hw,h⟩,hr⟩
theorem yU {S:World->Prop} {fin:Act->Prop} (l:List Oper):∀(A:Act),th P ops S fin l A ->
  ∃(aec:Nat->Value) (F:Nat->Act),F 0=A/\fin (F l.length)/\∀i o,l[i]?=some o->(Region.wanted o (yielded ops (F i).tmps)=true/\∀W,S W->(execOp (F i).eval o).run P W=.ok (.value (aec i)) W)/\F (i+1)=(F i).put o.dst (aec i):=by
 induction l with
 | nil=>intro A h;exact⟨fun _=>undef,fun _=>A,rfl,h,fun i o h=>by simp at h⟩
 | cons o l ih=>
  intro A h;obtain⟨v,hs,hf⟩:=h;obtain⟨aec,F,h0,ir,gJ⟩:=ih _ hf;refine⟨fun i=>match i with | 0=>v | i+1=>aec i,fun i=>match i with | 0=>A | i+1=>F i,rfl,ir,?_⟩
  intro i o' hi
  cases i with
  | zero=>simp at hi;subst hi;exact⟨hs,h0⟩
  | succ i=>exact gJ i o' (by simpa using hi)
theorem aL {Q:Exit->Act->World->Prop} {ME:Nat} {a:Act} {w:World} (S:World->Prop) (k:Nat) (mask:List Bool) (hm:P.follows .mixedOrders=true) (hc:Bf ops k mask=true) (bB:S w.drew)
  (h:th P ops S (fun A=>bz P ops S (fun A W=>wpList P ops Q (ops.toList.drop k) A W) (ea mask (ops.toList.take k)) A w.drew) (eE mask (ops.toList.take k)) a):(Code.region ME ops true).wp P Q a w:=by
 unfold Bf at hc;simp only[Bool.and_eq_true,decide_eq_true_eq]at hc;obtain⟨⟨⟨hf,hml⟩,MF⟩,hch⟩:=hc;have gP:=rV hf
 have hlt:mask.length=(ops.toList.take k).length:=by simp;omega
 have LK:∀i,i<k->∃b,mask[i]?=some b:=fun i hi=>⟨_,List.getElem?_eq_getElem (by omega)⟩
 have rW:∀i o,i<k->ops[i]?=some o->(ops.toList.take k)[i]?=some o:=fun i o hi ho=>by
  rw[List.getElem?_take,if_pos hi];simpa using ho
 have CC:∀i b,mask[i]?=some b->mask.getD i true=b:=fun i b hb=>by rw[zDd,hb];rfl
 have fG:∀i b,mask[i]?=some b->i<k:=fun i b hb=>by have:=(List.getElem?_eq_some_iff.1 hb).1;omega
 have chT:∀i j,mask[i]?=some true->mask[j]?=some true->j<i->PY ops j i:=fun i j hi hj oo=>by
  have kF:=fG i _ hi;have ho:ops[i]?=some ops[i]:=Array.getElem?_eq_getElem (by omega)
  have:=List.all_eq_true.1 hch i (List.mem_range.2 kF)
  simp only[ho]at this;rw[if_pos (CC i _ hi)]at this
  have:=List.all_eq_true.1 this j (List.mem_range.2 oo)
  rw[CC j _ hj,Bool.not_true,Bool.false_or]at this;exact gO (i+1) i j (by simpa using this)
 have chF:∀i o j,mask[i]?=some false->ops[i]?=some o->j∈bM o->mask[j]?=some false:=fun i o j hi ho hj=>by
  have kF:=fG i _ hi;have oo:=gP.back i o ho j hj
  have:=List.all_eq_true.1 hch i (List.mem_range.2 kF)
  simp only[ho]at this
  rw[if_neg (by rw[CC i _ hi];simp)]at this
  have:=List.all_eq_true.1 this j hj
  obtain⟨b,hb⟩:=LK j (by omega);rw[CC j _ hb]at this
  cases b <;> simp_all
 obtain⟨aec,F,h0,ir,jd⟩:=yU _ a h
 have zS:∀r,r<=mask.count false->aZ a ops (fun j=>aec (rk false mask j)) (fun j=>mask[j]?=some false/\rk false mask j<r) (F r):=by
  intro r
  induction r with
  | zero=>intro _;rw[h0];exact⟨rfl,rfl,fun j _ _ hj=>by have:=hj.2;omega,fun _ _=>rfl⟩
  | succ r ih=>
   intro hr;obtain⟨i,qY,wO⟩:=wW (b:=false) mask r (by omega);have kF:=fG i _ qY;have ho:ops[i]?=some ops[i]:=Array.getElem?_eq_getElem (by omega);have j8:=vK mask _ i hlt qY;rw[rW i _ kF ho,wO]at j8;rw[(jd r _ j8).2]
   have:=((ih (by omega)).put ho (fun j oj d hj fZ hd iq=>by
    have:=gP.aes i _ kF ho j oj (fG j _ hj.1) fZ d hd iq
    subst this
    have:=hj.2
    omega)).same (E:=fun j=>mask[j]?=some false/\rk false mask j<r+1) (fun j=>by
     constructor
     ·rintro(⟨a1,a2⟩ | rfl)
      ·exact⟨a1,by omega⟩
      ·exact⟨qY,by omega⟩
     ·rintro⟨a1,a2⟩
      by_cases e:rk false mask j=r
      ·exact .inr (FE a1 qY (by omega))
      ·exact .inl ⟨a1,by omega⟩)
   rw[show aec r=aec (rk false mask i)by rw[wO]]
   exact this
 have hnF:(eE mask (ops.toList.take k)).length=mask.count false:=wV _ _ hlt;rw[hnF]at ir
 let SP:Nat->Prop:=fun j=>mask[j]?=some false
 let J:(Nat->Prop)->Act->World->Prop:=fun D a' W=>
  (S W/\(∀j,D j->j<k)/\∃(V:Nat->Value) (q:Nat) (A:Act),(∀j,mask[j]?=some false->V j=aec (rk false mask j))/\(∀j,mask[j]?=some true->(D j↔rk true mask j<q)) /\
   aZ a ops V D a'/\aZ a ops V (fun j=>mask[j]?=some false\/(mask[j]?=some true/\rk true mask j<q)) A /\
   bz P ops S (fun A W=>wpList P ops Q (ops.toList.drop k) A W) ((ea mask (ops.toList.take k)).drop q) A W) \/
  (∃m,k<=m/\m<=ops.size/\(∀j,j<ops.size->(D j↔j<m))/\wpList P ops Q (ops.toList.drop m) a' W)
 have htl:(ea mask (ops.toList.take k)).length=mask.count true:=wU _ _ hlt
 have Db:∀D a' W,J D a' W->(∀j,j<k->D j)->∃m,k<=m/\m<=ops.size/\(∀j,j<ops.size->(D j↔j<m))/\wpList P ops Q (ops.toList.drop m) a' W:=by
  intro D a' W hJ hD;rcases hJ with⟨hW,pQ,V,q,A,hV,hT,j5,yV,EY⟩ | hJ
  ·have hq:mask.count true<=q:=by
    by_cases e:mask.count true<=q
    ·exact e
    ·obtain⟨i,qY,wO⟩:=wW (b:=true) mask q (by omega)
     have:=(hT i qY).1 (hD i (fG i _ qY))
     omega
   have MG:(ea mask (ops.toList.take k)).drop q=[]:=List.drop_eq_nil_of_le (by omega);rw[MG]at EY
   have:a'=A:=j5.ext yV (fun j hj=>by
    constructor
    ·intro Fu;obtain⟨b,hb⟩:=LK j (pQ j Fu);cases b
     ·exact .inl hb
     ·exact .inr ⟨hb,(hT j hb).1 Fu⟩
    ·rintro(hb | ⟨hb,_⟩) <;> exact hD j (fG j _ hb))
   subst this;exact⟨k,Nat.le_refl _,MF,fun j _=>⟨fun h=>pQ j h,fun h=>hD j h⟩,EY⟩
  ·exact hJ
 refine lf hm gP.back J (.inl ⟨bB,fun j hj=>hj.elim,fun j=>aec (rk false mask j),0,F (mask.count false),fun j _=>rfl,fun j _=>⟨fun h=>h.elim,fun h=>by omega⟩,⟨rfl,rfl,fun j _ _ hj=>hj.elim,fun _ _=>rfl⟩,?_,?_⟩) ?_ ?_
 ·exact(zS _ (Nat.le_refl _)).same (fun j=>by
   constructor
   ·rintro⟨a1,-⟩;exact .inl a1
   ·rintro(a1 | ⟨-,a2⟩)
    ·exact⟨a1,o6 a1⟩
    ·omega)
 ·rw[List.drop_zero];exact ir
 ·intro D a' W i o hJ ho pR iX d9;have eU:i<ops.size:=(Array.getElem?_eq_some_iff.1 ho).1
  by_cases kF:i<k
  ·-- one of the first k
   rcases hJ with⟨hW,pQ,V,q,A,hV,hT,j5,yV,EY⟩ | ⟨m,h1,h2,h3,-⟩
   rotate_left
   ·exact absurd ((h3 i eU).2 (by omega)) pR
   have look:∀t∈o.looksAt ops,∀j oj,j<k->ops[j]?=some oj->oj.dst=some t->D j/\j∈bM o:=fun t ht j oj nV fZ hd=>by
    have:=gP.looks i o kF ho t ht j oj nV fZ hd
    exact⟨iX j this,this⟩
   have q8:∀j oj d,D j->ops[j]?=some oj->o.dst=some d->oj.dst≠some d:=fun j oj d hj fZ hd iq=>by
    have:=gP.aes i o kF ho j oj (pQ j hj) fZ d hd iq
    subst this;exact pR hj
   obtain⟨b,hb⟩:=LK i kF
   cases b with
   | false=>
    have j8:=vK mask _ i hlt hb;rw[rW i _ kF ho]at j8;obtain⟨⟨hw,dH⟩,-⟩:=jd _ _ j8;have hr:=o6 hb
    obtain⟨he,yW⟩:=gm (ops:=ops) (a':=a') (A:=F (rk false mask i)) (fun t ht=>(j5.aem (v':=V) (fun _ _ _=>rfl)).agree ((zS _ (Nat.le_of_lt hr)).aec (v':=V) (fun j hj=>(hV j hj.1).symm)) t (fun j oj hj fZ hd=>by
     have nV:j<k:=hj.elim (fun h=>pQ j h) (fun h=>fG j _ h.1)
     obtain⟨d1,d2⟩:=look t ht j oj nV fZ hd;have SH:=chF i o j hb ho d2
     exact⟨d1,SH,Da (gP.back i o ho j d2) SH⟩)) (fun cs b=>gP.aeo i o cs b ho)
    rw[if_pos (yW.trans hw)];refine .inl ?_;unfold Oper.wp;rw[he,dH W hW];refine .inl ⟨hW,fun j hj=>hj.elim (fun h=>pQ j h) (fun h=>by omega),V,q,A,hV,fun j hj=>?_,?_,yV,EY⟩
    ·rw[<- hT j hj];constructor
     ·rintro(h | rfl)
      ·exact h
      ·rw[hb]at hj;cases hj
     ·exact .inl
    ·have:=j5.put (i:=i) ho q8
     rwa [hV i hb]at this
   | true=>
    have hq:rk true mask i=q:=by
     have h1:¬rk true mask i<q:=fun h=>pR ((hT i hb).2 h)
     by_cases e:rk true mask i=q
     ·exact e
     ·obtain⟨j,uf,yQ⟩:=wW (b:=true) mask q (by have:=o6 hb;omega)
      have oo:j<i:=by
       rcases Nat.lt_trichotomy j i with h | h | h
       ·exact h
       ·subst h;omega
       ·have:=Da h hb;omega
      have:=it d9 ho iX (chT i j hb uf oo)
      have:=(hT j uf).1 this
      omega
    have j8:=Be mask _ i hlt hb;rw[rW i _ kF ho,hq]at j8;have LL:q<(ea mask (ops.toList.take k)).length:=(List.getElem?_eq_some_iff.1 j8).1;rw[List.drop_eq_getElem_cons LL,(List.getElem?_eq_some_iff.1 j8).2]at EY
    obtain⟨he,yW⟩:=gm (ops:=ops) (a':=a') (A:=A) (fun t ht=>j5.agree yV t (fun j oj hj fZ hd=>by
     have nV:j<k:=hj.elim (fun h=>pQ j h) (fun h=>h.elim (fG j _) (fun h=>fG j _ h.1))
     obtain⟨d1,d2⟩:=look t ht j oj nV fZ hd;refine⟨d1,?_⟩;obtain⟨b,hb'⟩:=LK j nV;cases b
     ·exact .inl hb'
     ·exact .inr ⟨hb',(hT j hb').1 d1⟩)) (fun cs b=>gP.aeo i o cs b ho)
    have next:∀u W',S W'->bz P ops S (fun A W=>wpList P ops Q (ops.toList.drop k) A W) ((ea mask (ops.toList.take k)).drop (q+1)) (A.put o.dst u) W'->J (fun j=>D j\/j=i) (a'.put o.dst u) W':=by
     intro u W' hS ht
     let V':Nat->Value:=fun j=>if j=i then u else V j
     have e1:∀j,j≠i->V' j=V j:=fun j hj=>if_neg hj
     have e2:V' i=u:=if_pos rfl;refine .inl ⟨hS,fun j hj=>hj.elim (fun h=>pQ j h) (fun h=>by omega),V',q+1,A.put o.dst u,fun j hj=>?_,fun j hj=>?_,?_,?_,ht⟩
     ·rw[e1 j (fun e=>by subst e;rw[hb]at hj;cases hj)];exact hV j hj
     ·constructor
      ·rintro(h | rfl)
       ·have:=(hT j hj).1 h;omega
       ·omega
      ·intro h
       by_cases e:rk true mask j=q
       ·exact .inr (FE hj hb (by omega))
       ·exact .inl ((hT j hj).2 (by omega))
     ·have:=(j5.aem (v':=V') (fun j _ hj=>(e1 j (fun e=>by subst e;exact pR hj)).symm)).put (i:=i) ho q8
      rwa [e2]at this
     ·have:=((yV.aem (v':=V') (fun j _ hj=>(e1 j (fun e=>by
       subst e;rcases hj with hj | ⟨-,hj⟩
       ·rw[hb]at hj;cases hj
       ·omega)).symm)).put (i:=i) ho (fun j oj d hj fZ hd iq=>by
        have nV:j<k:=hj.elim (fG j _) (fun h=>fG j _ h.1)
        have:=gP.aes i o kF ho j oj nV fZ d hd iq
        subst this;rcases hj with hj | ⟨-,hj⟩
        ·rw[hb]at hj;cases hj
        ·omega)).same (E:=fun j=>mask[j]?=some false\/(mask[j]?=some true/\rk true mask j<q+1)) (fun j=>by
        constructor
        ·rintro((h | ⟨h,h'⟩) | rfl)
         ·exact .inl h
         ·exact .inr ⟨h,by omega⟩
         ·exact .inr ⟨hb,by omega⟩
        ·rintro(h | ⟨h,h'⟩)
         ·exact .inl (.inl h)
         ·by_cases e:rk true mask j=q
          ·exact .inr (FE h hb (by omega))
          ·exact .inl (.inr ⟨h,by omega⟩))
      rwa [e2]at this
    rcases EY with⟨hw,dH⟩ | ⟨hw,dH⟩
    ·rw[if_pos (yW.trans hw)];refine .inl ?_;unfold Oper.wp;rw[he]
     generalize (execOp A.eval o).run P W=r at dH ⊢
     cases r with
     | ok nx W'=>
      cases nx with
      | value u=>exact next u W' dH.1 dH.2
      | skip=>exact next undef W' dH.1 dH.2
      | row row args=>exact Rows.mono dH fun u oN h=>next u oN h.1 h.2
      | enter f args=>
       simp only[Oper.upon]
       exact Calls.mono dH fun e oN ⟨u,FA,h3,h4⟩=>by subst FA;exact next u oN h3 h4
      | _=>exact dH.elim
     | halt x W'=>exact dH.elim
    ·rw[if_neg (by rw[yW.trans hw];simp)]
     exact next _ _ hW dH
  ·-- the tail
   have bZ:∀j,j<i->D j:=fun j hj=>it d9 ho iX (gP.tail i (by omega) eU j hj)
   obtain⟨m,h1,h2,h3,h4⟩:=Db D a' W hJ (fun j hj=>bZ j (by omega))
   have Bg:m=i:=by
    by_cases e1:i<m
    ·exact absurd ((h3 i eU).2 e1) pR
    ·by_cases e2:m<i
     ·have:=(h3 m (by omega)).1 (bZ m e2);omega
     ·omega
   subst Bg
   have IJ:ops.toList.drop m=o::ops.toList.drop (m+1):=by
    have:m<ops.toList.length:=by simpa using eU
    rw[List.drop_eq_getElem_cons this];congr 1
    have:=(Array.getElem?_eq_some_iff.1 ho).2
    simpa using this
   rw[IJ]at h4;unfold wpList at h4
   have next:∀a W,wpList P ops Q (ops.toList.drop (m+1)) a W->J (fun j=>D j\/j=m) a W:=fun a W h=>.inr ⟨m+1,by omega,by omega,fun j hj=>by
    constructor
    ·rintro(h | rfl)
     ·have:=(h3 j hj).1 h;omega
     ·omega
    ·intro h
     by_cases e:j=m
     ·exact .inr e
     ·exact .inl ((h3 j hj).2 (by omega)),h⟩
   split
   ·rename_i hw
    rw[if_pos hw]at h4;exact h4.imp (Oper.wp_mono next) id
   ·rename_i hw
    rw[if_neg hw]at h4;exact next _ _ h4
 ·intro D a' W hJ bZ;obtain⟨m,h1,h2,h3,h4⟩:=Db D a' W hJ (fun j hj=>bZ j (by omega))
  have XJ:m=ops.size:=by
   by_cases e:m<ops.size
   ·have:=(h3 m e).1 (bZ m e);omega
   ·omega
  subst XJ;rw[List.drop_eq_nil_of_le (by simp)]at h4;exact h4
theorem IK {w0:World} {fin:Act->Prop}:∀(l:List Oper) (A:Act),lX P ops w0 fin l A->th P ops (aa w0) fin l A
 | [],_,h=>h
 | _::l,_,⟨v,h1,h2⟩=>⟨v,h1,IK l _ h2⟩
theorem eR {Q:Exit->Act->World->Prop} {ME:Nat} {a:Act} {w w0:World} (k:Nat) (mask:List Bool) (hm:P.follows .mixedOrders=true) (hc:Bf ops k mask=true) (bB:aa w0 w)
  (h:lX P ops w0 (fun A=>bz P ops (aa w0) (fun A W=>wpList P ops Q (ops.toList.drop k) A W) (ea mask (ops.toList.take k)) A w.drew) (eE mask (ops.toList.take k)) a):(Code.region ME ops true).wp P Q a w:=
 aL (aa w0) k mask hm hc (aj bB) (IK _ _ h)
theorem wX {w0:World} {fin XK:Act->Prop} (hf:∀A,fin A->XK A):∀(l:List Oper) (A:Act),lX P ops w0 fin l A->lX P ops w0 XK l A
 | [],A,h=>hf A h
 | _::l,_,⟨v,h1,h2⟩=>⟨v,h1,wX hf l _ h2⟩
theorem cH {Q:Exit->Act->World->Prop} {ME:Nat} {a:Act} {w w0:World} (k:Nat) (mask:List Bool) (hm:P.follows .mixedOrders=true) (hc:Bf ops k mask=true) (bB:aa w0 w)
  (h:lX P ops w0 (fun A=>∀W,aa w0 W->bz P ops (aa w0) (fun A W=>wpList P ops Q (ops.toList.drop k) A W) (ea mask (ops.toList.take k)) A W) (eE mask (ops.toList.take k)) a):(Code.region ME ops true).wp P Q a w:=
 eR k mask hm hc bB (wX (fun _ h=>h _ (aj bB)) _ _ h)
end
section
variable {P : Program} {ops : Array Oper}
def ky {α:Type} (c:Nat):List Nat->List α->List α
 | x::m,o::l=>if x=c then o::ky c m l else ky c m l
 | [],_=>[]
 | _::_,[]=>[]
def ju (b:Nat) (m:List Nat) (i:Nat):Nat:=(m.take i).count b
theorem sb {α:Type} (c:Nat):∀(m:List Nat) (l:List α) (i:Nat),m.length=l.length->m[i]?=some c->(ky c m l)[ju c m i]?=l[i]?
 | [],_,i,_,h=>by simp at h
 | x::m,o::l,0,_,h=>by simp at h;subst h;simp[ju,ky]
 | x::m,o::l,i+1,hl,h=>by
  have:=sb c m l i (by simpa using hl) (by simpa using h)
  unfold ky
  split
  ·rename_i e;subst e;simpa[ju]using this
  ·rename_i e;simpa[ju,List.count_cons_of_ne e]using this
theorem sc {α:Type} (c:Nat):∀(m:List Nat) (l:List α),m.length=l.length->(ky c m l).length=m.count c
 | [],[],_=>rfl
 | x::m,o::l,hl=>by
  have:=sc c m l (by simpa using hl)
  unfold ky
  split
  ·rename_i e;subst e;simp[this]
  ·rename_i e;simp[List.count_cons_of_ne e,this]
theorem MH {b:Nat} {m:List Nat} {i:Nat} {x:Nat} (h:m[i]?=some x):ju b m (i+1)=ju b m i+if x=b then 1 else 0:=by
 obtain⟨hi,rfl⟩:=List.getElem?_eq_some_iff.1 h;unfold ju;rw[List.take_succ_eq_append_getElem hi,List.count_append];congr 1
 simp[List.count_cons]
theorem T8 {b:Nat} {m:List Nat} {i j:Nat} (h:i<=j):ju b m i<=ju b m j:=by
 unfold ju;exact List.Sublist.count_le _ (List.IsPrefix.sublist (List.take_prefix_take_left h))
theorem tl {b:Nat} {m:List Nat} {i j:Nat} (h:i<j) (hi:m[i]?=some b):ju b m i<ju b m j:=by
 have h1:=MH (b:=b) hi;rw[if_pos rfl]at h1
 have:=T8 (b:=b) (m:=m) (show i+1<=j from h)
 omega
theorem sd {b:Nat} {m:List Nat} {i j:Nat} (hi:m[i]?=some b) (hj:m[j]?=some b) (h:ju b m i=ju b m j):i=j:=by
 rcases Nat.lt_trichotomy i j with hl | hl | hl
 ·have:=tl hl hi;omega
 ·exact hl
 ·have:=tl hl hj;omega
theorem iu {b:Nat} {m:List Nat} {i:Nat} (hi:m[i]?=some b):ju b m i<m.count b:=by
 have h1:=tl (Nat.lt_of_lt_of_le (List.getElem?_eq_some_iff.1 hi).1 (Nat.le_refl m.length)) hi
 unfold ju at h1 ⊢
 rw[List.take_length]at h1;exact h1
theorem nw {b:Nat}:∀(m:List Nat) (q:Nat),q<m.count b->∃i:Nat,m[i]?=some b/\ju b m i=q
 | [],q,h=>by simp at h
 | x::m,q,h=>by
  by_cases hx:x=b
  ·subst hx
   cases q with
   | zero=>exact⟨0,by simp,by simp[ju]⟩
   | succ q=>
    obtain⟨i,h1,h2⟩:=nw m q (by simpa using h)
    exact ⟨i + 1, by simpa using h1, by have : ju x (x :: m) (i + 1) = ju x m i + 1 := by simp [ju]
                                        omega⟩
  ·obtain⟨i,h1,h2⟩:=nw m q (by rwa [List.count_cons_of_ne hx]at h)
   exact ⟨i + 1, by simpa using h1, by have : ju b (x :: m) (i + 1) = ju b m i := by simp [ju, List.count_cons_of_ne hx]
                                       omega⟩
def se (P:Program) (ops:Array Oper) (fin:Act->World->Prop):List Oper->Act->World->Prop
 | [],A,W=>fin A W
 | o::rest,A,W=>∀W1,aa W W1 ->
  (Region.wanted o (yielded ops A.tmps)=true/\match (execOp A.eval o).run P W1 with
   | .ok (.value u) W2=>aa W1 W2/\se P ops fin rest (A.put o.dst u) W2
   | .ok (.enter f args) W2=>Calls P f args W2 fun e W3=>∃u,e=.returned u/\aa W1 W3/\se P ops fin rest (A.put o.dst u) W3
   | _=>False)
theorem se.since {fin:Act->World->Prop} (ir:∀A W W',fin A W->aa W W'->fin A W'):∀(l:List Oper) (A:Act) (W W':World),se P ops fin l A W->aa W W'->se P ops fin l A W'
 | [],A,W,W',h,hs=>ir A W W' h hs
 | _::_,_,_,_,h,hs=>fun W1 h1=>h W1 (hs.after h1)
def aN (ops:Array Oper):List Nat->(Nat->Value)->Act->Act
 | [],_,A=>A
 | j::r,us,A=>aN ops r us (match ops[j]? with | none=>A | some o=>A.put o.dst (us j))
def tm (c:Nat) (mask:List Nat):List Nat:=(List.range mask.length).filter fun i=>mask.getD i 99==c
def SI (ops:Array Oper) (k:Nat) (mask:List Nat):Bool:=
 wJ ops k&&decide (mask.length=k)&&decide (k<=ops.size)&&(mask.all fun x=>decide (x<=3)) &&
 (List.range k).all fun i=>match ops[i]? with
  | none=>true
  | some o=>
   let c:=mask.getD i 99
   let up:=(kO ops (i+1)).getD i []
   if c=0 then (bM o).all fun j=>mask.getD j 99==0
   else if c=1 then ((bM o).all fun j=>mask.getD j 99==0||mask.getD j 99==1)&&(List.range i).all fun j => !(mask.getD j 99==1)||up.contains j
   else if c=2 then (bM o).all fun j=>mask.getD j 99==0
   else ((List.range k).all fun j => !(mask.getD j 99==1||mask.getD j 99==2)||up.contains j)&&(List.range i).all fun j => !(mask.getD j 99==3)||up.contains j
def T_ (P:Program) (ops:Array Oper) (w0:World) (R:Nat->World->Value->Prop) (A:Act) (j:Nat):Prop:=
 ∀o,ops[j]?=some o->Region.wanted o (yielded ops A.tmps)=true/\∀W,aa w0 W->k_ P (R j) o A W
theorem ny {a:Act} {k:Nat} (hd:∀i o,i<k->ops[i]?=some o->∀j oj,j<k->ops[j]?=some oj->∀d,o.dst=some d->oj.dst=some d->j=i) (hk:k<=ops.size) (V:Nat->Value):∀(l:List Nat) (D:Nat->Prop) (A:Act),(∀j,D j->j<k)->(∀j∈l,j<k/\¬D j)->l.Nodup->aZ a ops V D A->aZ a ops V (fun j=>D j\/j∈l) (aN ops l V A)
 | [],D,A,_,_,_,h=>h.same (fun j=>by simp)
 | j::r,D,A,hD,hl,hn,h=>by
  have hj:=hl j (by simp);have Fz:j<ops.size:=by omega
  have ho:ops[j]?=some ops[j]:=Array.getElem?_eq_getElem Fz
  have h1:=h.put ho (fun j' oj d Fu fZ j6 iq=>by
   have:=hd j _ hj.1 ho j' oj (hD j' Fu) fZ d j6 iq
   subst this
   exact hj.2 Fu)
  have SJ:=List.nodup_cons.1 hn
  have:=ny hd hk V r (fun x=>D x\/x=j) _ (fun x hx=>hx.elim (hD x) (fun e=>by omega)) (fun x hx=>⟨(hl x (List.mem_cons_of_mem _ hx)).1,fun e=>e.elim (hl x (List.mem_cons_of_mem _ hx)).2 (fun e=>by subst e;exact SJ.1 hx)⟩) SJ.2 h1
  unfold aN;rw[ho];exact this.same (fun x=>by simp[or_assoc])
theorem o_ {Q:Exit->Act->World->Prop} {ME:Nat} {a:Act} {w w0:World} (k:Nat) (mask:List Nat) (R:Nat->World->Value->Prop) (hR:∀j W W' u,R j W u->aa W W'->R j W' u) (hm:P.follows .mixedOrders=true) (hc:SI ops k mask=true) (bB:aa w0 w)
  (h:lX P ops w0 (fun A=>(∀j∈tm 2 mask,T_ P ops w0 R A j)/\∀W,aa w0 W->se P ops (fun A W=>∀(us:Nat->Value) W1,aa W W1->(∀j∈tm 2 mask,R j W1 (us j))->bz P ops (aa w0) (fun A W=>wpList P ops Q (ops.toList.drop k) A W) (ky 3 mask (ops.toList.take k)) (aN ops (tm 2 mask) us A) W1) (ky 1 mask (ops.toList.take k)) A W) (ky 0 mask (ops.toList.take k)) a):(Code.region ME ops true).wp P Q a w:=by
 unfold SI at hc;simp only[Bool.and_eq_true,decide_eq_true_eq]at hc;obtain⟨⟨⟨⟨hf,hml⟩,MF⟩,fB⟩,hch⟩:=hc;have gP:=rV hf
 have hlt:mask.length=(ops.toList.take k).length:=by simp;omega
 have LK:∀i,i<k->∃b,mask[i]?=some b/\b<=3:=fun i hi=>⟨_,List.getElem?_eq_getElem (by omega),by simpa using List.all_eq_true.1 fB _ (List.getElem_mem (by omega))⟩
 have rW:∀i o,i<k->ops[i]?=some o->(ops.toList.take k)[i]?=some o:=fun i o hi ho=>by
  rw[List.getElem?_take,if_pos hi];simpa using ho
 have CC:∀i b,mask[i]?=some b->mask.getD i 99=b:=fun i b hb=>by rw[zDd,hb];rfl
 have fG:∀i b,mask[i]?=some b->i<k:=fun i b hb=>by have:=(List.getElem?_eq_some_iff.1 hb).1;omega
 have Bg:∀j c,j∈tm c mask↔mask[j]?=some c/\c≠99\/(c=99/\j∈tm c mask):=fun j c=>by
  by_cases XL:c=99
  ·simp[XL]
  ·simp only[XL,ne_eq,not_false_eq_true,and_true,false_and,or_false];unfold tm;rw[List.mem_filter,List.mem_range];constructor
   ·rintro⟨h1,h2⟩;rw[zDd,List.getElem?_eq_getElem h1]at h2;rw[List.getElem?_eq_getElem h1];simpa using h2
   ·intro h1
    exact⟨(List.getElem?_eq_some_iff.1 h1).1,by rw[CC j c h1];simp⟩
 have wO:∀j,j∈tm 2 mask↔mask[j]?=some 2:=fun j=>by rw[Bg j 2];simp
 have row:∀i o,i<k->ops[i]?=some o->_:=fun i o hi ho=>by
  have:=List.all_eq_true.1 hch i (List.mem_range.2 hi)
  simp only[ho]at this;exact this
 have md0:∀i j o c,i<k->ops[i]?=some o->j∈bM o->(mask.getD j 99==c)=true->mask[j]?=some c:=fun i j o c hi ho hj hd=>by
  have nV:j<k:=by have:=gP.back i o ho j hj;omega
  obtain⟨b,hb,-⟩:=LK j nV;rw[CC j b hb]at hd
  rw[hb];simpa using hd
 have c0:∀i o j,mask[i]?=some 0->ops[i]?=some o->j∈bM o->mask[j]?=some 0:=fun i o j hi ho hj=>by
  have kF:=fG i _ hi
  have:=row i o kF ho
  simp only[CC i _ hi,if_true]at this;exact md0 i j o 0 kF ho hj (List.all_eq_true.1 this j hj)
 have c1:∀i o j,mask[i]?=some 1->ops[i]?=some o->j∈bM o->mask[j]?=some 0\/mask[j]?=some 1:=fun i o j hi ho hj=>by
  have kF:=fG i _ hi
  have:=row i o kF ho
  simp only[CC i _ hi,Nat.one_ne_zero,if_false,if_true,Bool.and_eq_true]at this;have h1:=List.all_eq_true.1 this.1 j hj;rw[Bool.or_eq_true]at h1;exact h1.imp (md0 i j o 0 kF ho hj) (md0 i j o 1 kF ho hj)
 have c2:∀i o j,mask[i]?=some 2->ops[i]?=some o->j∈bM o->mask[j]?=some 0:=fun i o j hi ho hj=>by
  have kF:=fG i _ hi
  have:=row i o kF ho
  simp only[CC i _ hi,show ¬(2:Nat)=0 by decide,show ¬(2:Nat)=1 by decide,if_false,if_true]at this
  exact md0 i j o 0 kF ho hj (List.all_eq_true.1 this j hj)
 have ch1:∀i j,mask[i]?=some 1->mask[j]?=some 1->j<i->PY ops j i:=fun i j hi hj oo=>by
  have kF:=fG i _ hi
  have:=row i _ kF (Array.getElem?_eq_getElem (by omega))
  simp only[CC i _ hi,Nat.one_ne_zero,if_false,if_true,Bool.and_eq_true]at this
  have:=List.all_eq_true.1 this.2 j (List.mem_range.2 oo)
  rw[CC j _ hj]at this;exact gO (i+1) i j (by simpa using this)
 have ch3:∀i j,mask[i]?=some 3->(mask[j]?=some 1\/mask[j]?=some 2\/(mask[j]?=some 3/\j<i))->PY ops j i:=fun i j hi hj=>by
  have kF:=fG i _ hi
  have:=row i _ kF (Array.getElem?_eq_getElem (by omega))
  simp only[CC i _ hi,show ¬(3:Nat)=0 by decide,show ¬(3:Nat)=1 by decide,show ¬(3:Nat)=2 by decide,if_false,Bool.and_eq_true]at this
  rcases hj with hj | hj | ⟨hj,oo⟩
  ·have:=List.all_eq_true.1 this.1 j (List.mem_range.2 (fG j _ hj))
   rw[CC j _ hj]at this;exact gO (i+1) i j (by simpa using this)
  ·have:=List.all_eq_true.1 this.1 j (List.mem_range.2 (fG j _ hj))
   rw[CC j _ hj]at this;exact gO (i+1) i j (by simpa using this)
  ·have:=List.all_eq_true.1 this.2 j (List.mem_range.2 oo)
   rw[CC j _ hj]at this;exact gO (i+1) i j (by simpa using this)
 obtain⟨aec,F,h0,⟨Dc,ir⟩,jd⟩:=rY _ a h
 have zS:∀r,r<=mask.count 0->aZ a ops (fun j=>aec (ju 0 mask j)) (fun j=>mask[j]?=some 0/\ju 0 mask j<r) (F r):=by
  intro r
  induction r with
  | zero=>intro _;rw[h0];exact⟨rfl,rfl,fun j _ _ hj=>by have:=hj.2;omega,fun _ _=>rfl⟩
  | succ r ih=>
   intro hr;obtain⟨i,qY,wO⟩:=nw (b:=0) mask r (by omega);have kF:=fG i _ qY;have ho:ops[i]?=some ops[i]:=Array.getElem?_eq_getElem (by omega);have j8:=sb 0 mask _ i hlt qY;rw[rW i _ kF ho,wO]at j8;rw[(jd r _ j8).2]
   have:=((ih (by omega)).put ho (fun j oj d hj fZ hd iq=>by
    have:=gP.aes i _ kF ho j oj (fG j _ hj.1) fZ d hd iq
    subst this
    have:=hj.2
    omega)).same (E:=fun j=>mask[j]?=some 0/\ju 0 mask j<r+1) (fun j=>by
     constructor
     ·rintro(⟨a1,a2⟩ | rfl)
      ·exact⟨a1,by omega⟩
      ·exact⟨qY,by omega⟩
     ·rintro⟨a1,a2⟩
      by_cases e:ju 0 mask j=r
      ·exact .inr (sd a1 qY (by omega))
      ·exact .inl ⟨a1,by omega⟩)
   rw[show aec r=aec (ju 0 mask i)by rw[wO]]
   exact this
 have hnF:(ky 0 mask (ops.toList.take k)).length=mask.count 0:=sc _ _ _ hlt;rw[hnF]at ir Dc;have kz:(ky 1 mask (ops.toList.take k)).length=mask.count 1:=sc _ _ _ hlt;have hn3:(ky 3 mask (ops.toList.take k)).length=mask.count 3:=sc _ _ _ hlt
 let MI:Act->World->Prop:=fun A W=>∀(us:Nat->Value) W1,aa W W1->(∀j∈tm 2 mask,R j W1 (us j))->bz P ops (aa w0) (fun A W=>wpList P ops Q (ops.toList.drop k) A W) (ky 3 mask (ops.toList.take k)) (aN ops (tm 2 mask) us A) W1
 have XM:∀A W W',MI A W->aa W W'->MI A W':=fun A W W' h hs us W1 h1=>h us W1 (hs.after h1)
 let J:(Nat->Prop)->Act->World->Prop:=fun D a' W=>
  (aa w0 W/\(∀j,D j->j<k)/\(∀j,mask[j]?=some 3->¬D j)/\∃(V:Nat->Value) (q:Nat) (A:Act),(∀j,mask[j]?=some 0->V j=aec (ju 0 mask j))/\(∀j,mask[j]?=some 1->(D j↔ju 1 mask j<q)) /\
   (∀j,mask[j]?=some 2->D j->R j W (V j))/\aZ a ops V D a'/\aZ a ops V (fun j=>mask[j]?=some 0\/(mask[j]?=some 1/\ju 1 mask j<q)) A /\
   se P ops MI ((ky 1 mask (ops.toList.take k)).drop q) A W) \/
  (aa w0 W/\(∀j,D j->j<k)/\(∀j,mask[j]?=some 1\/mask[j]?=some 2->D j)/\∃(V:Nat->Value) (q:Nat) (A:Act),(∀j,mask[j]?=some 0->V j=aec (ju 0 mask j))/\(∀j,mask[j]?=some 3->(D j↔ju 3 mask j<q)) /\
   aZ a ops V D a'/\aZ a ops V (fun j=>mask[j]?=some 0\/mask[j]?=some 1\/mask[j]?=some 2\/(mask[j]?=some 3/\ju 3 mask j<q)) A /\
   bz P ops (aa w0) (fun A W=>wpList P ops Q (ops.toList.drop k) A W) ((ky 3 mask (ops.toList.take k)).drop q) A W) \/
  (∃m,k<=m/\m<=ops.size/\(∀j,j<ops.size->(D j↔j<m))/\wpList P ops Q (ops.toList.drop m) a' W)
 have XN:∀D a' W,J D a' W->(∀j,mask[j]?=some 1\/mask[j]?=some 2->D j)->(∀j,D j->j<k) ->
   (aa w0 W/\∃(V:Nat->Value) (q:Nat) (A:Act),(∀j,mask[j]?=some 0->V j=aec (ju 0 mask j))/\(∀j,mask[j]?=some 3->(D j↔ju 3 mask j<q)) /\
   aZ a ops V D a'/\aZ a ops V (fun j=>mask[j]?=some 0\/mask[j]?=some 1\/mask[j]?=some 2\/(mask[j]?=some 3/\ju 3 mask j<q)) A /\
   bz P ops (aa w0) (fun A W=>wpList P ops Q (ops.toList.drop k) A W) ((ky 3 mask (ops.toList.take k)).drop q) A W)\/∃m,k<=m/\m<=ops.size/\(∀j,j<ops.size->(D j↔j<m))/\wpList P ops Q (ops.toList.drop m) a' W:=by
  intro D a' W hJ hD Qw;rcases hJ with⟨hW,pQ,h3,V,q,A,hV,hT,hU,j5,yV,Qx⟩ | ⟨hW,pQ,-,hJ⟩ | hJ
  ·have hq:mask.count 1<=q:=by
    by_cases e:mask.count 1<=q
    ·exact e
    ·obtain⟨i,qY,wO⟩:=nw (b:=1) mask q (by omega)
     have:=(hT i qY).1 (hD i (.inl qY))
     omega
   have MG:(ky 1 mask (ops.toList.take k)).drop q=[]:=List.drop_eq_nil_of_le (by omega);rw[MG]at Qx;have abE:MI A W:=Qx;have EY:=abE V W (ad _) (fun j hj=>hU j ((wO j).1 hj) (hD j (.inr ((wO j).1 hj))))
   refine .inl ⟨hW,V,0,aN ops (tm 2 mask) V A,hV,fun j hj=>⟨fun h=>absurd h (h3 j hj),fun h=>by omega⟩,j5,?_,by rw[List.drop_zero];exact EY⟩
   have:=ny (a:=a) gP.aes MF V (tm 2 mask) _ A (fun j hj=>hj.elim (fun h=>fG j _ h) (fun h=>fG j _ h.1)) (fun j hj=>⟨fG j _ ((wO j).1 hj),fun e=>by
    have h2:=(wO j).1 hj
    rcases e with e | ⟨e,-⟩ <;> rw[h2]at e <;> cases e⟩) (List.Pairwise.filter _ List.nodup_range) yV
   exact this.same (fun j=>by
    rw[wO];constructor
    ·rintro((h | ⟨h,-⟩) | h)
     ·exact .inl h
     ·exact .inr (.inl h)
     ·exact .inr (.inr (.inl h))
    ·rintro(h | h | h | ⟨-,h⟩)
     ·exact .inl (.inl h)
     ·exact .inl (.inr ⟨h,by have:=iu h;omega⟩)
     ·exact .inr h
     ·omega)
  ·exact .inl ⟨hW,hJ⟩
  ·exact .inr hJ
 have Db:∀D a' W,J D a' W->(∀j,j<k->D j)->∃m,k<=m/\m<=ops.size/\(∀j,j<ops.size->(D j↔j<m))/\wpList P ops Q (ops.toList.drop m) a' W:=by
  intro D a' W hJ hD
  by_cases pQ:∀j,D j->j<k
  ·rcases XN D a' W hJ (fun j hj=>hD j (hj.elim (fG j _) (fG j _))) pQ with⟨hW,V,q,A,hV,hT,j5,yV,EY⟩ | hJ
   ·have hq:mask.count 3<=q:=by
     by_cases e:mask.count 3<=q
     ·exact e
     ·obtain⟨i,qY,wO⟩:=nw (b:=3) mask q (by omega)
      have:=(hT i qY).1 (hD i (fG i _ qY))
      omega
    have MG:(ky 3 mask (ops.toList.take k)).drop q=[]:=List.drop_eq_nil_of_le (by omega);rw[MG]at EY
    have:a'=A:=j5.ext yV (fun j hj=>by
     constructor
     ·intro Fu;obtain⟨b,hb,bN⟩:=LK j (pQ j Fu)
      have:b=0\/b=1\/b=2\/b=3:=by omega
      rcases this with rfl | rfl | rfl | rfl
      ·exact .inl hb
      ·exact .inr (.inl hb)
      ·exact .inr (.inr (.inl hb))
      ·exact .inr (.inr (.inr ⟨hb,(hT j hb).1 Fu⟩))
     ·rintro(hb | hb | hb | ⟨hb,_⟩) <;> exact hD j (fG j _ hb))
    subst this;exact⟨k,Nat.le_refl _,MF,fun j _=>⟨fun h=>pQ j h,fun h=>hD j h⟩,EY⟩
   ·exact hJ
  ·rcases hJ with⟨-,Qw,-⟩ | ⟨-,Qw,-⟩ | hJ
   ·exact absurd Qw pQ
   ·exact absurd Qw pQ
   ·exact hJ
 refine lf hm gP.back J (.inl ⟨aj bB,fun j hj=>hj.elim,fun j _ hj=>hj.elim,fun j=>aec (ju 0 mask j),0,F (mask.count 0),fun j _=>rfl,fun j _=>⟨fun h=>h.elim,fun h=>by omega⟩,fun j _ hj=>hj.elim,⟨rfl,rfl,fun j _ _ hj=>hj.elim,fun _ _=>rfl⟩,?_,?_⟩) ?_ ?_
 ·exact(zS _ (Nat.le_refl _)).same (fun j=>by
   constructor
   ·rintro⟨a1,-⟩;exact .inl a1
   ·rintro(a1 | ⟨-,a2⟩)
    ·exact⟨a1,iu a1⟩
    ·omega)
 ·rw[List.drop_zero];exact ir _ (aj bB)
 ·intro D a' W i o hJ ho pR iX d9;have eU:i<ops.size:=(Array.getElem?_eq_some_iff.1 ho).1
  by_cases kF:i<k
  ·have pQ:∀j,D j->j<k:=by
    rcases hJ with⟨-,h,-⟩ | ⟨-,h,-⟩ | ⟨m,h1,h2,h3,-⟩
    ·exact h
    ·exact h
    ·exact absurd ((h3 i eU).2 (by omega)) pR
   have MJ:∀j,(D j\/j=i)->j<k:=fun j hj=>hj.elim (pQ j) (fun e=>by omega)
   have Qy:∀ {p:Prop},(∃m,k<=m/\m<=ops.size/\(∀j,j<ops.size->(D j↔j<m))/\wpList P ops Q (ops.toList.drop m) a' W)->p:=fun ⟨m,h1,h2,h3,_⟩=>absurd ((h3 i eU).2 (by omega)) pR
   have look:∀t∈o.looksAt ops,∀j oj,j<k->ops[j]?=some oj->oj.dst=some t->D j/\j∈bM o:=fun t ht j oj nV fZ hd=>by
    have:=gP.looks i o kF ho t ht j oj nV fZ hd
    exact⟨iX j this,this⟩
   have q8:∀(E:Nat->Prop),(∀j,E j->j<k)->¬E i->∀j oj d,E j->ops[j]?=some oj->o.dst=some d->oj.dst≠some d:=fun E hE Ua j oj d hj fZ hd iq=>by
    have:=gP.aes i o kF ho j oj (hE j hj) fZ d hd iq
    subst this;exact Ua hj
   obtain⟨b,hb,bN⟩:=LK i kF;have hb':b=0\/b=1\/b=2\/b=3:=by omega
   have MK:∀j c,mask[j]?=some c->c≠b->j≠i:=fun j c hj hc e=>by subst e;rw[hb]at hj;cases hj;exact hc rfl
   rcases hb' with rfl | rfl | rfl | rfl
   ·-- a read
    have j8:=sb 0 mask _ i hlt hb;rw[rW i _ kF ho]at j8;obtain⟨⟨hw,dH⟩,-⟩:=jd _ _ j8;have hr:=iu hb
    have rJ:∀V:Nat->Value,(∀j,mask[j]?=some 0->V j=aec (ju 0 mask j))->aZ a ops V D a'->execOp a'.eval o=execOp (F (ju 0 mask i)).eval o/\Region.wanted o (yielded ops a'.tmps)=Region.wanted o (yielded ops (F (ju 0 mask i)).tmps):=fun V hV j5=>
     gm (ops:=ops) (a':=a') (A:=F (ju 0 mask i)) (fun t ht=>j5.agree ((zS _ (Nat.le_of_lt hr)).aec (v':=V) (fun j hj=>(hV j hj.1).symm)) t (fun j oj hj fZ hd=>by
      have nV:j<k:=hj.elim (fun h=>pQ j h) (fun h=>fG j _ h.1)
      obtain⟨d1,d2⟩:=look t ht j oj nV fZ hd;have SH:=c0 i o j hb ho d2
      exact⟨d1,SH,tl (gP.back i o ho j d2) SH⟩)) (fun cs b=>gP.aeo i o cs b ho)
    have XO:∀V:Nat->Value,(∀j,mask[j]?=some 0->V j=aec (ju 0 mask j))->aZ a ops V D a'->aZ a ops V (fun j=>D j\/j=i) (a'.put o.dst (aec (ju 0 mask i))):=fun V hV j5=>by
     have:=j5.put (i:=i) ho (q8 D pQ pR)
     rwa [hV i hb]at this
    have dd:∀j c,c≠0->mask[j]?=some c->((D j\/j=i)↔D j):=fun j c hc hj=>⟨fun h=>h.elim id (fun e=>absurd e (MK j c hj hc)),.inl⟩
    rcases hJ with⟨hW,-,h3,V,q,A,hV,hT,hU,j5,yV,Qx⟩ | ⟨hW,-,lJ,V,q,A,hV,hT,j5,yV,EY⟩ | hJ
    ·obtain⟨he,yW⟩:=rJ V hV j5;rw[if_pos (yW.trans hw)];refine .inl ?_;unfold Oper.wp;rw[he,dH W hW];exact .inl ⟨hW,MJ,fun j hj h=>h3 j hj ((dd j 3 (by decide) hj).1 h),V,q,A,hV,fun j hj=>(dd j 1 (by decide) hj).trans (hT j hj),fun j hj h=>hU j hj ((dd j 2 (by decide) hj).1 h),XO V hV j5,yV,Qx⟩
    ·obtain⟨he,yW⟩:=rJ V hV j5;rw[if_pos (yW.trans hw)];refine .inl ?_;unfold Oper.wp;rw[he,dH W hW];exact .inr (.inl ⟨hW,MJ,fun j hj=>.inl (lJ j hj),V,q,A,hV,fun j hj=>(dd j 3 (by decide) hj).trans (hT j hj),XO V hV j5,yV,EY⟩)
    ·exact Qy hJ
   ·-- the first chain
    rcases hJ with⟨hW,-,h3,V,q,A,hV,hT,hU,j5,yV,Qx⟩ | ⟨hW,-,lJ,-⟩ | hJ
    rotate_left
    ·exact absurd (lJ i (.inl hb)) pR
    ·exact Qy hJ
    have hq:ju 1 mask i=q:=by
     have h1:¬ju 1 mask i<q:=fun h=>pR ((hT i hb).2 h)
     by_cases e:ju 1 mask i=q
     ·exact e
     ·obtain⟨j,uf,yQ⟩:=nw (b:=1) mask q (by have:=iu hb;omega)
      have oo:j<i:=by
       rcases Nat.lt_trichotomy j i with h | h | h
       ·exact h
       ·subst h;omega
       ·have:=tl h hb;omega
      have:=it d9 ho iX (ch1 i j hb uf oo)
      have:=(hT j uf).1 this
      omega
    have j8:=sb 1 mask _ i hlt hb;rw[rW i _ kF ho,hq]at j8;have LL:q<(ky 1 mask (ops.toList.take k)).length:=(List.getElem?_eq_some_iff.1 j8).1;rw[List.drop_eq_getElem_cons LL,(List.getElem?_eq_some_iff.1 j8).2]at Qx
    obtain⟨he,yW⟩:=gm (ops:=ops) (a':=a') (A:=A) (fun t ht=>j5.agree yV t (fun j oj hj fZ hd=>by
     have nV:j<k:=hj.elim (fun h=>pQ j h) (fun h=>h.elim (fG j _) (fun h=>fG j _ h.1))
     obtain⟨d1,d2⟩:=look t ht j oj nV fZ hd;refine⟨d1,?_⟩;rcases c1 i o j hb ho d2 with hb' | hb'
     ·exact .inl hb'
     ·exact .inr ⟨hb',(hT j hb').1 d1⟩)) (fun cs b=>gP.aeo i o cs b ho)
    have next:∀u W',aa W W'->se P ops MI ((ky 1 mask (ops.toList.take k)).drop (q+1)) (A.put o.dst u) W'->J (fun j=>D j\/j=i) (a'.put o.dst u) W':=by
     intro u W' hS ht
     let V':Nat->Value:=fun j=>if j=i then u else V j
     have e1:∀j,j≠i->V' j=V j:=fun j hj=>if_neg hj
     have e2:V' i=u:=if_pos rfl;refine .inl ⟨hW.after hS,MJ,fun j hj h=>h.elim (h3 j hj) (MK j 3 hj (by decide)),V',q+1,A.put o.dst u,fun j hj=>?_,fun j hj=>?_,fun j hj h=>?_,?_,?_,ht⟩
     ·rw[e1 j (MK j 0 hj (by decide))];exact hV j hj
     ·constructor
      ·rintro(h | rfl)
       ·have:=(hT j hj).1 h;omega
       ·omega
      ·intro h
       by_cases e:ju 1 mask j=q
       ·exact .inr (sd hj hb (by omega))
       ·exact .inl ((hT j hj).2 (by omega))
     ·rw[e1 j (MK j 2 hj (by decide))];exact hR j W W' _ (hU j hj (h.elim id (fun e=>absurd e (MK j 2 hj (by decide))))) hS
     ·have:=(j5.aem (v':=V') (fun j _ hj=>(e1 j (fun e=>by subst e;exact pR hj)).symm)).put (i:=i) ho (q8 D pQ pR)
      rwa [e2]at this
     ·have Ua:¬(mask[i]?=some 0\/(mask[i]?=some 1/\ju 1 mask i<q)):=by
       rintro(h | ⟨-,h⟩)
       ·rw[hb]at h;cases h
       ·omega
      have:=((yV.aem (v':=V') (fun j _ hj=>(e1 j (fun e=>by subst e;exact Ua hj)).symm)).put (i:=i) ho (q8 _ (fun j hj=>hj.elim (fG j _) (fun h=>fG j _ h.1)) Ua)).same (E:=fun j=>mask[j]?=some 0\/(mask[j]?=some 1/\ju 1 mask j<q+1)) (fun j=>by
        constructor
        ·rintro((h | ⟨h,h'⟩) | rfl)
         ·exact .inl h
         ·exact .inr ⟨h,by omega⟩
         ·exact .inr ⟨hb,by omega⟩
        ·rintro(h | ⟨h,h'⟩)
         ·exact .inl (.inl h)
         ·by_cases e:ju 1 mask j=q
          ·exact .inr (sd h hb (by omega))
          ·exact .inl (.inr ⟨h,by omega⟩))
      rwa [e2]at this
    obtain⟨hw,dH⟩:=Qx W (ad _);rw[if_pos (yW.trans hw)];refine .inl ?_;unfold Oper.wp;rw[he]
    generalize (execOp A.eval o).run P W=r at dH ⊢
    cases r with
    | ok nx W'=>
     cases nx with
     | value u=>exact next u W' dH.1 dH.2
     | enter f args=>
      simp only[Oper.upon]
      exact Calls.mono dH fun e oN ⟨u,FA,h3,h4⟩=>by subst FA;exact next u oN h3 h4
     | _=>exact dH.elim
    | halt x W'=>exact dH.elim
   ·-- a free one
    rcases hJ with⟨hW,-,h3,V,q,A,hV,hT,hU,j5,yV,Qx⟩ | ⟨hW,-,lJ,-⟩ | hJ
    rotate_left
    ·exact absurd (lJ i (.inr hb)) pR
    ·exact Qy hJ
    obtain⟨hw,mE⟩:=Dc i ((wO i).2 hb) o ho
    obtain⟨he,yW⟩:=gm (ops:=ops) (a':=a') (A:=F (mask.count 0)) (fun t ht=>j5.agree ((zS _ (Nat.le_refl _)).aec (v':=V) (fun j hj=>(hV j hj.1).symm)) t (fun j oj hj fZ hd=>by
     have nV:j<k:=hj.elim (fun h=>pQ j h) (fun h=>fG j _ h.1)
     obtain⟨d1,d2⟩:=look t ht j oj nV fZ hd;have SH:=c2 i o j hb ho d2
     exact⟨d1,SH,iu SH⟩)) (fun cs b=>gP.aeo i o cs b ho)
    have next:∀u W',R i W' u->aa W W'->J (fun j=>D j\/j=i) (a'.put o.dst u) W':=by
     intro u W' hr hS
     let V':Nat->Value:=fun j=>if j=i then u else V j
     have e1:∀j,j≠i->V' j=V j:=fun j hj=>if_neg hj
     have e2:V' i=u:=if_pos rfl;refine .inl ⟨hW.after hS,MJ,fun j hj h=>h.elim (h3 j hj) (MK j 3 hj (by decide)),V',q,A,fun j hj=>?_,fun j hj=>?_,fun j hj h=>?_,?_,?_,se.since XM _ _ _ _ Qx hS⟩
     ·rw[e1 j (MK j 0 hj (by decide))];exact hV j hj
     ·rw[<- hT j hj];exact⟨fun h=>h.elim id (fun e=>absurd e (MK j 1 hj (by decide))),.inl⟩
     ·by_cases e:j=i
      ·subst e;rw[e2];exact hr
      ·rw[e1 j e];exact hR j W W' _ (hU j hj (h.elim id (fun e'=>absurd e' e))) hS
     ·have:=(j5.aem (v':=V') (fun j _ hj=>(e1 j (fun e=>by subst e;exact pR hj)).symm)).put (i:=i) ho (q8 D pQ pR)
      rwa [e2]at this
     ·exact yV.aem (fun j _ hj=>(e1 j (by
       rcases hj with hj | ⟨hj,-⟩
       ·exact MK j 0 hj (by decide)
       ·exact MK j 1 hj (by decide))).symm)
    rw[if_pos (yW.trans hw)];refine .inl ?_;unfold Oper.wp;rw[he];have mE:=mE W hW;unfold k_ at mE
    generalize (execOp (F (mask.count 0)).eval o).run P W=r at mE ⊢
    cases r with
    | ok nx W'=>
     cases nx with
     | value u'=>exact next u' W' mE.1 mE.2
     | enter f args=>
      simp only[Oper.upon]
      exact Calls.mono mE fun e oN ⟨u,FA,h3,h4⟩=>by subst FA;exact next u oN h3 h4
     | _=>exact mE.elim
    | halt x W'=>exact mE.elim
   ·-- the chain behind
    have lJ:∀j,mask[j]?=some 1\/mask[j]?=some 2->D j:=fun j hj=>it d9 ho iX (ch3 i j hb (hj.elim .inl (fun h=>.inr (.inl h))))
    rcases XN D a' W hJ lJ pQ with⟨hW,V,q,A,hV,hT,j5,yV,EY⟩ | hJ'
    rotate_left
    ·exact Qy hJ'
    have hq:ju 3 mask i=q:=by
     have h1:¬ju 3 mask i<q:=fun h=>pR ((hT i hb).2 h)
     by_cases e:ju 3 mask i=q
     ·exact e
     ·obtain⟨j,uf,yQ⟩:=nw (b:=3) mask q (by have:=iu hb;omega)
      have oo:j<i:=by
       rcases Nat.lt_trichotomy j i with h | h | h
       ·exact h
       ·subst h;omega
       ·have:=tl h hb;omega
      have:=it d9 ho iX (ch3 i j hb (.inr (.inr ⟨uf,oo⟩)))
      have:=(hT j uf).1 this
      omega
    have j8:=sb 3 mask _ i hlt hb;rw[rW i _ kF ho,hq]at j8;have LL:q<(ky 3 mask (ops.toList.take k)).length:=(List.getElem?_eq_some_iff.1 j8).1;rw[List.drop_eq_getElem_cons LL,(List.getElem?_eq_some_iff.1 j8).2]at EY
    obtain⟨he,yW⟩:=gm (ops:=ops) (a':=a') (A:=A) (fun t ht=>j5.agree yV t (fun j oj hj fZ hd=>by
     have nV:j<k:=hj.elim (fun h=>pQ j h) (fun h=>h.elim (fG j _) (fun h=>h.elim (fG j _) (fun h=>h.elim (fG j _) (fun h=>fG j _ h.1))))
     obtain⟨d1,d2⟩:=look t ht j oj nV fZ hd;refine⟨d1,?_⟩;obtain⟨b,hb',tn⟩:=LK j nV
     have:b=0\/b=1\/b=2\/b=3:=by omega
     rcases this with rfl | rfl | rfl | rfl
     ·exact .inl hb'
     ·exact .inr (.inl hb')
     ·exact .inr (.inr (.inl hb'))
     ·exact .inr (.inr (.inr ⟨hb',(hT j hb').1 d1⟩)))) (fun cs b=>gP.aeo i o cs b ho)
    have next:∀u W',aa w0 W'->bz P ops (aa w0) (fun A W=>wpList P ops Q (ops.toList.drop k) A W) ((ky 3 mask (ops.toList.take k)).drop (q+1)) (A.put o.dst u) W'->J (fun j=>D j\/j=i) (a'.put o.dst u) W':=by
     intro u W' hS ht
     let V':Nat->Value:=fun j=>if j=i then u else V j
     have e1:∀j,j≠i->V' j=V j:=fun j hj=>if_neg hj
     have e2:V' i=u:=if_pos rfl;refine .inr (.inl ⟨hS,MJ,fun j hj=>.inl (lJ j hj),V',q+1,A.put o.dst u,fun j hj=>?_,fun j hj=>?_,?_,?_,ht⟩)
     ·rw[e1 j (MK j 0 hj (by decide))];exact hV j hj
     ·constructor
      ·rintro(h | rfl)
       ·have:=(hT j hj).1 h;omega
       ·omega
      ·intro h
       by_cases e:ju 3 mask j=q
       ·exact .inr (sd hj hb (by omega))
       ·exact .inl ((hT j hj).2 (by omega))
     ·have:=(j5.aem (v':=V') (fun j _ hj=>(e1 j (fun e=>by subst e;exact pR hj)).symm)).put (i:=i) ho (q8 D pQ pR)
      rwa [e2]at this
     ·have Ua:¬(mask[i]?=some 0\/mask[i]?=some 1\/mask[i]?=some 2\/(mask[i]?=some 3/\ju 3 mask i<q)):=by
       rintro(h | h | h | ⟨-,h⟩)
       ·rw[hb]at h;cases h
       ·rw[hb]at h;cases h
       ·rw[hb]at h;cases h
       ·omega
      have:=((yV.aem (v':=V') (fun j _ hj=>(e1 j (fun e=>by subst e;exact Ua hj)).symm)).put (i:=i) ho (q8 _ (fun j hj=>hj.elim (fG j _) (fun h=>h.elim (fG j _) (fun h=>h.elim (fG j _) (fun h=>fG j _ h.1)))) Ua)).same (E:=fun j=>mask[j]?=some 0\/mask[j]?=some 1\/mask[j]?=some 2\/(mask[j]?=some 3/\ju 3 mask j<q+1)) (fun j=>by
        constructor
        ·rintro((h | h | h | ⟨h,h'⟩) | rfl)
         ·exact .inl h
         ·exact .inr (.inl h)
         ·exact .inr (.inr (.inl h))
         ·exact .inr (.inr (.inr ⟨h,by omega⟩))
         ·exact .inr (.inr (.inr ⟨hb,by omega⟩))
        ·rintro(h | h | h | ⟨h,h'⟩)
         ·exact .inl (.inl h)
         ·exact .inl (.inr (.inl h))
         ·exact .inl (.inr (.inr (.inl h)))
         ·by_cases e:ju 3 mask j=q
          ·exact .inr (sd h hb (by omega))
          ·exact .inl (.inr (.inr (.inr ⟨h,by omega⟩))))
      rwa [e2]at this
    rcases EY with⟨hw,dH⟩ | ⟨hw,dH⟩
    ·rw[if_pos (yW.trans hw)];refine .inl ?_;unfold Oper.wp;rw[he]
     generalize (execOp A.eval o).run P W=r at dH ⊢
     cases r with
     | ok nx W'=>
      cases nx with
      | value u=>exact next u W' dH.1 dH.2
      | skip=>exact next undef W' dH.1 dH.2
      | row row args=>exact Rows.mono dH fun u oN h=>next u oN h.1 h.2
      | enter f args=>
       simp only[Oper.upon]
       exact Calls.mono dH fun e oN ⟨u,FA,h3,h4⟩=>by subst FA;exact next u oN h3 h4
      | _=>exact dH.elim
     | halt x W'=>exact dH.elim
    ·rw[if_neg (by rw[yW.trans hw];simp)]
     exact next _ _ hW dH
  ·-- the tail
   have bZ:∀j,j<i->D j:=fun j hj=>it d9 ho iX (gP.tail i (by omega) eU j hj)
   obtain⟨m,h1,h2,h3,h4⟩:=Db D a' W hJ (fun j hj=>bZ j (by omega))
   have Bg:m=i:=by
    by_cases e1:i<m
    ·exact absurd ((h3 i eU).2 e1) pR
    ·by_cases e2:m<i
     ·have:=(h3 m (by omega)).1 (bZ m e2);omega
     ·omega
   subst Bg
   have IJ:ops.toList.drop m=o::ops.toList.drop (m+1):=by
    have:m<ops.toList.length:=by simpa using eU
    rw[List.drop_eq_getElem_cons this];congr 1
    have:=(Array.getElem?_eq_some_iff.1 ho).2
    simpa using this
   rw[IJ]at h4;unfold wpList at h4
   have next:∀a W,wpList P ops Q (ops.toList.drop (m+1)) a W->J (fun j=>D j\/j=m) a W:=fun a W h=>.inr (.inr ⟨m+1,by omega,by omega,fun j hj=>by
    constructor
    ·rintro(h | rfl)
     ·have:=(h3 j hj).1 h;omega
     ·omega
    ·intro h
     by_cases e:j=m
     ·exact .inr e
     ·exact .inl ((h3 j hj).2 (by omega)),h⟩)
   split
   ·rename_i hw
    rw[if_pos hw]at h4;exact h4.imp (Oper.wp_mono next) id
   ·rename_i hw
    rw[if_neg hw]at h4;exact next _ _ h4
 ·intro D a' W hJ bZ;obtain⟨m,h1,h2,h3,h4⟩:=Db D a' W hJ (fun j hj=>bZ j (by omega))
  have XJ:m=ops.size:=by
   by_cases e:m<ops.size
   ·have:=(h3 m e).1 (bZ m e);omega
   ·omega
  subst XJ;rw[List.drop_eq_nil_of_le (by simp)]at h4;exact h4
end
theorem je {P:Program} {ops:Array Oper} {w0:World} {fin:Act->World->Prop} {o:Oper} {rest:List Oper} {A:Act} {W:World} {ob:Obj} {v:Value} (hw:Region.wanted o (yielded ops A.tmps)=true) (h:(execOp A.eval o).run P W=.ok (.value v) (W.alloc ob)) (hS:aa w0 W)
  (hr:∀W',W'=W.alloc ob->aa w0 W'->bz P ops (aa w0) fin rest (A.put o.dst v) W'):bz P ops (aa w0) fin (o::rest) A W:=
 zR hw h (ag _ hS) (hr _ rfl (ag _ hS))
open Go.ChangeShapes Go.WideShapes Go.ChangeAt Go.RowKit Go.Joins Go.Deep
section
variable {H : Type} {enc : TypeId × Value → H} {W : World}
end
def left (l:Int) (n:Nat):Int:=if l-n<0 then -1 else l-n
def Bh (ix:List (List (Int×Int))):Nat:=(ix.map List.length).sum
def Ub (ix:List (List (Int×Int))):Nat:=ix.length+Bh ix
def iK (n:ak):Nat:=Ub n.ends+n.ids.length+n.aea.length
section
variable {ops : Array Oper} {rest : List Oper} {o : Oper} {a : Act} {Q : Exit → Act → World → Prop}
end
section
variable {ops : Array Oper} {rest : List Oper} {o : Oper} {a : Act} {Q : Exit → Act → World → Prop}
end
theorem bD.aev {w:World} {b:Nat} {x y z u:Value} (h:bD w b x y z):bD (w.setCell ⟨b,0,none⟩ u) b u y z:=by
 obtain⟨r,h⟩:=h;exact⟨r,by simp[World.setCell,Array.getElem?_modify,h]⟩
theorem bD.aew {w:World} {b:Nat} {x y z u:Value} (h:bD w b x y z):bD (w.setCell ⟨b,1,none⟩ u) b x u z:=by
 obtain⟨r,h⟩:=h;exact⟨r,by simp[World.setCell,Array.getElem?_modify,h]⟩
theorem bD.aex {w:World} {b:Nat} {x y z u:Value} (h:bD w b x y z):bD (w.setCell ⟨b,2,none⟩ u) b x y u:=by
 obtain⟨r,h⟩:=h;exact⟨r,by simp[World.setCell,Array.getElem?_modify,h]⟩
end Go.Proofs.YtgmdpppljkmabaaGreat
