/- Parts of the proof: walks of functions and plain laws. -/
import Derived.Test.YtnioemnkfojmkaaGreatP0
import Derived.Test.YtnioemnkfojmkaaGreatP1
set_option maxRecDepth 100000
set_option maxHeartbeats 16000000
namespace Go.Proofs.YtnioemnkfojmkaaGreat
open Go Go.RowKit
section
variable {P : Program} {ops : Array Oper}
theorem Ik {Q:Exit->Act->World->Prop} (vP:∀i o,ops[i]?=some o->∀j∈bU o,j<i) (J:(Nat->Prop)->Act->World->Prop)
  (gz:∀(D:Nat->Prop) a w i o,J D a w->ops[i]?=some o->¬D i->(∀d∈bU o,D d)->(∀i o,D i->ops[i]?=some o->∀d∈bU o,D d) ->
   if Region.wanted o (yielded ops a.tmps)=true then Oper.wp P o a w (J (fun j=>D j\/j=i)) Q\/(o.asks P a w/\LetsOut Q) else J (fun j=>D j\/j=i) (a.put o.dst undef) w)
  (yd:∀(D:Nat->Prop) a w,J D a w->(∀i,i<ops.size->D i)->Q .normal a w):
  ∀(li:Nat) (aA:Array Bool) (a:Act) (W:World),aA.size=ops.size->(∀i o,aA.getD i false=true->ops[i]?=some o->∀j∈bU o,aA.getD j false=true) ->
   ((List.range ops.size).filter fun j => !aA.getD j false).length<=li->J (fun j=>aA.getD j false=true) a W->wpAny P .any ops Q li aA a W:=by
 have V_:∀(aA:Array Bool),aA.size=ops.size->Region.ready .any ops aA=[]->∀m,∀j,j<=m->j<ops.size->aA.getD j false=true:=by
  intro aA eR DY m
  induction m using Nat.strongRecOn with
  | ind m ihm=>
   intro j hjm VY;refine Classical.byContradiction fun UX=>?_
   have UX:aA.getD j false=false:=by cases hb:aA.getD j false <;> simp_all
   have fp:j∈Region.ready .any ops aA:=fN.2 ⟨by rw[kN (by omega)];exact UX,ops[j],Array.getElem?_eq_getElem VY,fun d hd=>by
    have hdj:=vP j _ (Array.getElem?_eq_getElem VY) d hd
    exact ihm d (by omega) d (Nat.le_refl _) (by omega)⟩
   rw[DY]at fp;simp at fp
 intro li
 induction li with
 | zero=>
  intro aA a W eR qs Rv hJ
  have bH:∀j,j<ops.size->aA.getD j false=true:=fun j hj=>by
   rcases hb:aA.getD j false with _ | _
   ·have:0<((List.range ops.size).filter fun j => !aA.getD j false).length:=List.length_pos_of_mem (List.mem_filter.2 ⟨List.mem_range.2 hj,by simp[hb]⟩)
    omega
   ·rfl
  refine⟨List.eq_nil_iff_forall_not_mem.2 fun i hi=>?_,yd _ a W hJ bH⟩
  obtain⟨h0,o,ho,_⟩:=fN.1 hi;have dH:i<ops.size:=(Array.getElem?_eq_some_iff.1 ho).1;rw[kN (by omega),bH i dH]at h0;cases h0
 | succ li ih=>
  intro aA a W eR qs Rv hJ;refine⟨fun DY=>yd _ a W hJ fun j hj=>V_ aA eR DY j j (Nat.le_refl _) hj,fun i hi=>?_⟩
  obtain⟨h0,o,ho,io⟩:=fN.1 hi;have dH:i<ops.size:=(Array.getElem?_eq_some_iff.1 ho).1;rw[kN (by omega)]at h0
  have jh:∀j,(aA.setIfInBounds i true).getD j false=true↔(aA.getD j false=true\/j=i):=fun j=>by
   by_cases nV:i=j
   ·subst nV;simp[eR,dH]
   ·rw[getD_set_ne false nV];constructor
    ·exact .inl
    ·rintro(h | h)
     ·exact h
     ·exact absurd h.symm nV
  have hD:(fun j=>(aA.setIfInBounds i true).getD j false=true)=fun j=>aA.getD j false=true\/j=i:=funext fun j=>propext (jh j)
  have next:∀a W,J (fun j=>aA.getD j false=true\/j=i) a W->wpAny P .any ops Q li (aA.setIfInBounds i true) a W:=fun a W hJ'=>by
   refine ih _ a W (by simpa using eR) (fun i' o' rc Bk j hj=>?_) ?_ (by rw[hD];exact hJ')
   ·rcases(jh i').1 rc with h | rfl
    ·exact(jh j).2 (.inl (qs i' o' h Bk j hj))
    ·rw[ho]at Bk;cases Bk
     exact(jh j).2 (.inl (io j hj))
   ·have aak:=filter_lt (l:=List.range ops.size) (p:=fun j => !aA.getD j false) (q:=fun j => !(aA.setIfInBounds i true).getD j false) (fun x hx=>by
     cases hb:aA.getD x false
     ·rfl
     ·have:=(jh x).2 (.inl hb)
      simp only[this]at hx
      cases hx) (List.mem_range.2 dH) (by simp only[h0];rfl) (by simp only[(jh i).2 (.inr rfl)];rfl)
    omega
  have:=gz (fun j=>aA.getD j false=true) a W i o hJ ho (by rw[h0];simp) io qs
  unfold wpOp;simp only[ho]
  split
  ·rename_i hw
   rw[if_pos hw]at this;exact this.imp (Oper.wp_mono next) id
  ·rename_i hw
   rw[if_neg hw]at this;exact next _ _ this
theorem gB {Q:Exit->Act->World->Prop} {id:Nat} {a:Act} {w:World} (hm:P.follows .mixedOrders=true) (vP:∀i o,ops[i]?=some o->∀j∈bU o,j<i) (J:(Nat->Prop)->Act->World->Prop)
  (h0:J (fun _=>False) a w.drew)
  (gz:∀(D:Nat->Prop) a w i o,J D a w->ops[i]?=some o->¬D i->(∀d∈bU o,D d)->(∀i o,D i->ops[i]?=some o->∀d∈bU o,D d) ->
   if Region.wanted o (yielded ops a.tmps)=true then Oper.wp P o a w (J (fun j=>D j\/j=i)) Q\/(o.asks P a w/\LetsOut Q) else J (fun j=>D j\/j=i) (a.put o.dst undef) w)
  (yd:∀(D:Nat->Prop) a w,J D a w->(∀i,i<ops.size->D i)->Q .normal a w):(Code.region id ops true).wp P Q a w:=by
 refine wp_region_any hm ?_
 refine Ik (P:=P) (Q:=Q) vP J gz yd ops.size (Array.replicate ops.size false) a w.drew (by simp) (fun i o hi=>by rw[mf]at hi;cases hi) ?_ ?_
 ·have:=List.length_filter_le (fun j => !(Array.replicate ops.size false).getD j false) (List.range ops.size)
  simpa using this
 ·have:(fun j=>(Array.replicate ops.size false).getD j false=true)=fun _=>False:=funext fun j=>propext ⟨(fun h=>by rw[mf]at h;cases h),fun h=>h.elim⟩
  rw[this];exact h0
def dD {α:Type}:List Bool->List α->List α
 | true::m,o::l=>o::dD m l
 | false::m,_::l=>dD m l
 | [],_=>[]
 | _::_,[]=>[]
def ek {α:Type}:List Bool->List α->List α
 | true::m,_::l=>ek m l
 | false::m,o::l=>o::ek m l
 | [],_=>[]
 | _::_,[]=>[]
def rk (b:Bool) (m:List Bool) (i:Nat):Nat:=(m.take i).count b
theorem uK {α:Type}:∀(m:List Bool) (l:List α) (i:Nat),m.length=l.length->m[i]?=some true->(dD m l)[rk true m i]?=l[i]?
 | [],_,i,_,h=>by simp at h
 | true::m,o::l,0,_,_=>by simp[rk,dD]
 | true::m,o::l,i+1,hl,h=>by
  have:=uK m l i (by simpa using hl) (by simpa using h)
  simpa[rk,dD]using this
 | false::m,o::l,0,_,h=>by simp at h
 | false::m,o::l,i+1,hl,h=>by
  have:=uK m l i (by simpa using hl) (by simpa using h)
  simpa[rk,dD]using this
theorem pt {α:Type}:∀(m:List Bool) (l:List α) (i:Nat),m.length=l.length->m[i]?=some false->(ek m l)[rk false m i]?=l[i]?
 | [],_,i,_,h=>by simp at h
 | false::m,o::l,0,_,_=>by simp[rk,ek]
 | false::m,o::l,i+1,hl,h=>by
  have:=pt m l i (by simpa using hl) (by simpa using h)
  simpa[rk,ek]using this
 | true::m,o::l,0,_,h=>by simp at h
 | true::m,o::l,i+1,hl,h=>by
  have:=pt m l i (by simpa using hl) (by simpa using h)
  simpa[rk,ek]using this
theorem ry {α:Type}:∀(m:List Bool) (l:List α),m.length=l.length->(dD m l).length=m.count true
 | [],[],_=>rfl
 | true::m,o::l,hl=>by simp[dD,ry m l (by simpa using hl)]
 | false::m,o::l,hl=>by simp[dD,ry m l (by simpa using hl)]
theorem rz {α:Type}:∀(m:List Bool) (l:List α),m.length=l.length->(ek m l).length=m.count false
 | [],[],_=>rfl
 | true::m,o::l,hl=>by simp[ek,rz m l (by simpa using hl)]
 | false::m,o::l,hl=>by simp[ek,rz m l (by simpa using hl)]
theorem NT {b:Bool} {m:List Bool} {i:Nat} {x:Bool} (h:m[i]?=some x):rk b m (i+1)=rk b m i+if x=b then 1 else 0:=by
 obtain⟨hi,rfl⟩:=List.getElem?_eq_some_iff.1 h;unfold rk;rw[List.take_succ_eq_append_getElem hi,List.count_append];congr 1
 simp[List.count_cons]
theorem Wa {b:Bool} {m:List Bool} {i j:Nat} (h:i<=j):rk b m i<=rk b m j:=by
 unfold rk;exact List.Sublist.count_le _ (List.IsPrefix.sublist (List.take_prefix_take_left h))
theorem vQ {b:Bool} {m:List Bool} {i j:Nat} (h:i<j) (hi:m[i]?=some b):rk b m i<rk b m j:=by
 have h1:=NT (b:=b) hi;rw[if_pos rfl]at h1
 have:=Wa (b:=b) (m:=m) (show i+1<=j from h)
 omega
theorem sL {b:Bool} {m:List Bool} {i j:Nat} (hi:m[i]?=some b) (hj:m[j]?=some b) (h:rk b m i=rk b m j):i=j:=by
 rcases Nat.lt_trichotomy i j with hl | hl | hl
 ·have:=vQ hl hi;omega
 ·exact hl
 ·have:=vQ hl hj;omega
theorem iE {b:Bool} {m:List Bool} {i:Nat} (hi:m[i]?=some b):rk b m i<m.count b:=by
 have h1:=vQ (Nat.lt_of_lt_of_le (List.getElem?_eq_some_iff.1 hi).1 (Nat.le_refl m.length)) hi
 unfold rk at h1 ⊢
 rw[List.take_length]at h1;exact h1
theorem oe {b:Bool}:∀(m:List Bool) (q:Nat),q<m.count b->∃i:Nat,m[i]?=some b/\rk b m i=q
 | [],q,h=>by simp at h
 | x::m,q,h=>by
  by_cases hx:x=b
  ·subst hx
   cases q with
   | zero=>exact⟨0,by simp,by simp[rk]⟩
   | succ q=>
    obtain⟨i,h1,h2⟩:=oe m q (by simpa using h)
    exact ⟨i + 1, by simpa using h1, by have : rk x (x :: m) (i + 1) = rk x m i + 1 := by simp [rk]
                                        omega⟩
  ·obtain⟨i,h1,h2⟩:=oe m q (by rwa [List.count_cons_of_ne hx]at h)
   exact ⟨i + 1, by simpa using h1, by have : rk b (x :: m) (i + 1) = rk b m i := by simp [rk, List.count_cons_of_ne hx]
                                       omega⟩
def bj (P:Program) (ops:Array Oper) (S:World->Prop) (ew:Act->World->Prop):List Oper->Act->World->Prop
 | [],A,W=>ew A W
 | o::rest,A,W=>
  (Region.wanted o (yielded ops A.tmps)=true/\match (execOp A.eval o).run P W with
   | .ok (.value u) W'=>S W'/\bj P ops S ew rest (A.put o.dst u) W'
   | .ok .skip W'=>S W'/\bj P ops S ew rest (A.put o.dst undef) W'
   | .ok (.row row args) W'=>Rows P row args W' fun v kM=>S kM/\bj P ops S ew rest (A.put o.dst v) kM
   | .ok (.enter f args) W'=>Calls P f args W' fun e kM=>∃u,e=.returned u/\S kM/\bj P ops S ew rest (A.put o.dst u) kM
   | _=>False)\/(Region.wanted o (yielded ops A.tmps)=false/\bj P ops S ew rest (A.put o.dst undef) W)
theorem gF {S:World->Prop} {ew:Act->World->Prop} {o:Oper} {rest:List Oper} {A:Act} {W:World} {v:Value} (hw:Region.wanted o (yielded ops A.tmps)=true) (h:(execOp A.eval o).run P W=.ok (.value v) W) (hS:S W)
  (hr:bj P ops S ew rest (A.put o.dst v) W):bj P ops S ew (o::rest) A W:=.inl ⟨hw,by rw[h];exact⟨hS,hr⟩⟩
theorem y5 {S:World->Prop} {ew:Act->World->Prop} {o:Oper} {rest:List Oper} {A:Act} {W W':World} {v:Value} (hw:Region.wanted o (yielded ops A.tmps)=true) (h:(execOp A.eval o).run P W=.ok (.value v) W') (hS:S W')
  (hr:bj P ops S ew rest (A.put o.dst v) W'):bj P ops S ew (o::rest) A W:=.inl ⟨hw,by rw[h];exact⟨hS,hr⟩⟩
theorem c_ {S:World->Prop} {ew:Act->World->Prop} {o:Oper} {rest:List Oper} {A:Act} {W:World}
  (h:∀Q':Exit->Act->World->Prop,(∀u W',S W'->bj P ops S ew rest (A.put o.dst u) W'->Q' .normal (A.put o.dst u) W')->wpList P ops Q' [o] A W):bj P ops S ew (o::rest) A W:=by
 have h1:=h (fun x a w=>x=.normal/\a.defers=A.defers/\S w/\bj P ops S ew rest a w) (fun u W' hS ht=>⟨rfl,by cases o.dst <;> rfl,hS,ht⟩)
 unfold wpList at h1;unfold bj
 split at h1
 ·rename_i hw
  refine .inl ⟨hw,?_⟩;rcases h1 with h1 | ⟨-,a',w',h1,-⟩
  ·unfold Oper.wp at h1
   generalize (execOp A.eval o).run P W=r at h1 ⊢
   cases r with
   | ok nx W'=>
    cases nx with
    | value u=>exact h1.2.2
    | skip=>exact h1.2.2
    | row row args=>exact Rows.mono h1 fun u kM h=>h.2.2
    | enter f args=>
     simp only[Oper.upon]at h1;refine Calls.mono h1 fun e kM h2=>?_
     cases e with
     | returned v=>exact⟨v,rfl,h2.2.2⟩
     | panicked c=>exact absurd h2.1 (by simp)
     | outgrown=>obtain⟨a',w',h3,-⟩:=h2;cases h3
    | defer d=>
     have:=h1.2.1
     simp only[Act.put]at this;have hl:=congrArg List.length this
     cases hd:o.dst <;> simp[hd]at hl
    | _=>exact h1.elim
   | halt x W'=>cases x <;> first | exact absurd h1.1 (by simp) | exact h1.elim
  ·cases h1
 ·rename_i hw
  exact .inr ⟨by simpa using hw,h1.2.2.2⟩
def zU (ops:Array Oper) (k:Nat) (mask:List Bool):Bool:=
 ra ops k&&decide (mask.length=k)&&decide (k<=ops.size) &&
 (List.range k).all fun i=>match ops[i]? with
  | none=>true
  | some o=>if mask.getD i true then (List.range i).all fun j => !mask.getD j true||((iQ ops (i+1)).getD i []).contains j
   else (bU o).all fun j => !mask.getD j true
def sM (P:Program) (ops:Array Oper) (S:World->Prop) (ew:Act->Prop):List Oper->Act->Prop
 | [],A=>ew A
 | o::rest,A=>∃v,(Region.wanted o (yielded ops A.tmps)=true/\∀W,S W->(execOp A.eval o).run P W=.ok (.value v) W)/\sM P ops S ew rest (A.put o.dst v)
theorem bh {S:World->Prop} {ew:Act->Prop} {o:Oper} {rest:List Oper} {A:Act} {v:Value} (hw:Region.wanted o (yielded ops A.tmps)=true) (h:∀W,S W->(execOp A.eval o).run P W=.ok (.value v) W)
  (hr:sM P ops S ew rest (A.put o.dst v)):sM P ops S ew (o::rest) A:=⟨v,⟨hw,h⟩,hr⟩
theorem ye {S:World->Prop} {ew:Act->Prop} (l:List Oper):∀(A:Act),sM P ops S ew l A ->
  ∃(ac6:Nat->Value) (F:Nat->Act),F 0=A/\ew (F l.length)/\∀i o,l[i]?=some o->(Region.wanted o (yielded ops (F i).tmps)=true/\∀W,S W->(execOp (F i).eval o).run P W=.ok (.value (ac6 i)) W)/\F (i+1)=(F i).put o.dst (ac6 i):=by
 induction l with
 | nil=>intro A h;exact⟨fun _=>undef,fun _=>A,rfl,h,fun i o h=>by simp at h⟩
 | cons o l ih=>
  intro A h;obtain⟨v,hs,hf⟩:=h;obtain⟨ac6,F,h0,iK,gz⟩:=ih _ hf;refine⟨fun i=>match i with | 0=>v | i+1=>ac6 i,fun i=>match i with | 0=>A | i+1=>F i,rfl,iK,?_⟩
  intro i o' hi
  cases i with
  | zero=>simp at hi;subst hi;exact⟨hs,h0⟩
  | succ i=>exact gz i o' (by simpa using hi)
theorem av {Q:Exit->Act->World->Prop} {Ei:Nat} {a:Act} {w:World} (S:World->Prop) (k:Nat) (mask:List Bool) (hm:P.follows .mixedOrders=true) (hc:zU ops k mask=true) (bu:S w.drew)
  (h:sM P ops S (fun A=>bj P ops S (fun A W=>wpList P ops Q (ops.toList.drop k) A W) (dD mask (ops.toList.take k)) A w.drew) (ek mask (ops.toList.take k)) a):(Code.region Ei ops true).wp P Q a w:=by
 unfold zU at hc;simp only[Bool.and_eq_true,decide_eq_true_eq]at hc;obtain⟨⟨⟨hf,J6⟩,xR⟩,RF⟩:=hc;have dJ:=ph hf
 have aH:mask.length=(ops.toList.take k).length:=by simp;omega
 have F3:∀i,i<k->∃b,mask[i]?=some b:=fun i hi=>⟨_,List.getElem?_eq_getElem (by omega)⟩
 have nA:∀i o,i<k->ops[i]?=some o->(ops.toList.take k)[i]?=some o:=fun i o hi ho=>by
  rw[List.getElem?_take,if_pos hi];simpa using ho
 have uc:∀i b,mask[i]?=some b->mask.getD i true=b:=fun i b hb=>by rw[zDd,hb];rfl
 have eE:∀i b,mask[i]?=some b->i<k:=fun i b hb=>by have:=(List.getElem?_eq_some_iff.1 hb).1;omega
 have chT:∀i j,mask[i]?=some true->mask[j]?=some true->j<i->Jk ops j i:=fun i j hi hj nV=>by
  have g7:=eE i _ hi;have ho:ops[i]?=some ops[i]:=Array.getElem?_eq_getElem (by omega)
  have:=List.all_eq_true.1 RF i (List.mem_range.2 g7)
  simp only[ho]at this;rw[if_pos (uc i _ hi)]at this
  have:=List.all_eq_true.1 this j (List.mem_range.2 nV)
  rw[uc j _ hj,Bool.not_true,Bool.false_or]at this;exact eT (i+1) i j (by simpa using this)
 have chF:∀i o j,mask[i]?=some false->ops[i]?=some o->j∈bU o->mask[j]?=some false:=fun i o j hi ho hj=>by
  have g7:=eE i _ hi;have nV:=dJ.back i o ho j hj
  have:=List.all_eq_true.1 RF i (List.mem_range.2 g7)
  simp only[ho]at this
  rw[if_neg (by rw[uc i _ hi];simp)]at this
  have:=List.all_eq_true.1 this j hj
  obtain⟨b,hb⟩:=F3 j (by omega);rw[uc j _ hb]at this
  cases b <;> simp_all
 obtain⟨ac6,F,h0,iK,ct⟩:=ye _ a h
 have rA:∀r,r<=mask.count false->aN a ops (fun j=>ac6 (rk false mask j)) (fun j=>mask[j]?=some false/\rk false mask j<r) (F r):=by
  intro r
  induction r with
  | zero=>intro _;rw[h0];exact⟨rfl,rfl,fun j _ _ hj=>by have:=hj.2;omega,fun _ _=>rfl⟩
  | succ r ih=>
   intro hr;obtain⟨i,qt,tZ⟩:=oe (b:=false) mask r (by omega);have g7:=eE i _ qt;have ho:ops[i]?=some ops[i]:=Array.getElem?_eq_getElem (by omega);have gV:=pt mask _ i aH qt;rw[nA i _ g7 ho,tZ]at gV;rw[(ct r _ gV).2]
   have:=((ih (by omega)).put ho (fun j oj d hj fW hd kq=>by
    have:=dJ.adk i _ g7 ho j oj (eE j _ hj.1) fW d hd kq
    subst this
    have:=hj.2
    omega)).same (E:=fun j=>mask[j]?=some false/\rk false mask j<r+1) (fun j=>by
     constructor
     ·rintro(⟨a1,a2⟩ | rfl)
      ·exact⟨a1,by omega⟩
      ·exact⟨qt,by omega⟩
     ·rintro⟨a1,a2⟩
      by_cases e:rk false mask j=r
      ·exact .inr (sL a1 qt (by omega))
      ·exact .inl ⟨a1,by omega⟩)
   rw[show ac6 r=ac6 (rk false mask i)by rw[tZ]]
   exact this
 have Wb:(ek mask (ops.toList.take k)).length=mask.count false:=rz _ _ aH;rw[Wb]at iK
 let SP:Nat->Prop:=fun j=>mask[j]?=some false
 let J:(Nat->Prop)->Act->World->Prop:=fun D a' W=>
  (S W/\(∀j,D j->j<k)/\∃(V:Nat->Value) (q:Nat) (A:Act),(∀j,mask[j]?=some false->V j=ac6 (rk false mask j))/\(∀j,mask[j]?=some true->(D j↔rk true mask j<q)) /\
   aN a ops V D a'/\aN a ops V (fun j=>mask[j]?=some false\/(mask[j]?=some true/\rk true mask j<q)) A /\
   bj P ops S (fun A W=>wpList P ops Q (ops.toList.drop k) A W) ((dD mask (ops.toList.take k)).drop q) A W) \/
  (∃m,k<=m/\m<=ops.size/\(∀j,j<ops.size->(D j↔j<m))/\wpList P ops Q (ops.toList.drop m) a' W)
 have Wd:(dD mask (ops.toList.take k)).length=mask.count true:=ry _ _ aH
 have rB:∀D a' W,J D a' W->(∀j,j<k->D j)->∃m,k<=m/\m<=ops.size/\(∀j,j<ops.size->(D j↔j<m))/\wpList P ops Q (ops.toList.drop m) a' W:=by
  intro D a' W hJ hD;rcases hJ with⟨hW,kt,V,q,A,hV,hT,ip,sN,vR⟩ | hJ
  ·have hq:mask.count true<=q:=by
    by_cases e:mask.count true<=q
    ·exact e
    ·obtain⟨i,qt,tZ⟩:=oe (b:=true) mask q (by omega)
     have:=(hT i qt).1 (hD i (eE i _ qt))
     omega
   have Ej:(dD mask (ops.toList.take k)).drop q=[]:=List.drop_eq_nil_of_le (by omega);rw[Ej]at vR
   have:a'=A:=ip.ext sN (fun j hj=>by
    constructor
    ·intro mc;obtain⟨b,hb⟩:=F3 j (kt j mc);cases b
     ·exact .inl hb
     ·exact .inr ⟨hb,(hT j hb).1 mc⟩
    ·rintro(hb | ⟨hb,_⟩) <;> exact hD j (eE j _ hb))
   subst this;exact⟨k,Nat.le_refl _,xR,fun j _=>⟨fun h=>kt j h,fun h=>hD j h⟩,vR⟩
  ·exact hJ
 refine gB hm dJ.back J (.inl ⟨bu,fun j hj=>hj.elim,fun j=>ac6 (rk false mask j),0,F (mask.count false),fun j _=>rfl,fun j _=>⟨fun h=>h.elim,fun h=>by omega⟩,⟨rfl,rfl,fun j _ _ hj=>hj.elim,fun _ _=>rfl⟩,?_,?_⟩) ?_ ?_
 ·exact(rA _ (Nat.le_refl _)).same (fun j=>by
   constructor
   ·rintro⟨a1,-⟩;exact .inl a1
   ·rintro(a1 | ⟨-,a2⟩)
    ·exact⟨a1,iE a1⟩
    ·omega)
 ·rw[List.drop_zero];exact iK
 ·intro D a' W i o hJ ho mz io qs;have dH:i<ops.size:=(Array.getElem?_eq_some_iff.1 ho).1
  by_cases g7:i<k
  ·-- one of the first k
   rcases hJ with⟨hW,kt,V,q,A,hV,hT,ip,sN,vR⟩ | ⟨m,h1,h2,h3,-⟩
   rotate_left
   ·exact absurd ((h3 i dH).2 (by omega)) mz
   have look:∀t∈o.looksAt ops,∀j oj,j<k->ops[j]?=some oj->oj.dst=some t->D j/\j∈bU o:=fun t ht j oj lJ fW hd=>by
    have:=dJ.looks i o g7 ho t ht j oj lJ fW hd
    exact⟨io j this,this⟩
   have sO:∀j oj d,D j->ops[j]?=some oj->o.dst=some d->oj.dst≠some d:=fun j oj d hj fW hd kq=>by
    have:=dJ.adk i o g7 ho j oj (kt j hj) fW d hd kq
    subst this;exact mz hj
   obtain⟨b,hb⟩:=F3 i g7
   cases b with
   | false=>
    have gV:=pt mask _ i aH hb;rw[nA i _ g7 ho]at gV;obtain⟨⟨hw,dO⟩,-⟩:=ct _ _ gV;have hr:=iE hb
    obtain⟨he,sP⟩:=eW (ops:=ops) (a':=a') (A:=F (rk false mask i)) (fun t ht=>(ip.adf (v':=V) (fun _ _ _=>rfl)).agree ((rA _ (Nat.le_of_lt hr)).ac6 (v':=V) (fun j hj=>(hV j hj.1).symm)) t (fun j oj hj fW hd=>by
     have lJ:j<k:=hj.elim (fun h=>kt j h) (fun h=>eE j _ h.1)
     obtain⟨d1,d2⟩:=look t ht j oj lJ fW hd;have J7:=chF i o j hb ho d2
     exact⟨d1,J7,vQ (dJ.back i o ho j d2) J7⟩)) (fun cs b=>dJ.adi i o cs b ho)
    rw[if_pos (sP.trans hw)];refine .inl ?_;unfold Oper.wp;rw[he,dO W hW];refine .inl ⟨hW,fun j hj=>hj.elim (fun h=>kt j h) (fun h=>by omega),V,q,A,hV,fun j hj=>?_,?_,sN,vR⟩
    ·rw[<- hT j hj];constructor
     ·rintro(h | rfl)
      ·exact h
      ·rw[hb]at hj;cases hj
     ·exact .inl
    ·have:=ip.put (i:=i) ho sO
     rwa [hV i hb]at this
   | true=>
    have hq:rk true mask i=q:=by
     have h1:¬rk true mask i<q:=fun h=>mz ((hT i hb).2 h)
     by_cases e:rk true mask i=q
     ·exact e
     ·obtain⟨j,tB,uF⟩:=oe (b:=true) mask q (by have:=iE hb;omega)
      have nV:j<i:=by
       rcases Nat.lt_trichotomy j i with h | h | h
       ·exact h
       ·subst h;omega
       ·have:=vQ h hb;omega
      have:=fg qs ho io (chT i j hb tB nV)
      have:=(hT j tB).1 this
      omega
    have gV:=uK mask _ i aH hb;rw[nA i _ g7 ho,hq]at gV;have F4:q<(dD mask (ops.toList.take k)).length:=(List.getElem?_eq_some_iff.1 gV).1;rw[List.drop_eq_getElem_cons F4,(List.getElem?_eq_some_iff.1 gV).2]at vR
    obtain⟨he,sP⟩:=eW (ops:=ops) (a':=a') (A:=A) (fun t ht=>ip.agree sN t (fun j oj hj fW hd=>by
     have lJ:j<k:=hj.elim (fun h=>kt j h) (fun h=>h.elim (eE j _) (fun h=>eE j _ h.1))
     obtain⟨d1,d2⟩:=look t ht j oj lJ fW hd;refine⟨d1,?_⟩;obtain⟨b,hb'⟩:=F3 j lJ;cases b
     ·exact .inl hb'
     ·exact .inr ⟨hb',(hT j hb').1 d1⟩)) (fun cs b=>dJ.adi i o cs b ho)
    have next:∀u W',S W'->bj P ops S (fun A W=>wpList P ops Q (ops.toList.drop k) A W) ((dD mask (ops.toList.take k)).drop (q+1)) (A.put o.dst u) W'->J (fun j=>D j\/j=i) (a'.put o.dst u) W':=by
     intro u W' hS ht
     let V':Nat->Value:=fun j=>if j=i then u else V j
     have e1:∀j,j≠i->V' j=V j:=fun j hj=>if_neg hj
     have e2:V' i=u:=if_pos rfl;refine .inl ⟨hS,fun j hj=>hj.elim (fun h=>kt j h) (fun h=>by omega),V',q+1,A.put o.dst u,fun j hj=>?_,fun j hj=>?_,?_,?_,ht⟩
     ·rw[e1 j (fun e=>by subst e;rw[hb]at hj;cases hj)];exact hV j hj
     ·constructor
      ·rintro(h | rfl)
       ·have:=(hT j hj).1 h;omega
       ·omega
      ·intro h
       by_cases e:rk true mask j=q
       ·exact .inr (sL hj hb (by omega))
       ·exact .inl ((hT j hj).2 (by omega))
     ·have:=(ip.adf (v':=V') (fun j _ hj=>(e1 j (fun e=>by subst e;exact mz hj)).symm)).put (i:=i) ho sO
      rwa [e2]at this
     ·have:=((sN.adf (v':=V') (fun j _ hj=>(e1 j (fun e=>by
       subst e;rcases hj with hj | ⟨-,hj⟩
       ·rw[hb]at hj;cases hj
       ·omega)).symm)).put (i:=i) ho (fun j oj d hj fW hd kq=>by
        have lJ:j<k:=hj.elim (eE j _) (fun h=>eE j _ h.1)
        have:=dJ.adk i o g7 ho j oj lJ fW d hd kq
        subst this;rcases hj with hj | ⟨-,hj⟩
        ·rw[hb]at hj;cases hj
        ·omega)).same (E:=fun j=>mask[j]?=some false\/(mask[j]?=some true/\rk true mask j<q+1)) (fun j=>by
        constructor
        ·rintro((h | ⟨h,h'⟩) | rfl)
         ·exact .inl h
         ·exact .inr ⟨h,by omega⟩
         ·exact .inr ⟨hb,by omega⟩
        ·rintro(h | ⟨h,h'⟩)
         ·exact .inl (.inl h)
         ·by_cases e:rk true mask j=q
          ·exact .inr (sL h hb (by omega))
          ·exact .inl (.inr ⟨h,by omega⟩))
      rwa [e2]at this
    rcases vR with⟨hw,dO⟩ | ⟨hw,dO⟩
    ·rw[if_pos (sP.trans hw)];refine .inl ?_;unfold Oper.wp;rw[he]
     generalize (execOp A.eval o).run P W=r at dO ⊢
     cases r with
     | ok nx W'=>
      cases nx with
      | value u=>exact next u W' dO.1 dO.2
      | skip=>exact next undef W' dO.1 dO.2
      | row row args=>exact Rows.mono dO fun u kM h=>next u kM h.1 h.2
      | enter f args=>
       simp only[Oper.upon]
       exact Calls.mono dO fun e kM ⟨u,x6,h3,h4⟩=>by subst x6;exact next u kM h3 h4
      | _=>exact dO.elim
     | halt x W'=>exact dO.elim
    ·rw[if_neg (by rw[sP.trans hw];simp)]
     exact next _ _ hW dO
  ·-- the tail
   have bH:∀j,j<i->D j:=fun j hj=>fg qs ho io (dJ.tail i (by omega) dH j hj)
   obtain⟨m,h1,h2,h3,h4⟩:=rB D a' W hJ (fun j hj=>bH j (by omega))
   have NU:m=i:=by
    by_cases e1:i<m
    ·exact absurd ((h3 i dH).2 e1) mz
    ·by_cases e2:m<i
     ·have:=(h3 m (by omega)).1 (bH m e2);omega
     ·omega
   subst NU
   have Jn:ops.toList.drop m=o::ops.toList.drop (m+1):=by
    have:m<ops.toList.length:=by simpa using dH
    rw[List.drop_eq_getElem_cons this];congr 1
    have:=(Array.getElem?_eq_some_iff.1 ho).2
    simpa using this
   rw[Jn]at h4;unfold wpList at h4
   have next:∀a W,wpList P ops Q (ops.toList.drop (m+1)) a W->J (fun j=>D j\/j=m) a W:=fun a W h=>.inr ⟨m+1,by omega,by omega,fun j hj=>by
    constructor
    ·rintro(h | rfl)
     ·have:=(h3 j hj).1 h;omega
     ·omega
    ·intro h
     by_cases e:j=m
     ·exact .inr e
     ·exact .inl ((h3 j hj).2 (by omega)),h⟩
   split
   ·rename_i hw
    rw[if_pos hw]at h4;exact h4.imp (Oper.wp_mono next) id
   ·rename_i hw
    rw[if_neg hw]at h4;exact next _ _ h4
 ·intro D a' W hJ bH;obtain⟨m,h1,h2,h3,h4⟩:=rB D a' W hJ (fun j hj=>bH j (by omega))
  have RG:m=ops.size:=by
   by_cases e:m<ops.size
   ·have:=(h3 m e).1 (bH m e);omega
   ·omega
  subst RG;rw[List.drop_eq_nil_of_le (by simp)]at h4;exact h4
theorem F5 {w0:World} {ew:Act->Prop}:∀(l:List Oper) (A:Act),ly P ops w0 ew l A->sM P ops (aa w0) ew l A
 | [],_,h=>h
 | _::l,_,⟨v,h1,h2⟩=>⟨v,h1,F5 l _ h2⟩
theorem el {Q:Exit->Act->World->Prop} {Ei:Nat} {a:Act} {w w0:World} (k:Nat) (mask:List Bool) (hm:P.follows .mixedOrders=true) (hc:zU ops k mask=true) (bu:aa w0 w)
  (h:ly P ops w0 (fun A=>bj P ops (aa w0) (fun A W=>wpList P ops Q (ops.toList.drop k) A W) (dD mask (ops.toList.take k)) A w.drew) (ek mask (ops.toList.take k)) a):(Code.region Ei ops true).wp P Q a w:=
 av (aa w0) k mask hm hc (ag bu) (F5 _ _ h)
theorem vS {w0:World} {ew We:Act->Prop} (hf:∀A,ew A->We A):∀(l:List Oper) (A:Act),ly P ops w0 ew l A->ly P ops w0 We l A
 | [],A,h=>hf A h
 | _::l,_,⟨v,h1,h2⟩=>⟨v,h1,vS hf l _ h2⟩
theorem fh {Q:Exit->Act->World->Prop} {Ei:Nat} {a:Act} {w w0:World} (k:Nat) (mask:List Bool) (hm:P.follows .mixedOrders=true) (hc:zU ops k mask=true) (bu:aa w0 w)
  (h:ly P ops w0 (fun A=>∀W,aa w0 W->bj P ops (aa w0) (fun A W=>wpList P ops Q (ops.toList.drop k) A W) (dD mask (ops.toList.take k)) A W) (ek mask (ops.toList.take k)) a):(Code.region Ei ops true).wp P Q a w:=
 el k mask hm hc bu (vS (fun _ h=>h _ (ag bu)) _ _ h)
end
section
variable {P : Program} {ops : Array Oper}
def kg {α:Type} (c:Nat):List Nat->List α->List α
 | x::m,o::l=>if x=c then o::kg c m l else kg c m l
 | [],_=>[]
 | _::_,[]=>[]
def iU (b:Nat) (m:List Nat) (i:Nat):Nat:=(m.take i).count b
theorem rC {α:Type} (c:Nat):∀(m:List Nat) (l:List α) (i:Nat),m.length=l.length->m[i]?=some c->(kg c m l)[iU c m i]?=l[i]?
 | [],_,i,_,h=>by simp at h
 | x::m,o::l,0,_,h=>by simp at h;subst h;simp[iU,kg]
 | x::m,o::l,i+1,hl,h=>by
  have:=rC c m l i (by simpa using hl) (by simpa using h)
  unfold kg
  split
  ·rename_i e;subst e;simpa[iU]using this
  ·rename_i e;simpa[iU,List.count_cons_of_ne e]using this
theorem rD {α:Type} (c:Nat):∀(m:List Nat) (l:List α),m.length=l.length->(kg c m l).length=m.count c
 | [],[],_=>rfl
 | x::m,o::l,hl=>by
  have:=rD c m l (by simpa using hl)
  unfold kg
  split
  ·rename_i e;subst e;simp[this]
  ·rename_i e;simp[List.count_cons_of_ne e,this]
theorem J8 {b:Nat} {m:List Nat} {i:Nat} {x:Nat} (h:m[i]?=some x):iU b m (i+1)=iU b m i+if x=b then 1 else 0:=by
 obtain⟨hi,rfl⟩:=List.getElem?_eq_some_iff.1 h;unfold iU;rw[List.take_succ_eq_append_getElem hi,List.count_append];congr 1
 simp[List.count_cons]
theorem RH {b:Nat} {m:List Nat} {i j:Nat} (h:i<=j):iU b m i<=iU b m j:=by
 unfold iU;exact List.Sublist.count_le _ (List.IsPrefix.sublist (List.take_prefix_take_left h))
theorem sQ {b:Nat} {m:List Nat} {i j:Nat} (h:i<j) (hi:m[i]?=some b):iU b m i<iU b m j:=by
 have h1:=J8 (b:=b) hi;rw[if_pos rfl]at h1
 have:=RH (b:=b) (m:=m) (show i+1<=j from h)
 omega
theorem rE {b:Nat} {m:List Nat} {i j:Nat} (hi:m[i]?=some b) (hj:m[j]?=some b) (h:iU b m i=iU b m j):i=j:=by
 rcases Nat.lt_trichotomy i j with hl | hl | hl
 ·have:=sQ hl hi;omega
 ·exact hl
 ·have:=sQ hl hj;omega
theorem gG {b:Nat} {m:List Nat} {i:Nat} (hi:m[i]?=some b):iU b m i<m.count b:=by
 have h1:=sQ (Nat.lt_of_lt_of_le (List.getElem?_eq_some_iff.1 hi).1 (Nat.le_refl m.length)) hi
 unfold iU at h1 ⊢
 rw[List.take_length]at h1;exact h1
theorem mJ {b:Nat}:∀(m:List Nat) (q:Nat),q<m.count b->∃i:Nat,m[i]?=some b/\iU b m i=q
 | [],q,h=>by simp at h
 | x::m,q,h=>by
  by_cases hx:x=b
  ·subst hx
   cases q with
   | zero=>exact⟨0,by simp,by simp[iU]⟩
   | succ q=>
    obtain⟨i,h1,h2⟩:=mJ m q (by simpa using h)
    exact ⟨i + 1, by simpa using h1, by have : iU x (x :: m) (i + 1) = iU x m i + 1 := by simp [iU]
                                        omega⟩
  ·obtain⟨i,h1,h2⟩:=mJ m q (by rwa [List.count_cons_of_ne hx]at h)
   exact ⟨i + 1, by simpa using h1, by have : iU b (x :: m) (i + 1) = iU b m i := by simp [iU, List.count_cons_of_ne hx]
                                       omega⟩
def rF (P:Program) (ops:Array Oper) (ew:Act->World->Prop):List Oper->Act->World->Prop
 | [],A,W=>ew A W
 | o::rest,A,W=>∀W1,aa W W1 ->
  (Region.wanted o (yielded ops A.tmps)=true/\match (execOp A.eval o).run P W1 with
   | .ok (.value u) W2=>aa W1 W2/\rF P ops ew rest (A.put o.dst u) W2
   | .ok (.enter f args) W2=>Calls P f args W2 fun e W3=>∃u,e=.returned u/\aa W1 W3/\rF P ops ew rest (A.put o.dst u) W3
   | _=>False)
theorem rF.since {ew:Act->World->Prop} (iK:∀A W W',ew A W->aa W W'->ew A W'):∀(l:List Oper) (A:Act) (W W':World),rF P ops ew l A W->aa W W'->rF P ops ew l A W'
 | [],A,W,W',h,hs=>iK A W W' h hs
 | _::_,_,_,_,h,hs=>fun W1 h1=>h W1 (hs.after h1)
def aM (ops:Array Oper):List Nat->(Nat->Value)->Act->Act
 | [],_,A=>A
 | j::r,us,A=>aM ops r us (match ops[j]? with | none=>A | some o=>A.put o.dst (us j))
def sR (c:Nat) (mask:List Nat):List Nat:=(List.range mask.length).filter fun i=>mask.getD i 99==c
def Qf (ops:Array Oper) (k:Nat) (mask:List Nat):Bool:=
 ra ops k&&decide (mask.length=k)&&decide (k<=ops.size)&&(mask.all fun x=>decide (x<=3)) &&
 (List.range k).all fun i=>match ops[i]? with
  | none=>true
  | some o=>
   let c:=mask.getD i 99
   let up:=(iQ ops (i+1)).getD i []
   if c=0 then (bU o).all fun j=>mask.getD j 99==0
   else if c=1 then ((bU o).all fun j=>mask.getD j 99==0||mask.getD j 99==1)&&(List.range i).all fun j => !(mask.getD j 99==1)||up.contains j
   else if c=2 then (bU o).all fun j=>mask.getD j 99==0
   else ((List.range k).all fun j => !(mask.getD j 99==1||mask.getD j 99==2)||up.contains j)&&(List.range i).all fun j => !(mask.getD j 99==3)||up.contains j
def RI (P:Program) (ops:Array Oper) (w0:World) (R:Nat->World->Value->Prop) (A:Act) (j:Nat):Prop:=
 ∀o,ops[j]?=some o->Region.wanted o (yielded ops A.tmps)=true/\∀W,aa w0 W->rg P (R j) o A W
theorem ku {a:Act} {k:Nat} (hd:∀i o,i<k->ops[i]?=some o->∀j oj,j<k->ops[j]?=some oj->∀d,o.dst=some d->oj.dst=some d->j=i) (hk:k<=ops.size) (V:Nat->Value):∀(l:List Nat) (D:Nat->Prop) (A:Act),(∀j,D j->j<k)->(∀j∈l,j<k/\¬D j)->l.Nodup->aN a ops V D A->aN a ops V (fun j=>D j\/j∈l) (aM ops l V A)
 | [],D,A,_,_,_,h=>h.same (fun j=>by simp)
 | j::r,D,A,hD,hl,hn,h=>by
  have hj:=hl j (by simp);have UX:j<ops.size:=by omega
  have ho:ops[j]?=some ops[j]:=Array.getElem?_eq_getElem UX
  have h1:=h.put ho (fun j' oj d mc fW yN kq=>by
   have:=hd j _ hj.1 ho j' oj (hD j' mc) fW d yN kq
   subst this
   exact hj.2 mc)
  have hn':=List.nodup_cons.1 hn
  have:=ku hd hk V r (fun x=>D x\/x=j) _ (fun x hx=>hx.elim (hD x) (fun e=>by omega)) (fun x hx=>⟨(hl x (List.mem_cons_of_mem _ hx)).1,fun e=>e.elim (hl x (List.mem_cons_of_mem _ hx)).2 (fun e=>by subst e;exact hn'.1 hx)⟩) hn'.2 h1
  unfold aM;rw[ho];exact this.same (fun x=>by simp[or_assoc])
theorem oh {Q:Exit->Act->World->Prop} {Ei:Nat} {a:Act} {w w0:World} (k:Nat) (mask:List Nat) (R:Nat->World->Value->Prop) (hR:∀j W W' u,R j W u->aa W W'->R j W' u) (hm:P.follows .mixedOrders=true) (hc:Qf ops k mask=true) (bu:aa w0 w)
  (h:ly P ops w0 (fun A=>(∀j∈sR 2 mask,RI P ops w0 R A j)/\∀W,aa w0 W->rF P ops (fun A W=>∀(us:Nat->Value) W1,aa W W1->(∀j∈sR 2 mask,R j W1 (us j))->bj P ops (aa w0) (fun A W=>wpList P ops Q (ops.toList.drop k) A W) (kg 3 mask (ops.toList.take k)) (aM ops (sR 2 mask) us A) W1) (kg 1 mask (ops.toList.take k)) A W) (kg 0 mask (ops.toList.take k)) a):(Code.region Ei ops true).wp P Q a w:=by
 unfold Qf at hc;simp only[Bool.and_eq_true,decide_eq_true_eq]at hc;obtain⟨⟨⟨⟨hf,J6⟩,xR⟩,fF⟩,RF⟩:=hc;have dJ:=ph hf
 have aH:mask.length=(ops.toList.take k).length:=by simp;omega
 have F3:∀i,i<k->∃b,mask[i]?=some b/\b<=3:=fun i hi=>⟨_,List.getElem?_eq_getElem (by omega),by simpa using List.all_eq_true.1 fF _ (List.getElem_mem (by omega))⟩
 have nA:∀i o,i<k->ops[i]?=some o->(ops.toList.take k)[i]?=some o:=fun i o hi ho=>by
  rw[List.getElem?_take,if_pos hi];simpa using ho
 have uc:∀i b,mask[i]?=some b->mask.getD i 99=b:=fun i b hb=>by rw[zDd,hb];rfl
 have eE:∀i b,mask[i]?=some b->i<k:=fun i b hb=>by have:=(List.getElem?_eq_some_iff.1 hb).1;omega
 have NU:∀j c,j∈sR c mask↔mask[j]?=some c/\c≠99\/(c=99/\j∈sR c mask):=fun j c=>by
  by_cases Wf:c=99
  ·simp[Wf]
  ·simp only[Wf,ne_eq,not_false_eq_true,and_true,false_and,or_false];unfold sR;rw[List.mem_filter,List.mem_range];constructor
   ·rintro⟨h1,h2⟩;rw[zDd,List.getElem?_eq_getElem h1]at h2;rw[List.getElem?_eq_getElem h1];simpa using h2
   ·intro h1
    exact⟨(List.getElem?_eq_some_iff.1 h1).1,by rw[uc j c h1];simp⟩
 have tZ:∀j,j∈sR 2 mask↔mask[j]?=some 2:=fun j=>by rw[NU j 2];simp
 have row:∀i o,i<k->ops[i]?=some o->_:=fun i o hi ho=>by
  have:=List.all_eq_true.1 RF i (List.mem_range.2 hi)
  simp only[ho]at this;exact this
 have md0:∀i j o c,i<k->ops[i]?=some o->j∈bU o->(mask.getD j 99==c)=true->mask[j]?=some c:=fun i j o c hi ho hj hd=>by
  have lJ:j<k:=by have:=dJ.back i o ho j hj;omega
  obtain⟨b,hb,-⟩:=F3 j lJ;rw[uc j b hb]at hd
  rw[hb];simpa using hd
 have c0:∀i o j,mask[i]?=some 0->ops[i]?=some o->j∈bU o->mask[j]?=some 0:=fun i o j hi ho hj=>by
  have g7:=eE i _ hi
  have:=row i o g7 ho
  simp only[uc i _ hi,if_true]at this;exact md0 i j o 0 g7 ho hj (List.all_eq_true.1 this j hj)
 have c1:∀i o j,mask[i]?=some 1->ops[i]?=some o->j∈bU o->mask[j]?=some 0\/mask[j]?=some 1:=fun i o j hi ho hj=>by
  have g7:=eE i _ hi
  have:=row i o g7 ho
  simp only[uc i _ hi,Nat.one_ne_zero,if_false,if_true,Bool.and_eq_true]at this;have h1:=List.all_eq_true.1 this.1 j hj;rw[Bool.or_eq_true]at h1;exact h1.imp (md0 i j o 0 g7 ho hj) (md0 i j o 1 g7 ho hj)
 have c2:∀i o j,mask[i]?=some 2->ops[i]?=some o->j∈bU o->mask[j]?=some 0:=fun i o j hi ho hj=>by
  have g7:=eE i _ hi
  have:=row i o g7 ho
  simp only[uc i _ hi,show ¬(2:Nat)=0 by decide,show ¬(2:Nat)=1 by decide,if_false,if_true]at this
  exact md0 i j o 0 g7 ho hj (List.all_eq_true.1 this j hj)
 have ch1:∀i j,mask[i]?=some 1->mask[j]?=some 1->j<i->Jk ops j i:=fun i j hi hj nV=>by
  have g7:=eE i _ hi
  have:=row i _ g7 (Array.getElem?_eq_getElem (by omega))
  simp only[uc i _ hi,Nat.one_ne_zero,if_false,if_true,Bool.and_eq_true]at this
  have:=List.all_eq_true.1 this.2 j (List.mem_range.2 nV)
  rw[uc j _ hj]at this;exact eT (i+1) i j (by simpa using this)
 have ch3:∀i j,mask[i]?=some 3->(mask[j]?=some 1\/mask[j]?=some 2\/(mask[j]?=some 3/\j<i))->Jk ops j i:=fun i j hi hj=>by
  have g7:=eE i _ hi
  have:=row i _ g7 (Array.getElem?_eq_getElem (by omega))
  simp only[uc i _ hi,show ¬(3:Nat)=0 by decide,show ¬(3:Nat)=1 by decide,show ¬(3:Nat)=2 by decide,if_false,Bool.and_eq_true]at this
  rcases hj with hj | hj | ⟨hj,nV⟩
  ·have:=List.all_eq_true.1 this.1 j (List.mem_range.2 (eE j _ hj))
   rw[uc j _ hj]at this;exact eT (i+1) i j (by simpa using this)
  ·have:=List.all_eq_true.1 this.1 j (List.mem_range.2 (eE j _ hj))
   rw[uc j _ hj]at this;exact eT (i+1) i j (by simpa using this)
  ·have:=List.all_eq_true.1 this.2 j (List.mem_range.2 nV)
   rw[uc j _ hj]at this;exact eT (i+1) i j (by simpa using this)
 obtain⟨ac6,F,h0,⟨Qg,iK⟩,ct⟩:=rf _ a h
 have rA:∀r,r<=mask.count 0->aN a ops (fun j=>ac6 (iU 0 mask j)) (fun j=>mask[j]?=some 0/\iU 0 mask j<r) (F r):=by
  intro r
  induction r with
  | zero=>intro _;rw[h0];exact⟨rfl,rfl,fun j _ _ hj=>by have:=hj.2;omega,fun _ _=>rfl⟩
  | succ r ih=>
   intro hr;obtain⟨i,qt,tZ⟩:=mJ (b:=0) mask r (by omega);have g7:=eE i _ qt;have ho:ops[i]?=some ops[i]:=Array.getElem?_eq_getElem (by omega);have gV:=rC 0 mask _ i aH qt;rw[nA i _ g7 ho,tZ]at gV;rw[(ct r _ gV).2]
   have:=((ih (by omega)).put ho (fun j oj d hj fW hd kq=>by
    have:=dJ.adk i _ g7 ho j oj (eE j _ hj.1) fW d hd kq
    subst this
    have:=hj.2
    omega)).same (E:=fun j=>mask[j]?=some 0/\iU 0 mask j<r+1) (fun j=>by
     constructor
     ·rintro(⟨a1,a2⟩ | rfl)
      ·exact⟨a1,by omega⟩
      ·exact⟨qt,by omega⟩
     ·rintro⟨a1,a2⟩
      by_cases e:iU 0 mask j=r
      ·exact .inr (rE a1 qt (by omega))
      ·exact .inl ⟨a1,by omega⟩)
   rw[show ac6 r=ac6 (iU 0 mask i)by rw[tZ]]
   exact this
 have Wb:(kg 0 mask (ops.toList.take k)).length=mask.count 0:=rD _ _ _ aH;rw[Wb]at iK Qg;have jN:(kg 1 mask (ops.toList.take k)).length=mask.count 1:=rD _ _ _ aH;have Qh:(kg 3 mask (ops.toList.take k)).length=mask.count 3:=rD _ _ _ aH
 let J9:Act->World->Prop:=fun A W=>∀(us:Nat->Value) W1,aa W W1->(∀j∈sR 2 mask,R j W1 (us j))->bj P ops (aa w0) (fun A W=>wpList P ops Q (ops.toList.drop k) A W) (kg 3 mask (ops.toList.take k)) (aM ops (sR 2 mask) us A) W1
 have Wg:∀A W W',J9 A W->aa W W'->J9 A W':=fun A W W' h hs us W1 h1=>h us W1 (hs.after h1)
 let J:(Nat->Prop)->Act->World->Prop:=fun D a' W=>
  (aa w0 W/\(∀j,D j->j<k)/\(∀j,mask[j]?=some 3->¬D j)/\∃(V:Nat->Value) (q:Nat) (A:Act),(∀j,mask[j]?=some 0->V j=ac6 (iU 0 mask j))/\(∀j,mask[j]?=some 1->(D j↔iU 1 mask j<q)) /\
   (∀j,mask[j]?=some 2->D j->R j W (V j))/\aN a ops V D a'/\aN a ops V (fun j=>mask[j]?=some 0\/(mask[j]?=some 1/\iU 1 mask j<q)) A /\
   rF P ops J9 ((kg 1 mask (ops.toList.take k)).drop q) A W) \/
  (aa w0 W/\(∀j,D j->j<k)/\(∀j,mask[j]?=some 1\/mask[j]?=some 2->D j)/\∃(V:Nat->Value) (q:Nat) (A:Act),(∀j,mask[j]?=some 0->V j=ac6 (iU 0 mask j))/\(∀j,mask[j]?=some 3->(D j↔iU 3 mask j<q)) /\
   aN a ops V D a'/\aN a ops V (fun j=>mask[j]?=some 0\/mask[j]?=some 1\/mask[j]?=some 2\/(mask[j]?=some 3/\iU 3 mask j<q)) A /\
   bj P ops (aa w0) (fun A W=>wpList P ops Q (ops.toList.drop k) A W) ((kg 3 mask (ops.toList.take k)).drop q) A W) \/
  (∃m,k<=m/\m<=ops.size/\(∀j,j<ops.size->(D j↔j<m))/\wpList P ops Q (ops.toList.drop m) a' W)
 have adF:∀D a' W,J D a' W->(∀j,mask[j]?=some 1\/mask[j]?=some 2->D j)->(∀j,D j->j<k) ->
   (aa w0 W/\∃(V:Nat->Value) (q:Nat) (A:Act),(∀j,mask[j]?=some 0->V j=ac6 (iU 0 mask j))/\(∀j,mask[j]?=some 3->(D j↔iU 3 mask j<q)) /\
   aN a ops V D a'/\aN a ops V (fun j=>mask[j]?=some 0\/mask[j]?=some 1\/mask[j]?=some 2\/(mask[j]?=some 3/\iU 3 mask j<q)) A /\
   bj P ops (aa w0) (fun A W=>wpList P ops Q (ops.toList.drop k) A W) ((kg 3 mask (ops.toList.take k)).drop q) A W)\/∃m,k<=m/\m<=ops.size/\(∀j,j<ops.size->(D j↔j<m))/\wpList P ops Q (ops.toList.drop m) a' W:=by
  intro D a' W hJ hD NV;rcases hJ with⟨hW,kt,h3,V,q,A,hV,hT,hU,ip,sN,NW⟩ | ⟨hW,kt,-,hJ⟩ | hJ
  ·have hq:mask.count 1<=q:=by
    by_cases e:mask.count 1<=q
    ·exact e
    ·obtain⟨i,qt,tZ⟩:=mJ (b:=1) mask q (by omega)
     have:=(hT i qt).1 (hD i (.inl qt))
     omega
   have Ej:(kg 1 mask (ops.toList.take k)).drop q=[]:=List.drop_eq_nil_of_le (by omega);rw[Ej]at NW;have aav:J9 A W:=NW;have vR:=aav V W (ad _) (fun j hj=>hU j ((tZ j).1 hj) (hD j (.inr ((tZ j).1 hj))))
   refine .inl ⟨hW,V,0,aM ops (sR 2 mask) V A,hV,fun j hj=>⟨fun h=>absurd h (h3 j hj),fun h=>by omega⟩,ip,?_,by rw[List.drop_zero];exact vR⟩
   have:=ku (a:=a) dJ.adk xR V (sR 2 mask) _ A (fun j hj=>hj.elim (fun h=>eE j _ h) (fun h=>eE j _ h.1)) (fun j hj=>⟨eE j _ ((tZ j).1 hj),fun e=>by
    have h2:=(tZ j).1 hj
    rcases e with e | ⟨e,-⟩ <;> rw[h2]at e <;> cases e⟩) (List.Pairwise.filter _ List.nodup_range) sN
   exact this.same (fun j=>by
    rw[tZ];constructor
    ·rintro((h | ⟨h,-⟩) | h)
     ·exact .inl h
     ·exact .inr (.inl h)
     ·exact .inr (.inr (.inl h))
    ·rintro(h | h | h | ⟨-,h⟩)
     ·exact .inl (.inl h)
     ·exact .inl (.inr ⟨h,by have:=gG h;omega⟩)
     ·exact .inr h
     ·omega)
  ·exact .inl ⟨hW,hJ⟩
  ·exact .inr hJ
 have rB:∀D a' W,J D a' W->(∀j,j<k->D j)->∃m,k<=m/\m<=ops.size/\(∀j,j<ops.size->(D j↔j<m))/\wpList P ops Q (ops.toList.drop m) a' W:=by
  intro D a' W hJ hD
  by_cases kt:∀j,D j->j<k
  ·rcases adF D a' W hJ (fun j hj=>hD j (hj.elim (eE j _) (eE j _))) kt with⟨hW,V,q,A,hV,hT,ip,sN,vR⟩ | hJ
   ·have hq:mask.count 3<=q:=by
     by_cases e:mask.count 3<=q
     ·exact e
     ·obtain⟨i,qt,tZ⟩:=mJ (b:=3) mask q (by omega)
      have:=(hT i qt).1 (hD i (eE i _ qt))
      omega
    have Ej:(kg 3 mask (ops.toList.take k)).drop q=[]:=List.drop_eq_nil_of_le (by omega);rw[Ej]at vR
    have:a'=A:=ip.ext sN (fun j hj=>by
     constructor
     ·intro mc;obtain⟨b,hb,aG⟩:=F3 j (kt j mc)
      have:b=0\/b=1\/b=2\/b=3:=by omega
      rcases this with rfl | rfl | rfl | rfl
      ·exact .inl hb
      ·exact .inr (.inl hb)
      ·exact .inr (.inr (.inl hb))
      ·exact .inr (.inr (.inr ⟨hb,(hT j hb).1 mc⟩))
     ·rintro(hb | hb | hb | ⟨hb,_⟩) <;> exact hD j (eE j _ hb))
    subst this;exact⟨k,Nat.le_refl _,xR,fun j _=>⟨fun h=>kt j h,fun h=>hD j h⟩,vR⟩
   ·exact hJ
  ·rcases hJ with⟨-,NV,-⟩ | ⟨-,NV,-⟩ | hJ
   ·exact absurd NV kt
   ·exact absurd NV kt
   ·exact hJ
 refine gB hm dJ.back J (.inl ⟨ag bu,fun j hj=>hj.elim,fun j _ hj=>hj.elim,fun j=>ac6 (iU 0 mask j),0,F (mask.count 0),fun j _=>rfl,fun j _=>⟨fun h=>h.elim,fun h=>by omega⟩,fun j _ hj=>hj.elim,⟨rfl,rfl,fun j _ _ hj=>hj.elim,fun _ _=>rfl⟩,?_,?_⟩) ?_ ?_
 ·exact(rA _ (Nat.le_refl _)).same (fun j=>by
   constructor
   ·rintro⟨a1,-⟩;exact .inl a1
   ·rintro(a1 | ⟨-,a2⟩)
    ·exact⟨a1,gG a1⟩
    ·omega)
 ·rw[List.drop_zero];exact iK _ (ag bu)
 ·intro D a' W i o hJ ho mz io qs;have dH:i<ops.size:=(Array.getElem?_eq_some_iff.1 ho).1
  by_cases g7:i<k
  ·have kt:∀j,D j->j<k:=by
    rcases hJ with⟨-,h,-⟩ | ⟨-,h,-⟩ | ⟨m,h1,h2,h3,-⟩
    ·exact h
    ·exact h
    ·exact absurd ((h3 i dH).2 (by omega)) mz
   have J_:∀j,(D j\/j=i)->j<k:=fun j hj=>hj.elim (kt j) (fun e=>by omega)
   have NX:∀ {p:Prop},(∃m,k<=m/\m<=ops.size/\(∀j,j<ops.size->(D j↔j<m))/\wpList P ops Q (ops.toList.drop m) a' W)->p:=fun ⟨m,h1,h2,h3,_⟩=>absurd ((h3 i dH).2 (by omega)) mz
   have look:∀t∈o.looksAt ops,∀j oj,j<k->ops[j]?=some oj->oj.dst=some t->D j/\j∈bU o:=fun t ht j oj lJ fW hd=>by
    have:=dJ.looks i o g7 ho t ht j oj lJ fW hd
    exact⟨io j this,this⟩
   have sO:∀(E:Nat->Prop),(∀j,E j->j<k)->¬E i->∀j oj d,E j->ops[j]?=some oj->o.dst=some d->oj.dst≠some d:=fun E hE RJ j oj d hj fW hd kq=>by
    have:=dJ.adk i o g7 ho j oj (hE j hj) fW d hd kq
    subst this;exact RJ hj
   obtain⟨b,hb,aG⟩:=F3 i g7;have hb':b=0\/b=1\/b=2\/b=3:=by omega
   have Ka:∀j c,mask[j]?=some c->c≠b->j≠i:=fun j c hj hc e=>by subst e;rw[hb]at hj;cases hj;exact hc rfl
   rcases hb' with rfl | rfl | rfl | rfl
   ·-- a read
    have gV:=rC 0 mask _ i aH hb;rw[nA i _ g7 ho]at gV;obtain⟨⟨hw,dO⟩,-⟩:=ct _ _ gV;have hr:=gG hb
    have ts:∀V:Nat->Value,(∀j,mask[j]?=some 0->V j=ac6 (iU 0 mask j))->aN a ops V D a'->execOp a'.eval o=execOp (F (iU 0 mask i)).eval o/\Region.wanted o (yielded ops a'.tmps)=Region.wanted o (yielded ops (F (iU 0 mask i)).tmps):=fun V hV ip=>
     eW (ops:=ops) (a':=a') (A:=F (iU 0 mask i)) (fun t ht=>ip.agree ((rA _ (Nat.le_of_lt hr)).ac6 (v':=V) (fun j hj=>(hV j hj.1).symm)) t (fun j oj hj fW hd=>by
      have lJ:j<k:=hj.elim (fun h=>kt j h) (fun h=>eE j _ h.1)
      obtain⟨d1,d2⟩:=look t ht j oj lJ fW hd;have J7:=c0 i o j hb ho d2
      exact⟨d1,J7,sQ (dJ.back i o ho j d2) J7⟩)) (fun cs b=>dJ.adi i o cs b ho)
    have Wh:∀V:Nat->Value,(∀j,mask[j]?=some 0->V j=ac6 (iU 0 mask j))->aN a ops V D a'->aN a ops V (fun j=>D j\/j=i) (a'.put o.dst (ac6 (iU 0 mask i))):=fun V hV ip=>by
     have:=ip.put (i:=i) ho (sO D kt mz)
     rwa [hV i hb]at this
    have dd:∀j c,c≠0->mask[j]?=some c->((D j\/j=i)↔D j):=fun j c hc hj=>⟨fun h=>h.elim id (fun e=>absurd e (Ka j c hj hc)),.inl⟩
    rcases hJ with⟨hW,-,h3,V,q,A,hV,hT,hU,ip,sN,NW⟩ | ⟨hW,-,ko,V,q,A,hV,hT,ip,sN,vR⟩ | hJ
    ·obtain⟨he,sP⟩:=ts V hV ip;rw[if_pos (sP.trans hw)];refine .inl ?_;unfold Oper.wp;rw[he,dO W hW];exact .inl ⟨hW,J_,fun j hj h=>h3 j hj ((dd j 3 (by decide) hj).1 h),V,q,A,hV,fun j hj=>(dd j 1 (by decide) hj).trans (hT j hj),fun j hj h=>hU j hj ((dd j 2 (by decide) hj).1 h),Wh V hV ip,sN,NW⟩
    ·obtain⟨he,sP⟩:=ts V hV ip;rw[if_pos (sP.trans hw)];refine .inl ?_;unfold Oper.wp;rw[he,dO W hW];exact .inr (.inl ⟨hW,J_,fun j hj=>.inl (ko j hj),V,q,A,hV,fun j hj=>(dd j 3 (by decide) hj).trans (hT j hj),Wh V hV ip,sN,vR⟩)
    ·exact NX hJ
   ·-- the first chain
    rcases hJ with⟨hW,-,h3,V,q,A,hV,hT,hU,ip,sN,NW⟩ | ⟨hW,-,ko,-⟩ | hJ
    rotate_left
    ·exact absurd (ko i (.inl hb)) mz
    ·exact NX hJ
    have hq:iU 1 mask i=q:=by
     have h1:¬iU 1 mask i<q:=fun h=>mz ((hT i hb).2 h)
     by_cases e:iU 1 mask i=q
     ·exact e
     ·obtain⟨j,tB,uF⟩:=mJ (b:=1) mask q (by have:=gG hb;omega)
      have nV:j<i:=by
       rcases Nat.lt_trichotomy j i with h | h | h
       ·exact h
       ·subst h;omega
       ·have:=sQ h hb;omega
      have:=fg qs ho io (ch1 i j hb tB nV)
      have:=(hT j tB).1 this
      omega
    have gV:=rC 1 mask _ i aH hb;rw[nA i _ g7 ho,hq]at gV;have F4:q<(kg 1 mask (ops.toList.take k)).length:=(List.getElem?_eq_some_iff.1 gV).1;rw[List.drop_eq_getElem_cons F4,(List.getElem?_eq_some_iff.1 gV).2]at NW
    obtain⟨he,sP⟩:=eW (ops:=ops) (a':=a') (A:=A) (fun t ht=>ip.agree sN t (fun j oj hj fW hd=>by
     have lJ:j<k:=hj.elim (fun h=>kt j h) (fun h=>h.elim (eE j _) (fun h=>eE j _ h.1))
     obtain⟨d1,d2⟩:=look t ht j oj lJ fW hd;refine⟨d1,?_⟩;rcases c1 i o j hb ho d2 with hb' | hb'
     ·exact .inl hb'
     ·exact .inr ⟨hb',(hT j hb').1 d1⟩)) (fun cs b=>dJ.adi i o cs b ho)
    have next:∀u W',aa W W'->rF P ops J9 ((kg 1 mask (ops.toList.take k)).drop (q+1)) (A.put o.dst u) W'->J (fun j=>D j\/j=i) (a'.put o.dst u) W':=by
     intro u W' hS ht
     let V':Nat->Value:=fun j=>if j=i then u else V j
     have e1:∀j,j≠i->V' j=V j:=fun j hj=>if_neg hj
     have e2:V' i=u:=if_pos rfl;refine .inl ⟨hW.after hS,J_,fun j hj h=>h.elim (h3 j hj) (Ka j 3 hj (by decide)),V',q+1,A.put o.dst u,fun j hj=>?_,fun j hj=>?_,fun j hj h=>?_,?_,?_,ht⟩
     ·rw[e1 j (Ka j 0 hj (by decide))];exact hV j hj
     ·constructor
      ·rintro(h | rfl)
       ·have:=(hT j hj).1 h;omega
       ·omega
      ·intro h
       by_cases e:iU 1 mask j=q
       ·exact .inr (rE hj hb (by omega))
       ·exact .inl ((hT j hj).2 (by omega))
     ·rw[e1 j (Ka j 2 hj (by decide))];exact hR j W W' _ (hU j hj (h.elim id (fun e=>absurd e (Ka j 2 hj (by decide))))) hS
     ·have:=(ip.adf (v':=V') (fun j _ hj=>(e1 j (fun e=>by subst e;exact mz hj)).symm)).put (i:=i) ho (sO D kt mz)
      rwa [e2]at this
     ·have RJ:¬(mask[i]?=some 0\/(mask[i]?=some 1/\iU 1 mask i<q)):=by
       rintro(h | ⟨-,h⟩)
       ·rw[hb]at h;cases h
       ·omega
      have:=((sN.adf (v':=V') (fun j _ hj=>(e1 j (fun e=>by subst e;exact RJ hj)).symm)).put (i:=i) ho (sO _ (fun j hj=>hj.elim (eE j _) (fun h=>eE j _ h.1)) RJ)).same (E:=fun j=>mask[j]?=some 0\/(mask[j]?=some 1/\iU 1 mask j<q+1)) (fun j=>by
        constructor
        ·rintro((h | ⟨h,h'⟩) | rfl)
         ·exact .inl h
         ·exact .inr ⟨h,by omega⟩
         ·exact .inr ⟨hb,by omega⟩
        ·rintro(h | ⟨h,h'⟩)
         ·exact .inl (.inl h)
         ·by_cases e:iU 1 mask j=q
          ·exact .inr (rE h hb (by omega))
          ·exact .inl (.inr ⟨h,by omega⟩))
      rwa [e2]at this
    obtain⟨hw,dO⟩:=NW W (ad _);rw[if_pos (sP.trans hw)];refine .inl ?_;unfold Oper.wp;rw[he]
    generalize (execOp A.eval o).run P W=r at dO ⊢
    cases r with
    | ok nx W'=>
     cases nx with
     | value u=>exact next u W' dO.1 dO.2
     | enter f args=>
      simp only[Oper.upon]
      exact Calls.mono dO fun e kM ⟨u,x6,h3,h4⟩=>by subst x6;exact next u kM h3 h4
     | _=>exact dO.elim
    | halt x W'=>exact dO.elim
   ·-- a free one
    rcases hJ with⟨hW,-,h3,V,q,A,hV,hT,hU,ip,sN,NW⟩ | ⟨hW,-,ko,-⟩ | hJ
    rotate_left
    ·exact absurd (ko i (.inr hb)) mz
    ·exact NX hJ
    obtain⟨hw,Ch⟩:=Qg i ((tZ i).2 hb) o ho
    obtain⟨he,sP⟩:=eW (ops:=ops) (a':=a') (A:=F (mask.count 0)) (fun t ht=>ip.agree ((rA _ (Nat.le_refl _)).ac6 (v':=V) (fun j hj=>(hV j hj.1).symm)) t (fun j oj hj fW hd=>by
     have lJ:j<k:=hj.elim (fun h=>kt j h) (fun h=>eE j _ h.1)
     obtain⟨d1,d2⟩:=look t ht j oj lJ fW hd;have J7:=c2 i o j hb ho d2
     exact⟨d1,J7,gG J7⟩)) (fun cs b=>dJ.adi i o cs b ho)
    have next:∀u W',R i W' u->aa W W'->J (fun j=>D j\/j=i) (a'.put o.dst u) W':=by
     intro u W' hr hS
     let V':Nat->Value:=fun j=>if j=i then u else V j
     have e1:∀j,j≠i->V' j=V j:=fun j hj=>if_neg hj
     have e2:V' i=u:=if_pos rfl;refine .inl ⟨hW.after hS,J_,fun j hj h=>h.elim (h3 j hj) (Ka j 3 hj (by decide)),V',q,A,fun j hj=>?_,fun j hj=>?_,fun j hj h=>?_,?_,?_,rF.since Wg _ _ _ _ NW hS⟩
     ·rw[e1 j (Ka j 0 hj (by decide))];exact hV j hj
     ·rw[<- hT j hj];exact⟨fun h=>h.elim id (fun e=>absurd e (Ka j 1 hj (by decide))),.inl⟩
     ·by_cases e:j=i
      ·subst e;rw[e2];exact hr
      ·rw[e1 j e];exact hR j W W' _ (hU j hj (h.elim id (fun e'=>absurd e' e))) hS
     ·have:=(ip.adf (v':=V') (fun j _ hj=>(e1 j (fun e=>by subst e;exact mz hj)).symm)).put (i:=i) ho (sO D kt mz)
      rwa [e2]at this
     ·exact sN.adf (fun j _ hj=>(e1 j (by
       rcases hj with hj | ⟨hj,-⟩
       ·exact Ka j 0 hj (by decide)
       ·exact Ka j 1 hj (by decide))).symm)
    rw[if_pos (sP.trans hw)];refine .inl ?_;unfold Oper.wp;rw[he];have Ch:=Ch W hW;unfold rg at Ch
    generalize (execOp (F (mask.count 0)).eval o).run P W=r at Ch ⊢
    cases r with
    | ok nx W'=>
     cases nx with
     | value u'=>exact next u' W' Ch.1 Ch.2
     | enter f args=>
      simp only[Oper.upon]
      exact Calls.mono Ch fun e kM ⟨u,x6,h3,h4⟩=>by subst x6;exact next u kM h3 h4
     | _=>exact Ch.elim
    | halt x W'=>exact Ch.elim
   ·-- the chain behind
    have ko:∀j,mask[j]?=some 1\/mask[j]?=some 2->D j:=fun j hj=>fg qs ho io (ch3 i j hb (hj.elim .inl (fun h=>.inr (.inl h))))
    rcases adF D a' W hJ ko kt with⟨hW,V,q,A,hV,hT,ip,sN,vR⟩ | hJ'
    rotate_left
    ·exact NX hJ'
    have hq:iU 3 mask i=q:=by
     have h1:¬iU 3 mask i<q:=fun h=>mz ((hT i hb).2 h)
     by_cases e:iU 3 mask i=q
     ·exact e
     ·obtain⟨j,tB,uF⟩:=mJ (b:=3) mask q (by have:=gG hb;omega)
      have nV:j<i:=by
       rcases Nat.lt_trichotomy j i with h | h | h
       ·exact h
       ·subst h;omega
       ·have:=sQ h hb;omega
      have:=fg qs ho io (ch3 i j hb (.inr (.inr ⟨tB,nV⟩)))
      have:=(hT j tB).1 this
      omega
    have gV:=rC 3 mask _ i aH hb;rw[nA i _ g7 ho,hq]at gV;have F4:q<(kg 3 mask (ops.toList.take k)).length:=(List.getElem?_eq_some_iff.1 gV).1;rw[List.drop_eq_getElem_cons F4,(List.getElem?_eq_some_iff.1 gV).2]at vR
    obtain⟨he,sP⟩:=eW (ops:=ops) (a':=a') (A:=A) (fun t ht=>ip.agree sN t (fun j oj hj fW hd=>by
     have lJ:j<k:=hj.elim (fun h=>kt j h) (fun h=>h.elim (eE j _) (fun h=>h.elim (eE j _) (fun h=>h.elim (eE j _) (fun h=>eE j _ h.1))))
     obtain⟨d1,d2⟩:=look t ht j oj lJ fW hd;refine⟨d1,?_⟩;obtain⟨b,hb',qy⟩:=F3 j lJ
     have:b=0\/b=1\/b=2\/b=3:=by omega
     rcases this with rfl | rfl | rfl | rfl
     ·exact .inl hb'
     ·exact .inr (.inl hb')
     ·exact .inr (.inr (.inl hb'))
     ·exact .inr (.inr (.inr ⟨hb',(hT j hb').1 d1⟩)))) (fun cs b=>dJ.adi i o cs b ho)
    have next:∀u W',aa w0 W'->bj P ops (aa w0) (fun A W=>wpList P ops Q (ops.toList.drop k) A W) ((kg 3 mask (ops.toList.take k)).drop (q+1)) (A.put o.dst u) W'->J (fun j=>D j\/j=i) (a'.put o.dst u) W':=by
     intro u W' hS ht
     let V':Nat->Value:=fun j=>if j=i then u else V j
     have e1:∀j,j≠i->V' j=V j:=fun j hj=>if_neg hj
     have e2:V' i=u:=if_pos rfl;refine .inr (.inl ⟨hS,J_,fun j hj=>.inl (ko j hj),V',q+1,A.put o.dst u,fun j hj=>?_,fun j hj=>?_,?_,?_,ht⟩)
     ·rw[e1 j (Ka j 0 hj (by decide))];exact hV j hj
     ·constructor
      ·rintro(h | rfl)
       ·have:=(hT j hj).1 h;omega
       ·omega
      ·intro h
       by_cases e:iU 3 mask j=q
       ·exact .inr (rE hj hb (by omega))
       ·exact .inl ((hT j hj).2 (by omega))
     ·have:=(ip.adf (v':=V') (fun j _ hj=>(e1 j (fun e=>by subst e;exact mz hj)).symm)).put (i:=i) ho (sO D kt mz)
      rwa [e2]at this
     ·have RJ:¬(mask[i]?=some 0\/mask[i]?=some 1\/mask[i]?=some 2\/(mask[i]?=some 3/\iU 3 mask i<q)):=by
       rintro(h | h | h | ⟨-,h⟩)
       ·rw[hb]at h;cases h
       ·rw[hb]at h;cases h
       ·rw[hb]at h;cases h
       ·omega
      have:=((sN.adf (v':=V') (fun j _ hj=>(e1 j (fun e=>by subst e;exact RJ hj)).symm)).put (i:=i) ho (sO _ (fun j hj=>hj.elim (eE j _) (fun h=>h.elim (eE j _) (fun h=>h.elim (eE j _) (fun h=>eE j _ h.1)))) RJ)).same (E:=fun j=>mask[j]?=some 0\/mask[j]?=some 1\/mask[j]?=some 2\/(mask[j]?=some 3/\iU 3 mask j<q+1)) (fun j=>by
        constructor
        ·rintro((h | h | h | ⟨h,h'⟩) | rfl)
         ·exact .inl h
         ·exact .inr (.inl h)
         ·exact .inr (.inr (.inl h))
         ·exact .inr (.inr (.inr ⟨h,by omega⟩))
         ·exact .inr (.inr (.inr ⟨hb,by omega⟩))
        ·rintro(h | h | h | ⟨h,h'⟩)
         ·exact .inl (.inl h)
         ·exact .inl (.inr (.inl h))
         ·exact .inl (.inr (.inr (.inl h)))
         ·by_cases e:iU 3 mask j=q
          ·exact .inr (rE h hb (by omega))
          ·exact .inl (.inr (.inr (.inr ⟨h,by omega⟩))))
      rwa [e2]at this
    rcases vR with⟨hw,dO⟩ | ⟨hw,dO⟩
    ·rw[if_pos (sP.trans hw)];refine .inl ?_;unfold Oper.wp;rw[he]
     generalize (execOp A.eval o).run P W=r at dO ⊢
     cases r with
     | ok nx W'=>
      cases nx with
      | value u=>exact next u W' dO.1 dO.2
      | skip=>exact next undef W' dO.1 dO.2
      | row row args=>exact Rows.mono dO fun u kM h=>next u kM h.1 h.2
      | enter f args=>
       simp only[Oper.upon]
       exact Calls.mono dO fun e kM ⟨u,x6,h3,h4⟩=>by subst x6;exact next u kM h3 h4
      | _=>exact dO.elim
     | halt x W'=>exact dO.elim
    ·rw[if_neg (by rw[sP.trans hw];simp)]
     exact next _ _ hW dO
  ·-- the tail
   have bH:∀j,j<i->D j:=fun j hj=>fg qs ho io (dJ.tail i (by omega) dH j hj)
   obtain⟨m,h1,h2,h3,h4⟩:=rB D a' W hJ (fun j hj=>bH j (by omega))
   have NU:m=i:=by
    by_cases e1:i<m
    ·exact absurd ((h3 i dH).2 e1) mz
    ·by_cases e2:m<i
     ·have:=(h3 m (by omega)).1 (bH m e2);omega
     ·omega
   subst NU
   have Jn:ops.toList.drop m=o::ops.toList.drop (m+1):=by
    have:m<ops.toList.length:=by simpa using dH
    rw[List.drop_eq_getElem_cons this];congr 1
    have:=(Array.getElem?_eq_some_iff.1 ho).2
    simpa using this
   rw[Jn]at h4;unfold wpList at h4
   have next:∀a W,wpList P ops Q (ops.toList.drop (m+1)) a W->J (fun j=>D j\/j=m) a W:=fun a W h=>.inr (.inr ⟨m+1,by omega,by omega,fun j hj=>by
    constructor
    ·rintro(h | rfl)
     ·have:=(h3 j hj).1 h;omega
     ·omega
    ·intro h
     by_cases e:j=m
     ·exact .inr e
     ·exact .inl ((h3 j hj).2 (by omega)),h⟩)
   split
   ·rename_i hw
    rw[if_pos hw]at h4;exact h4.imp (Oper.wp_mono next) id
   ·rename_i hw
    rw[if_neg hw]at h4;exact next _ _ h4
 ·intro D a' W hJ bH;obtain⟨m,h1,h2,h3,h4⟩:=rB D a' W hJ (fun j hj=>bH j (by omega))
  have RG:m=ops.size:=by
   by_cases e:m<ops.size
   ·have:=(h3 m e).1 (bH m e);omega
   ·omega
  subst RG;rw[List.drop_eq_nil_of_le (by simp)]at h4;exact h4
end
theorem iF {P:Program} {ops:Array Oper} {w0:World} {ew:Act->World->Prop} {o:Oper} {rest:List Oper} {A:Act} {W:World} {ob:Obj} {v:Value} (hw:Region.wanted o (yielded ops A.tmps)=true) (h:(execOp A.eval o).run P W=.ok (.value v) (W.alloc ob)) (hS:aa w0 W)
  (hr:∀W',W'=W.alloc ob->aa w0 W'->bj P ops (aa w0) ew rest (A.put o.dst v) W'):bj P ops (aa w0) ew (o::rest) A W:=
 y5 hw h (ae _ hS) (hr _ rfl (ae _ hS))
end Go.Proofs.YtnioemnkfojmkaaGreat
