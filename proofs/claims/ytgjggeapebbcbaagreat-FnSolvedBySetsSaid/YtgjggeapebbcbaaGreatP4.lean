/- Parts of the proof: walks of functions and plain laws. -/
import Derived.Test.YtgjggeapebbcbaaGreatP0
import Derived.Test.YtgjggeapebbcbaaGreatP1
set_option maxRecDepth 100000
set_option maxHeartbeats 16000000
namespace Go.Proofs.YtgjggeapebbcbaaGreat
open Go Go.RowKit
section
variable {P : Program} {ops : Array Oper}
theorem yw {Q:Exit->Act->World->Prop} (iJ:∀i o,ops[i]?=some o->∀j∈aV o,j<i) (J:(Nat->Prop)->Act->World->Prop)
  (ib:∀(D:Nat->Prop) a w i o,J D a w->ops[i]?=some o->¬D i->(∀d∈aV o,D d)->(∀i o,D i->ops[i]?=some o->∀d∈aV o,D d) ->
   if Region.wanted o (yielded ops a.tmps)=true then Oper.wp P o a w (J (fun j=>D j\/j=i)) Q\/(o.asks P a w/\LetsOut Q) else J (fun j=>D j\/j=i) (a.put o.dst undef) w)
  (DB:∀(D:Nat->Prop) a w,J D a w->(∀i,i<ops.size->D i)->Q .normal a w):
  ∀(hG:Nat) (an:Array Bool) (a:Act) (W:World),an.size=ops.size->(∀i o,an.getD i false=true->ops[i]?=some o->∀j∈aV o,an.getD j false=true) ->
   ((List.range ops.size).filter fun j => !an.getD j false).length<=hG->J (fun j=>an.getD j false=true) a W->wpAny P .any ops Q hG an a W:=by
 have J3:∀(an:Array Bool),an.size=ops.size->Region.ready .any ops an=[]->∀m,∀j,j<=m->j<ops.size->an.getD j false=true:=by
  intro an dM uT m
  induction m using Nat.strongRecOn with
  | ind m ihm=>
   intro j Tg JO;refine Classical.byContradiction fun IU=>?_
   have IU:an.getD j false=false:=by cases hb:an.getD j false <;> simp_all
   have me:j∈Region.ready .any ops an:=dD.2 ⟨by rw[gG (by omega)];exact IU,ops[j],Array.getElem?_eq_getElem JO,fun d hd=>by
    have V7:=iJ j _ (Array.getElem?_eq_getElem JO) d hd
    exact ihm d (by omega) d (Nat.le_refl _) (by omega)⟩
   rw[uT]at me;simp at me
 intro hG
 induction hG with
 | zero=>
  intro an a W dM nR Gf hJ
  have bF:∀j,j<ops.size->an.getD j false=true:=fun j hj=>by
   rcases hb:an.getD j false with _ | _
   ·have:0<((List.range ops.size).filter fun j => !an.getD j false).length:=List.length_pos_of_mem (List.mem_filter.2 ⟨List.mem_range.2 hj,by simp[hb]⟩)
    omega
   ·rfl
  refine⟨List.eq_nil_iff_forall_not_mem.2 fun i hi=>?_,DB _ a W hJ bF⟩
  obtain⟨h0,o,ho,_⟩:=dD.1 hi;have dY:i<ops.size:=(Array.getElem?_eq_some_iff.1 ho).1;rw[gG (by omega),bF i dY]at h0;cases h0
 | succ hG ih=>
  intro an a W dM nR Gf hJ;refine⟨fun uT=>DB _ a W hJ fun j hj=>J3 an dM uT j j (Nat.le_refl _) hj,fun i hi=>?_⟩
  obtain⟨h0,o,ho,hO⟩:=dD.1 hi;have dY:i<ops.size:=(Array.getElem?_eq_some_iff.1 ho).1;rw[gG (by omega)]at h0
  have fe:∀j,(an.setIfInBounds i true).getD j false=true↔(an.getD j false=true\/j=i):=fun j=>by
   by_cases kK:i=j
   ·subst kK;simp[dM,dY]
   ·rw[getD_set_ne false kK];constructor
    ·exact .inl
    ·rintro(h | h)
     ·exact h
     ·exact absurd h.symm kK
  have hD:(fun j=>(an.setIfInBounds i true).getD j false=true)=fun j=>an.getD j false=true\/j=i:=funext fun j=>propext (fe j)
  have next:∀a W,J (fun j=>an.getD j false=true\/j=i) a W->wpAny P .any ops Q hG (an.setIfInBounds i true) a W:=fun a W hJ'=>by
   refine ih _ a W (by simpa using dM) (fun i' o' kd sc j hj=>?_) ?_ (by rw[hD];exact hJ')
   ·rcases(fe i').1 kd with h | rfl
    ·exact(fe j).2 (.inl (nR i' o' h sc j hj))
    ·rw[ho]at sc;cases sc
     exact(fe j).2 (.inl (hO j hj))
   ·have OK:=filter_lt (l:=List.range ops.size) (p:=fun j => !an.getD j false) (q:=fun j => !(an.setIfInBounds i true).getD j false) (fun x hx=>by
     cases hb:an.getD x false
     ·rfl
     ·have:=(fe x).2 (.inl hb)
      simp only[this]at hx
      cases hx) (List.mem_range.2 dY) (by simp only[h0];rfl) (by simp only[(fe i).2 (.inr rfl)];rfl)
    omega
  have:=ib (fun j=>an.getD j false=true) a W i o hJ ho (by rw[h0];simp) hO nR
  unfold wpOp;simp only[ho]
  split
  ·rename_i hw
   rw[if_pos hw]at this;exact this.imp (Oper.wp_mono next) id
  ·rename_i hw
   rw[if_neg hw]at this;exact next _ _ this
theorem gK {Q:Exit->Act->World->Prop} {id:Nat} {a:Act} {w:World} (hm:P.follows .mixedOrders=true) (iJ:∀i o,ops[i]?=some o->∀j∈aV o,j<i) (J:(Nat->Prop)->Act->World->Prop)
  (h0:J (fun _=>False) a w.drew)
  (ib:∀(D:Nat->Prop) a w i o,J D a w->ops[i]?=some o->¬D i->(∀d∈aV o,D d)->(∀i o,D i->ops[i]?=some o->∀d∈aV o,D d) ->
   if Region.wanted o (yielded ops a.tmps)=true then Oper.wp P o a w (J (fun j=>D j\/j=i)) Q\/(o.asks P a w/\LetsOut Q) else J (fun j=>D j\/j=i) (a.put o.dst undef) w)
  (DB:∀(D:Nat->Prop) a w,J D a w->(∀i,i<ops.size->D i)->Q .normal a w):(Code.region id ops true).wp P Q a w:=by
 refine wp_region_any hm ?_
 refine yw (P:=P) (Q:=Q) iJ J ib DB ops.size (Array.replicate ops.size false) a w.drew (by simp) (fun i o hi=>by rw[iD]at hi;cases hi) ?_ ?_
 ·have:=List.length_filter_le (fun j => !(Array.replicate ops.size false).getD j false) (List.range ops.size)
  simpa using this
 ·have:(fun j=>(Array.replicate ops.size false).getD j false=true)=fun _=>False:=funext fun j=>propext ⟨(fun h=>by rw[iD]at h;cases h),fun h=>h.elim⟩
  rw[this];exact h0
def b8 {α:Type}:List Bool->List α->List α
 | true::m,o::l=>o::b8 m l
 | false::m,_::l=>b8 m l
 | [],_=>[]
 | _::_,[]=>[]
def df {α:Type}:List Bool->List α->List α
 | true::m,_::l=>df m l
 | false::m,o::l=>o::df m l
 | [],_=>[]
 | _::_,[]=>[]
def rk (b:Bool) (m:List Bool) (i:Nat):Nat:=(m.take i).count b
theorem nU {α:Type}:∀(m:List Bool) (l:List α) (i:Nat),m.length=l.length->m[i]?=some true->(b8 m l)[rk true m i]?=l[i]?
 | [],_,i,_,h=>by simp at h
 | true::m,o::l,0,_,_=>by simp[rk,b8]
 | true::m,o::l,i+1,hl,h=>by
  have:=nU m l i (by simpa using hl) (by simpa using h)
  simpa[rk,b8]using this
 | false::m,o::l,0,_,h=>by simp at h
 | false::m,o::l,i+1,hl,h=>by
  have:=nU m l i (by simpa using hl) (by simpa using h)
  simpa[rk,b8]using this
theorem km {α:Type}:∀(m:List Bool) (l:List α) (i:Nat),m.length=l.length->m[i]?=some false->(df m l)[rk false m i]?=l[i]?
 | [],_,i,_,h=>by simp at h
 | false::m,o::l,0,_,_=>by simp[rk,df]
 | false::m,o::l,i+1,hl,h=>by
  have:=km m l i (by simpa using hl) (by simpa using h)
  simpa[rk,df]using this
 | true::m,o::l,0,_,h=>by simp at h
 | true::m,o::l,i+1,hl,h=>by
  have:=km m l i (by simpa using hl) (by simpa using h)
  simpa[rk,df]using this
theorem lA {α:Type}:∀(m:List Bool) (l:List α),m.length=l.length->(b8 m l).length=m.count true
 | [],[],_=>rfl
 | true::m,o::l,hl=>by simp[b8,lA m l (by simpa using hl)]
 | false::m,o::l,hl=>by simp[b8,lA m l (by simpa using hl)]
theorem lB {α:Type}:∀(m:List Bool) (l:List α),m.length=l.length->(df m l).length=m.count false
 | [],[],_=>rfl
 | true::m,o::l,hl=>by simp[df,lB m l (by simpa using hl)]
 | false::m,o::l,hl=>by simp[df,lB m l (by simpa using hl)]
theorem DC {b:Bool} {m:List Bool} {i:Nat} {x:Bool} (h:m[i]?=some x):rk b m (i+1)=rk b m i+if x=b then 1 else 0:=by
 obtain⟨hi,rfl⟩:=List.getElem?_eq_some_iff.1 h;unfold rk;rw[List.take_succ_eq_append_getElem hi,List.count_append];congr 1
 simp[List.count_cons]
theorem J4 {b:Bool} {m:List Bool} {i j:Nat} (h:i<=j):rk b m i<=rk b m j:=by
 unfold rk;exact List.Sublist.count_le _ (List.IsPrefix.sublist (List.take_prefix_take_left h))
theorem oM {b:Bool} {m:List Bool} {i j:Nat} (h:i<j) (hi:m[i]?=some b):rk b m i<rk b m j:=by
 have h1:=DC (b:=b) hi;rw[if_pos rfl]at h1
 have:=J4 (b:=b) (m:=m) (show i+1<=j from h)
 omega
theorem mr {b:Bool} {m:List Bool} {i j:Nat} (hi:m[i]?=some b) (hj:m[j]?=some b) (h:rk b m i=rk b m j):i=j:=by
 rcases Nat.lt_trichotomy i j with hl | hl | hl
 ·have:=oM hl hi;omega
 ·exact hl
 ·have:=oM hl hj;omega
theorem fc {b:Bool} {m:List Bool} {i:Nat} (hi:m[i]?=some b):rk b m i<m.count b:=by
 have h1:=oM (Nat.lt_of_lt_of_le (List.getElem?_eq_some_iff.1 hi).1 (Nat.le_refl m.length)) hi
 unfold rk at h1 ⊢
 rw[List.take_length]at h1;exact h1
theorem jN {b:Bool}:∀(m:List Bool) (q:Nat),q<m.count b->∃i:Nat,m[i]?=some b/\rk b m i=q
 | [],q,h=>by simp at h
 | x::m,q,h=>by
  by_cases hx:x=b
  ·subst hx
   cases q with
   | zero=>exact⟨0,by simp,by simp[rk]⟩
   | succ q=>
    obtain⟨i,h1,h2⟩:=jN m q (by simpa using h)
    exact ⟨i + 1, by simpa using h1, by have : rk x (x :: m) (i + 1) = rk x m i + 1 := by simp [rk]
                                        omega⟩
  ·obtain⟨i,h1,h2⟩:=jN m q (by rwa [List.count_cons_of_ne hx]at h)
   exact ⟨i + 1, by simpa using h1, by have : rk b (x :: m) (i + 1) = rk b m i := by simp [rk, List.count_cons_of_ne hx]
                                       omega⟩
def aQ (P:Program) (ops:Array Oper) (S:World->Prop) (bV:Act->World->Prop):List Oper->Act->World->Prop
 | [],A,W=>bV A W
 | o::rest,A,W=>
  (Region.wanted o (yielded ops A.tmps)=true/\match (execOp A.eval o).run P W with
   | .ok (.value u) W'=>S W'/\aQ P ops S bV rest (A.put o.dst u) W'
   | .ok .skip W'=>S W'/\aQ P ops S bV rest (A.put o.dst undef) W'
   | .ok (.row row args) W'=>Rows P row args W' fun v kc=>S kc/\aQ P ops S bV rest (A.put o.dst v) kc
   | .ok (.enter f args) W'=>Calls P f args W' fun e kc=>∃u,e=.returned u/\S kc/\aQ P ops S bV rest (A.put o.dst u) kc
   | _=>False)\/(Region.wanted o (yielded ops A.tmps)=false/\aQ P ops S bV rest (A.put o.dst undef) W)
theorem fP {S:World->Prop} {bV:Act->World->Prop} {o:Oper} {rest:List Oper} {A:Act} {W:World} {v:Value} (hw:Region.wanted o (yielded ops A.tmps)=true) (h:(execOp A.eval o).run P W=.ok (.value v) W) (hS:S W)
  (hr:aQ P ops S bV rest (A.put o.dst v) W):aQ P ops S bV (o::rest) A W:=.inl ⟨hw,by rw[h];exact⟨hS,hr⟩⟩
theorem qO {S:World->Prop} {bV:Act->World->Prop} {o:Oper} {rest:List Oper} {A:Act} {W W':World} {v:Value} (hw:Region.wanted o (yielded ops A.tmps)=true) (h:(execOp A.eval o).run P W=.ok (.value v) W') (hS:S W')
  (hr:aQ P ops S bV rest (A.put o.dst v) W'):aQ P ops S bV (o::rest) A W:=.inl ⟨hw,by rw[h];exact⟨hS,hr⟩⟩
theorem ci {S:World->Prop} {bV:Act->World->Prop} {o:Oper} {rest:List Oper} {A:Act} {W:World}
  (h:∀Q':Exit->Act->World->Prop,(∀u W',S W'->aQ P ops S bV rest (A.put o.dst u) W'->Q' .normal (A.put o.dst u) W')->wpList P ops Q' [o] A W):aQ P ops S bV (o::rest) A W:=by
 have h1:=h (fun x a w=>x=.normal/\a.defers=A.defers/\S w/\aQ P ops S bV rest a w) (fun u W' hS ht=>⟨rfl,by cases o.dst <;> rfl,hS,ht⟩)
 unfold wpList at h1;unfold aQ
 split at h1
 ·rename_i hw
  refine .inl ⟨hw,?_⟩;rcases h1 with h1 | ⟨-,a',w',h1,-⟩
  ·unfold Oper.wp at h1
   generalize (execOp A.eval o).run P W=r at h1 ⊢
   cases r with
   | ok nx W'=>
    cases nx with
    | value u=>exact h1.2.2
    | skip=>exact h1.2.2
    | row row args=>exact Rows.mono h1 fun u kc h=>h.2.2
    | enter f args=>
     simp only[Oper.upon]at h1;refine Calls.mono h1 fun e kc h2=>?_
     cases e with
     | returned v=>exact⟨v,rfl,h2.2.2⟩
     | panicked c=>exact absurd h2.1 (by simp)
     | outgrown=>obtain⟨a',w',h3,-⟩:=h2;cases h3
    | defer d=>
     have:=h1.2.1
     simp only[Act.put]at this;have hl:=congrArg List.length this
     cases hd:o.dst <;> simp[hd]at hl
    | _=>exact h1.elim
   | halt x W'=>cases x <;> first | exact absurd h1.1 (by simp) | exact h1.elim
  ·cases h1
 ·rename_i hw
  exact .inr ⟨by simpa using hw,h1.2.2.2⟩
def rB (ops:Array Oper) (k:Nat) (mask:List Bool):Bool:=
 qA ops k&&decide (mask.length=k)&&decide (k<=ops.size) &&
 (List.range k).all fun i=>match ops[i]? with
  | none=>true
  | some o=>if mask.getD i true then (List.range i).all fun j => !mask.getD j true||((fk ops (i+1)).getD i []).contains j
   else (aV o).all fun j => !mask.getD j true
def ms (P:Program) (ops:Array Oper) (S:World->Prop) (bV:Act->Prop):List Oper->Act->Prop
 | [],A=>bV A
 | o::rest,A=>∃v,(Region.wanted o (yielded ops A.tmps)=true/\∀W,S W->(execOp A.eval o).run P W=.ok (.value v) W)/\ms P ops S bV rest (A.put o.dst v)
theorem aU {S:World->Prop} {bV:Act->Prop} {o:Oper} {rest:List Oper} {A:Act} {v:Value} (hw:Region.wanted o (yielded ops A.tmps)=true) (h:∀W,S W->(execOp A.eval o).run P W=.ok (.value v) W)
  (hr:ms P ops S bV rest (A.put o.dst v)):ms P ops S bV (o::rest) A:=⟨v,⟨hw,h⟩,hr⟩
theorem p_ {S:World->Prop} {bV:Act->Prop} (l:List Oper):∀(A:Act),ms P ops S bV l A ->
  ∃(aae:Nat->Value) (F:Nat->Act),F 0=A/\bV (F l.length)/\∀i o,l[i]?=some o->(Region.wanted o (yielded ops (F i).tmps)=true/\∀W,S W->(execOp (F i).eval o).run P W=.ok (.value (aae i)) W)/\F (i+1)=(F i).put o.dst (aae i):=by
 induction l with
 | nil=>intro A h;exact⟨fun _=>undef,fun _=>A,rfl,h,fun i o h=>by simp at h⟩
 | cons o l ih=>
  intro A h;obtain⟨v,hs,hf⟩:=h;obtain⟨aae,F,h0,fM,ib⟩:=ih _ hf;refine⟨fun i=>match i with | 0=>v | i+1=>aae i,fun i=>match i with | 0=>A | i+1=>F i,rfl,fM,?_⟩
  intro i o' hi
  cases i with
  | zero=>simp at hi;subst hi;exact⟨hs,h0⟩
  | succ i=>exact ib i o' (by simpa using hi)
theorem ar {Q:Exit->Act->World->Prop} {DD:Nat} {a:Act} {w:World} (S:World->Prop) (k:Nat) (mask:List Bool) (hm:P.follows .mixedOrders=true) (hc:rB ops k mask=true) (aX:S w.drew)
  (h:ms P ops S (fun A=>aQ P ops S (fun A W=>wpList P ops Q (ops.toList.drop k) A W) (b8 mask (ops.toList.take k)) A w.drew) (df mask (ops.toList.take k)) a):(Code.region DD ops true).wp P Q a w:=by
 unfold rB at hc;simp only[Bool.and_eq_true,decide_eq_true_eq]at hc;obtain⟨⟨⟨hf,C6⟩,Fh⟩,Gt⟩:=hc;have dR:=nQ hf
 have aH:mask.length=(ops.toList.take k).length:=by simp;omega
 have sV:∀i,i<k->∃b,mask[i]?=some b:=fun i hi=>⟨_,List.getElem?_eq_getElem (by omega)⟩
 have i8:∀i o,i<k->ops[i]?=some o->(ops.toList.take k)[i]?=some o:=fun i o hi ho=>by
  rw[List.getElem?_take,if_pos hi];simpa using ho
 have mX:∀i b,mask[i]?=some b->mask.getD i true=b:=fun i b hb=>by rw[zDd,hb];rfl
 have bY:∀i b,mask[i]?=some b->i<k:=fun i b hb=>by have:=(List.getElem?_eq_some_iff.1 hb).1;omega
 have O_:∀i j,mask[i]?=some true->mask[j]?=some true->j<i->zo ops j i:=fun i j hi hj kK=>by
  have fJ:=bY i _ hi;have ho:ops[i]?=some ops[i]:=Array.getElem?_eq_getElem (by omega)
  have:=List.all_eq_true.1 Gt i (List.mem_range.2 fJ)
  simp only[ho]at this;rw[if_pos (mX i _ hi)]at this
  have:=List.all_eq_true.1 this j (List.mem_range.2 kK)
  rw[mX j _ hj,Bool.not_true,Bool.false_or]at this;exact ch (i+1) i j (by simpa using this)
 have Pa:∀i o j,mask[i]?=some false->ops[i]?=some o->j∈aV o->mask[j]?=some false:=fun i o j hi ho hj=>by
  have fJ:=bY i _ hi;have kK:=dR.back i o ho j hj
  have:=List.all_eq_true.1 Gt i (List.mem_range.2 fJ)
  simp only[ho]at this
  rw[if_neg (by rw[mX i _ hi];simp)]at this
  have:=List.all_eq_true.1 this j hj
  obtain⟨b,hb⟩:=sV j (by omega);rw[mX j _ hb]at this
  cases b <;> simp_all
 obtain⟨aae,F,h0,fM,fY⟩:=p_ _ a h
 have lC:∀r,r<=mask.count false->aA a ops (fun j=>aae (rk false mask j)) (fun j=>mask[j]?=some false/\rk false mask j<r) (F r):=by
  intro r
  induction r with
  | zero=>intro _;rw[h0];exact⟨rfl,rfl,fun j _ _ hj=>by have:=hj.2;omega,fun _ _=>rfl⟩
  | succ r ih=>
   intro hr;obtain⟨i,kM,oy⟩:=jN (b:=false) mask r (by omega);have fJ:=bY i _ kM;have ho:ops[i]?=some ops[i]:=Array.getElem?_eq_getElem (by omega);have eC:=km mask _ i aH kM;rw[i8 i _ fJ ho,oy]at eC;rw[(fY r _ eC).2]
   have:=((ih (by omega)).put ho (fun j oj d hj eG hd gm=>by
    have:=dR.aaq i _ fJ ho j oj (bY j _ hj.1) eG d hd gm
    subst this
    have:=hj.2
    omega)).same (E:=fun j=>mask[j]?=some false/\rk false mask j<r+1) (fun j=>by
     constructor
     ·rintro(⟨a1,a2⟩ | rfl)
      ·exact⟨a1,by omega⟩
      ·exact⟨kM,by omega⟩
     ·rintro⟨a1,a2⟩
      by_cases e:rk false mask j=r
      ·exact .inr (mr a1 kM (by omega))
      ·exact .inl ⟨a1,by omega⟩)
   rw[show aae r=aae (rk false mask i)by rw[oy]]
   exact this
 have J5:(df mask (ops.toList.take k)).length=mask.count false:=lB _ _ aH;rw[J5]at fM
 let SP:Nat->Prop:=fun j=>mask[j]?=some false
 let J:(Nat->Prop)->Act->World->Prop:=fun D a' W=>
  (S W/\(∀j,D j->j<k)/\∃(V:Nat->Value) (q:Nat) (A:Act),(∀j,mask[j]?=some false->V j=aae (rk false mask j))/\(∀j,mask[j]?=some true->(D j↔rk true mask j<q)) /\
   aA a ops V D a'/\aA a ops V (fun j=>mask[j]?=some false\/(mask[j]?=some true/\rk true mask j<q)) A /\
   aQ P ops S (fun A W=>wpList P ops Q (ops.toList.drop k) A W) ((b8 mask (ops.toList.take k)).drop q) A W) \/
  (∃m,k<=m/\m<=ops.size/\(∀j,j<ops.size->(D j↔j<m))/\wpList P ops Q (ops.toList.drop m) a' W)
 have Wi:(b8 mask (ops.toList.take k)).length=mask.count true:=lA _ _ aH
 have sW:∀D a' W,J D a' W->(∀j,j<k->D j)->∃m,k<=m/\m<=ops.size/\(∀j,j<ops.size->(D j↔j<m))/\wpList P ops Q (ops.toList.drop m) a' W:=by
  intro D a' W hJ hD;rcases hJ with⟨hW,jO,V,q,A,hV,hT,fX,mu,oN⟩ | hJ
  ·have hq:mask.count true<=q:=by
    by_cases e:mask.count true<=q
    ·exact e
    ·obtain⟨i,kM,oy⟩:=jN (b:=true) mask q (by omega)
     have:=(hT i kM).1 (hD i (bY i _ kM))
     omega
   have vf:(b8 mask (ops.toList.take k)).drop q=[]:=List.drop_eq_nil_of_le (by omega);rw[vf]at oN
   have:a'=A:=fX.ext mu (fun j hj=>by
    constructor
    ·intro nP;obtain⟨b,hb⟩:=sV j (jO j nP);cases b
     ·exact .inl hb
     ·exact .inr ⟨hb,(hT j hb).1 nP⟩
    ·rintro(hb | ⟨hb,_⟩) <;> exact hD j (bY j _ hb))
   subst this;exact⟨k,Nat.le_refl _,Fh,fun j _=>⟨fun h=>jO j h,fun h=>hD j h⟩,oN⟩
  ·exact hJ
 refine gK hm dR.back J (.inl ⟨aX,fun j hj=>hj.elim,fun j=>aae (rk false mask j),0,F (mask.count false),fun j _=>rfl,fun j _=>⟨fun h=>h.elim,fun h=>by omega⟩,⟨rfl,rfl,fun j _ _ hj=>hj.elim,fun _ _=>rfl⟩,?_,?_⟩) ?_ ?_
 ·exact(lC _ (Nat.le_refl _)).same (fun j=>by
   constructor
   ·rintro⟨a1,-⟩;exact .inl a1
   ·rintro(a1 | ⟨-,a2⟩)
    ·exact⟨a1,fc a1⟩
    ·omega)
 ·rw[List.drop_zero];exact fM
 ·intro D a' W i o hJ ho nE hO nR;have dY:i<ops.size:=(Array.getElem?_eq_some_iff.1 ho).1
  by_cases fJ:i<k
  ·-- one of the first k
   rcases hJ with⟨hW,jO,V,q,A,hV,hT,fX,mu,oN⟩ | ⟨m,h1,h2,h3,-⟩
   rotate_left
   ·exact absurd ((h3 i dY).2 (by omega)) nE
   have look:∀t∈o.looksAt ops,∀j oj,j<k->ops[j]?=some oj->oj.dst=some t->D j/\j∈aV o:=fun t ht j oj jy eG hd=>by
    have:=dR.looks i o fJ ho t ht j oj jy eG hd
    exact⟨hO j this,this⟩
   have mw:∀j oj d,D j->ops[j]?=some oj->o.dst=some d->oj.dst≠some d:=fun j oj d hj eG hd gm=>by
    have:=dR.aaq i o fJ ho j oj (jO j hj) eG d hd gm
    subst this;exact nE hj
   obtain⟨b,hb⟩:=sV i fJ
   cases b with
   | false=>
    have eC:=km mask _ i aH hb;rw[i8 i _ fJ ho]at eC;obtain⟨⟨hw,bG⟩,-⟩:=fY _ _ eC;have hr:=fc hb
    obtain⟨he,oO⟩:=dE (ops:=ops) (a':=a') (A:=F (rk false mask i)) (fun t ht=>(fX.aaj (v':=V) (fun _ _ _=>rfl)).agree ((lC _ (Nat.le_of_lt hr)).aae (v':=V) (fun j hj=>(hV j hj.1).symm)) t (fun j oj hj eG hd=>by
     have jy:j<k:=hj.elim (fun h=>jO j h) (fun h=>bY j _ h.1)
     obtain⟨d1,d2⟩:=look t ht j oj jy eG hd;have Ak:=Pa i o j hb ho d2
     exact⟨d1,Ak,oM (dR.back i o ho j d2) Ak⟩)) (fun cs b=>dR.aam i o cs b ho)
    rw[if_pos (oO.trans hw)];refine .inl ?_;unfold Oper.wp;rw[he,bG W hW];refine .inl ⟨hW,fun j hj=>hj.elim (fun h=>jO j h) (fun h=>by omega),V,q,A,hV,fun j hj=>?_,?_,mu,oN⟩
    ·rw[<- hT j hj];constructor
     ·rintro(h | rfl)
      ·exact h
      ·rw[hb]at hj;cases hj
     ·exact .inl
    ·have:=fX.put (i:=i) ho mw
     rwa [hV i hb]at this
   | true=>
    have hq:rk true mask i=q:=by
     have h1:¬rk true mask i<q:=fun h=>nE ((hT i hb).2 h)
     by_cases e:rk true mask i=q
     ·exact e
     ·obtain⟨j,rC,uN⟩:=jN (b:=true) mask q (by have:=fc hb;omega)
      have kK:j<i:=by
       rcases Nat.lt_trichotomy j i with h | h | h
       ·exact h
       ·subst h;omega
       ·have:=oM h hb;omega
      have:=dJ nR ho hO (O_ i j hb rC kK)
      have:=(hT j rC).1 this
      omega
    have eC:=nU mask _ i aH hb;rw[i8 i _ fJ ho,hq]at eC;have Gu:q<(b8 mask (ops.toList.take k)).length:=(List.getElem?_eq_some_iff.1 eC).1;rw[List.drop_eq_getElem_cons Gu,(List.getElem?_eq_some_iff.1 eC).2]at oN
    obtain⟨he,oO⟩:=dE (ops:=ops) (a':=a') (A:=A) (fun t ht=>fX.agree mu t (fun j oj hj eG hd=>by
     have jy:j<k:=hj.elim (fun h=>jO j h) (fun h=>h.elim (bY j _) (fun h=>bY j _ h.1))
     obtain⟨d1,d2⟩:=look t ht j oj jy eG hd;refine⟨d1,?_⟩;obtain⟨b,hb'⟩:=sV j jy;cases b
     ·exact .inl hb'
     ·exact .inr ⟨hb',(hT j hb').1 d1⟩)) (fun cs b=>dR.aam i o cs b ho)
    have next:∀u W',S W'->aQ P ops S (fun A W=>wpList P ops Q (ops.toList.drop k) A W) ((b8 mask (ops.toList.take k)).drop (q+1)) (A.put o.dst u) W'->J (fun j=>D j\/j=i) (a'.put o.dst u) W':=by
     intro u W' hS ht
     let V':Nat->Value:=fun j=>if j=i then u else V j
     have e1:∀j,j≠i->V' j=V j:=fun j hj=>if_neg hj
     have e2:V' i=u:=if_pos rfl;refine .inl ⟨hS,fun j hj=>hj.elim (fun h=>jO j h) (fun h=>by omega),V',q+1,A.put o.dst u,fun j hj=>?_,fun j hj=>?_,?_,?_,ht⟩
     ·rw[e1 j (fun e=>by subst e;rw[hb]at hj;cases hj)];exact hV j hj
     ·constructor
      ·rintro(h | rfl)
       ·have:=(hT j hj).1 h;omega
       ·omega
      ·intro h
       by_cases e:rk true mask j=q
       ·exact .inr (mr hj hb (by omega))
       ·exact .inl ((hT j hj).2 (by omega))
     ·have:=(fX.aaj (v':=V') (fun j _ hj=>(e1 j (fun e=>by subst e;exact nE hj)).symm)).put (i:=i) ho mw
      rwa [e2]at this
     ·have:=((mu.aaj (v':=V') (fun j _ hj=>(e1 j (fun e=>by
       subst e;rcases hj with hj | ⟨-,hj⟩
       ·rw[hb]at hj;cases hj
       ·omega)).symm)).put (i:=i) ho (fun j oj d hj eG hd gm=>by
        have jy:j<k:=hj.elim (bY j _) (fun h=>bY j _ h.1)
        have:=dR.aaq i o fJ ho j oj jy eG d hd gm
        subst this;rcases hj with hj | ⟨-,hj⟩
        ·rw[hb]at hj;cases hj
        ·omega)).same (E:=fun j=>mask[j]?=some false\/(mask[j]?=some true/\rk true mask j<q+1)) (fun j=>by
        constructor
        ·rintro((h | ⟨h,h'⟩) | rfl)
         ·exact .inl h
         ·exact .inr ⟨h,by omega⟩
         ·exact .inr ⟨hb,by omega⟩
        ·rintro(h | ⟨h,h'⟩)
         ·exact .inl (.inl h)
         ·by_cases e:rk true mask j=q
          ·exact .inr (mr h hb (by omega))
          ·exact .inl (.inr ⟨h,by omega⟩))
      rwa [e2]at this
    rcases oN with⟨hw,bG⟩ | ⟨hw,bG⟩
    ·rw[if_pos (oO.trans hw)];refine .inl ?_;unfold Oper.wp;rw[he]
     generalize (execOp A.eval o).run P W=r at bG ⊢
     cases r with
     | ok nx W'=>
      cases nx with
      | value u=>exact next u W' bG.1 bG.2
      | skip=>exact next undef W' bG.1 bG.2
      | row row args=>exact Rows.mono bG fun u kc h=>next u kc h.1 h.2
      | enter f args=>
       simp only[Oper.upon]
       exact Calls.mono bG fun e kc ⟨u,uU,h3,h4⟩=>by subst uU;exact next u kc h3 h4
      | _=>exact bG.elim
     | halt x W'=>exact bG.elim
    ·rw[if_neg (by rw[oO.trans hw];simp)]
     exact next _ _ hW bG
  ·-- the tail
   have bF:∀j,j<i->D j:=fun j hj=>dJ nR ho hO (dR.tail i (by omega) dY j hj)
   obtain⟨m,h1,h2,h3,h4⟩:=sW D a' W hJ (fun j hj=>bF j (by omega))
   have J6:m=i:=by
    by_cases e1:i<m
    ·exact absurd ((h3 i dY).2 e1) nE
    ·by_cases e2:m<i
     ·have:=(h3 m (by omega)).1 (bF m e2);omega
     ·omega
   subst J6
   have Pb:ops.toList.drop m=o::ops.toList.drop (m+1):=by
    have:m<ops.toList.length:=by simpa using dY
    rw[List.drop_eq_getElem_cons this];congr 1
    have:=(Array.getElem?_eq_some_iff.1 ho).2
    simpa using this
   rw[Pb]at h4;unfold wpList at h4
   have next:∀a W,wpList P ops Q (ops.toList.drop (m+1)) a W->J (fun j=>D j\/j=m) a W:=fun a W h=>.inr ⟨m+1,by omega,by omega,fun j hj=>by
    constructor
    ·rintro(h | rfl)
     ·have:=(h3 j hj).1 h;omega
     ·omega
    ·intro h
     by_cases e:j=m
     ·exact .inr e
     ·exact .inl ((h3 j hj).2 (by omega)),h⟩
   split
   ·rename_i hw
    rw[if_pos hw]at h4;exact h4.imp (Oper.wp_mono next) id
   ·rename_i hw
    rw[if_neg hw]at h4;exact next _ _ h4
 ·intro D a' W hJ bF;obtain⟨m,h1,h2,h3,h4⟩:=sW D a' W hJ (fun j hj=>bF j (by omega))
  have Pc:m=ops.size:=by
   by_cases e:m<ops.size
   ·have:=(h3 m e).1 (bF m e);omega
   ·omega
  subst Pc;rw[List.drop_eq_nil_of_le (by simp)]at h4;exact h4
theorem xC {w0:World} {bV:Act->Prop}:∀(l:List Oper) (A:Act),ic P ops w0 bV l A->ms P ops (aa w0) bV l A
 | [],_,h=>h
 | _::l,_,⟨v,h1,h2⟩=>⟨v,h1,xC l _ h2⟩
theorem bQ {Q:Exit->Act->World->Prop} {DD:Nat} {a:Act} {w w0:World} (k:Nat) (mask:List Bool) (hm:P.follows .mixedOrders=true) (hc:rB ops k mask=true) (aX:aa w0 w)
  (h:ic P ops w0 (fun A=>aQ P ops (aa w0) (fun A W=>wpList P ops Q (ops.toList.drop k) A W) (b8 mask (ops.toList.take k)) A w.drew) (df mask (ops.toList.take k)) a):(Code.region DD ops true).wp P Q a w:=
 ar (aa w0) k mask hm hc (ah aX) (xC _ _ h)
theorem oP {w0:World} {bV J7:Act->Prop} (hf:∀A,bV A->J7 A):∀(l:List Oper) (A:Act),ic P ops w0 bV l A->ic P ops w0 J7 l A
 | [],A,h=>hf A h
 | _::l,_,⟨v,h1,h2⟩=>⟨v,h1,oP hf l _ h2⟩
theorem nG {Q:Exit->Act->World->Prop} {DD:Nat} {a:Act} {w w0:World} (k:Nat) (mask:List Bool) (hm:P.follows .mixedOrders=true) (hc:rB ops k mask=true) (aX:aa w0 w)
  (h:ic P ops w0 (fun A=>∀W,aa w0 W->aQ P ops (aa w0) (fun A W=>wpList P ops Q (ops.toList.drop k) A W) (b8 mask (ops.toList.take k)) A W) (df mask (ops.toList.take k)) a):(Code.region DD ops true).wp P Q a w:=
 bQ k mask hm hc aX (oP (fun _ h=>h _ (ah aX)) _ _ h)
end
section
variable {P : Program} {ops : Array Oper}
def gt {α:Type} (c:Nat):List Nat->List α->List α
 | x::m,o::l=>if x=c then o::gt c m l else gt c m l
 | [],_=>[]
 | _::_,[]=>[]
def fv (b:Nat) (m:List Nat) (i:Nat):Nat:=(m.take i).count b
theorem lD {α:Type} (c:Nat):∀(m:List Nat) (l:List α) (i:Nat),m.length=l.length->m[i]?=some c->(gt c m l)[fv c m i]?=l[i]?
 | [],_,i,_,h=>by simp at h
 | x::m,o::l,0,_,h=>by simp at h;subst h;simp[fv,gt]
 | x::m,o::l,i+1,hl,h=>by
  have:=lD c m l i (by simpa using hl) (by simpa using h)
  unfold gt
  split
  ·rename_i e;subst e;simpa[fv]using this
  ·rename_i e;simpa[fv,List.count_cons_of_ne e]using this
theorem lE {α:Type} (c:Nat):∀(m:List Nat) (l:List α),m.length=l.length->(gt c m l).length=m.count c
 | [],[],_=>rfl
 | x::m,o::l,hl=>by
  have:=lE c m l (by simpa using hl)
  unfold gt
  split
  ·rename_i e;subst e;simp[this]
  ·rename_i e;simp[List.count_cons_of_ne e,this]
theorem Al {b:Nat} {m:List Nat} {i:Nat} {x:Nat} (h:m[i]?=some x):fv b m (i+1)=fv b m i+if x=b then 1 else 0:=by
 obtain⟨hi,rfl⟩:=List.getElem?_eq_some_iff.1 h;unfold fv;rw[List.take_succ_eq_append_getElem hi,List.count_append];congr 1
 simp[List.count_cons]
theorem Gv {b:Nat} {m:List Nat} {i j:Nat} (h:i<=j):fv b m i<=fv b m j:=by
 unfold fv;exact List.Sublist.count_le _ (List.IsPrefix.sublist (List.take_prefix_take_left h))
theorem mx {b:Nat} {m:List Nat} {i j:Nat} (h:i<j) (hi:m[i]?=some b):fv b m i<fv b m j:=by
 have h1:=Al (b:=b) hi;rw[if_pos rfl]at h1
 have:=Gv (b:=b) (m:=m) (show i+1<=j from h)
 omega
theorem lF {b:Nat} {m:List Nat} {i j:Nat} (hi:m[i]?=some b) (hj:m[j]?=some b) (h:fv b m i=fv b m j):i=j:=by
 rcases Nat.lt_trichotomy i j with hl | hl | hl
 ·have:=mx hl hi;omega
 ·exact hl
 ·have:=mx hl hj;omega
theorem en {b:Nat} {m:List Nat} {i:Nat} (hi:m[i]?=some b):fv b m i<m.count b:=by
 have h1:=mx (Nat.lt_of_lt_of_le (List.getElem?_eq_some_iff.1 hi).1 (Nat.le_refl m.length)) hi
 unfold fv at h1 ⊢
 rw[List.take_length]at h1;exact h1
theorem jg {b:Nat}:∀(m:List Nat) (q:Nat),q<m.count b->∃i:Nat,m[i]?=some b/\fv b m i=q
 | [],q,h=>by simp at h
 | x::m,q,h=>by
  by_cases hx:x=b
  ·subst hx
   cases q with
   | zero=>exact⟨0,by simp,by simp[fv]⟩
   | succ q=>
    obtain⟨i,h1,h2⟩:=jg m q (by simpa using h)
    exact ⟨i + 1, by simpa using h1, by have : fv x (x :: m) (i + 1) = fv x m i + 1 := by simp [fv]
                                        omega⟩
  ·obtain⟨i,h1,h2⟩:=jg m q (by rwa [List.count_cons_of_ne hx]at h)
   exact ⟨i + 1, by simpa using h1, by have : fv b (x :: m) (i + 1) = fv b m i := by simp [fv, List.count_cons_of_ne hx]
                                       omega⟩
def lG (P:Program) (ops:Array Oper) (bV:Act->World->Prop):List Oper->Act->World->Prop
 | [],A,W=>bV A W
 | o::rest,A,W=>∀W1,aa W W1 ->
  (Region.wanted o (yielded ops A.tmps)=true/\match (execOp A.eval o).run P W1 with
   | .ok (.value u) W2=>aa W1 W2/\lG P ops bV rest (A.put o.dst u) W2
   | .ok (.enter f args) W2=>Calls P f args W2 fun e W3=>∃u,e=.returned u/\aa W1 W3/\lG P ops bV rest (A.put o.dst u) W3
   | _=>False)
theorem lG.since {bV:Act->World->Prop} (fM:∀A W W',bV A W->aa W W'->bV A W'):∀(l:List Oper) (A:Act) (W W':World),lG P ops bV l A W->aa W W'->lG P ops bV l A W'
 | [],A,W,W',h,hs=>fM A W W' h hs
 | _::_,_,_,_,h,hs=>fun W1 h1=>h W1 (hs.after h1)
def kO (ops:Array Oper):List Nat->(Nat->Value)->Act->Act
 | [],_,A=>A
 | j::r,us,A=>kO ops r us (match ops[j]? with | none=>A | some o=>A.put o.dst (us j))
def nH (c:Nat) (mask:List Nat):List Nat:=(List.range mask.length).filter fun i=>mask.getD i 99==c
def Fk (ops:Array Oper) (k:Nat) (mask:List Nat):Bool:=
 qA ops k&&decide (mask.length=k)&&decide (k<=ops.size)&&(mask.all fun x=>decide (x<=3)) &&
 (List.range k).all fun i=>match ops[i]? with
  | none=>true
  | some o=>
   let c:=mask.getD i 99
   let up:=(fk ops (i+1)).getD i []
   if c=0 then (aV o).all fun j=>mask.getD j 99==0
   else if c=1 then ((aV o).all fun j=>mask.getD j 99==0||mask.getD j 99==1)&&(List.range i).all fun j => !(mask.getD j 99==1)||up.contains j
   else if c=2 then (aV o).all fun j=>mask.getD j 99==0
   else ((List.range k).all fun j => !(mask.getD j 99==1||mask.getD j 99==2)||up.contains j)&&(List.range i).all fun j => !(mask.getD j 99==3)||up.contains j
def Gw (P:Program) (ops:Array Oper) (w0:World) (R:Nat->World->Value->Prop) (A:Act) (j:Nat):Prop:=
 ∀o,ops[j]?=some o->Region.wanted o (yielded ops A.tmps)=true/\∀W,aa w0 W->ov P (R j) o A W
theorem lH {a:Act} {k:Nat} (hd:∀i o,i<k->ops[i]?=some o->∀j oj,j<k->ops[j]?=some oj->∀d,o.dst=some d->oj.dst=some d->j=i) (hk:k<=ops.size) (V:Nat->Value):∀(l:List Nat) (D:Nat->Prop) (A:Act),(∀j,D j->j<k)->(∀j∈l,j<k/\¬D j)->l.Nodup->aA a ops V D A->aA a ops V (fun j=>D j\/j∈l) (kO ops l V A)
 | [],D,A,_,_,_,h=>h.same (fun j=>by simp)
 | j::r,D,A,hD,hl,hn,h=>by
  have hj:=hl j (by simp);have IU:j<ops.size:=by omega
  have ho:ops[j]?=some ops[j]:=Array.getElem?_eq_getElem IU
  have h1:=h.put ho (fun j' oj d nP eG mO gm=>by
   have:=hd j _ hj.1 ho j' oj (hD j' nP) eG d mO gm
   subst this
   exact hj.2 nP)
  have Tl:=List.nodup_cons.1 hn
  have:=lH hd hk V r (fun x=>D x\/x=j) _ (fun x hx=>hx.elim (hD x) (fun e=>by omega)) (fun x hx=>⟨(hl x (List.mem_cons_of_mem _ hx)).1,fun e=>e.elim (hl x (List.mem_cons_of_mem _ hx)).2 (fun e=>by subst e;exact Tl.1 hx)⟩) Tl.2 h1
  unfold kO;rw[ho];exact this.same (fun x=>by simp[or_assoc])
theorem oQ {Q:Exit->Act->World->Prop} {DD:Nat} {a:Act} {w w0:World} (k:Nat) (mask:List Nat) (R:Nat->World->Value->Prop) (hR:∀j W W' u,R j W u->aa W W'->R j W' u) (hm:P.follows .mixedOrders=true) (hc:Fk ops k mask=true) (aX:aa w0 w)
  (h:ic P ops w0 (fun A=>(∀j∈nH 2 mask,Gw P ops w0 R A j)/\∀W,aa w0 W->lG P ops (fun A W=>∀(us:Nat->Value) W1,aa W W1->(∀j∈nH 2 mask,R j W1 (us j))->aQ P ops (aa w0) (fun A W=>wpList P ops Q (ops.toList.drop k) A W) (gt 3 mask (ops.toList.take k)) (kO ops (nH 2 mask) us A) W1) (gt 1 mask (ops.toList.take k)) A W) (gt 0 mask (ops.toList.take k)) a):(Code.region DD ops true).wp P Q a w:=by
 unfold Fk at hc;simp only[Bool.and_eq_true,decide_eq_true_eq]at hc;obtain⟨⟨⟨⟨hf,C6⟩,Fh⟩,fG⟩,Gt⟩:=hc;have dR:=nQ hf
 have aH:mask.length=(ops.toList.take k).length:=by simp;omega
 have sV:∀i,i<k->∃b,mask[i]?=some b/\b<=3:=fun i hi=>⟨_,List.getElem?_eq_getElem (by omega),by simpa using List.all_eq_true.1 fG _ (List.getElem_mem (by omega))⟩
 have i8:∀i o,i<k->ops[i]?=some o->(ops.toList.take k)[i]?=some o:=fun i o hi ho=>by
  rw[List.getElem?_take,if_pos hi];simpa using ho
 have mX:∀i b,mask[i]?=some b->mask.getD i 99=b:=fun i b hb=>by rw[zDd,hb];rfl
 have bY:∀i b,mask[i]?=some b->i<k:=fun i b hb=>by have:=(List.getElem?_eq_some_iff.1 hb).1;omega
 have J6:∀j c,j∈nH c mask↔mask[j]?=some c/\c≠99\/(c=99/\j∈nH c mask):=fun j c=>by
  by_cases J8:c=99
  ·simp[J8]
  ·simp only[J8,ne_eq,not_false_eq_true,and_true,false_and,or_false];unfold nH;rw[List.mem_filter,List.mem_range];constructor
   ·rintro⟨h1,h2⟩;rw[zDd,List.getElem?_eq_getElem h1]at h2;rw[List.getElem?_eq_getElem h1];simpa using h2
   ·intro h1
    exact⟨(List.getElem?_eq_some_iff.1 h1).1,by rw[mX j c h1];simp⟩
 have oy:∀j,j∈nH 2 mask↔mask[j]?=some 2:=fun j=>by rw[J6 j 2];simp
 have row:∀i o,i<k->ops[i]?=some o->_:=fun i o hi ho=>by
  have:=List.all_eq_true.1 Gt i (List.mem_range.2 hi)
  simp only[ho]at this;exact this
 have Nj:∀i j o c,i<k->ops[i]?=some o->j∈aV o->(mask.getD j 99==c)=true->mask[j]?=some c:=fun i j o c hi ho hj hd=>by
  have jy:j<k:=by have:=dR.back i o ho j hj;omega
  obtain⟨b,hb,-⟩:=sV j jy;rw[mX j b hb]at hd
  rw[hb];simpa using hd
 have c0:∀i o j,mask[i]?=some 0->ops[i]?=some o->j∈aV o->mask[j]?=some 0:=fun i o j hi ho hj=>by
  have fJ:=bY i _ hi
  have:=row i o fJ ho
  simp only[mX i _ hi,if_true]at this;exact Nj i j o 0 fJ ho hj (List.all_eq_true.1 this j hj)
 have c1:∀i o j,mask[i]?=some 1->ops[i]?=some o->j∈aV o->mask[j]?=some 0\/mask[j]?=some 1:=fun i o j hi ho hj=>by
  have fJ:=bY i _ hi
  have:=row i o fJ ho
  simp only[mX i _ hi,Nat.one_ne_zero,if_false,if_true,Bool.and_eq_true]at this;have h1:=List.all_eq_true.1 this.1 j hj;rw[Bool.or_eq_true]at h1;exact h1.imp (Nj i j o 0 fJ ho hj) (Nj i j o 1 fJ ho hj)
 have c2:∀i o j,mask[i]?=some 2->ops[i]?=some o->j∈aV o->mask[j]?=some 0:=fun i o j hi ho hj=>by
  have fJ:=bY i _ hi
  have:=row i o fJ ho
  simp only[mX i _ hi,show ¬(2:Nat)=0 by decide,show ¬(2:Nat)=1 by decide,if_false,if_true]at this
  exact Nj i j o 0 fJ ho hj (List.all_eq_true.1 this j hj)
 have Wj:∀i j,mask[i]?=some 1->mask[j]?=some 1->j<i->zo ops j i:=fun i j hi hj kK=>by
  have fJ:=bY i _ hi
  have:=row i _ fJ (Array.getElem?_eq_getElem (by omega))
  simp only[mX i _ hi,Nat.one_ne_zero,if_false,if_true,Bool.and_eq_true]at this
  have:=List.all_eq_true.1 this.2 j (List.mem_range.2 kK)
  rw[mX j _ hj]at this;exact ch (i+1) i j (by simpa using this)
 have Tm:∀i j,mask[i]?=some 3->(mask[j]?=some 1\/mask[j]?=some 2\/(mask[j]?=some 3/\j<i))->zo ops j i:=fun i j hi hj=>by
  have fJ:=bY i _ hi
  have:=row i _ fJ (Array.getElem?_eq_getElem (by omega))
  simp only[mX i _ hi,show ¬(3:Nat)=0 by decide,show ¬(3:Nat)=1 by decide,show ¬(3:Nat)=2 by decide,if_false,Bool.and_eq_true]at this
  rcases hj with hj | hj | ⟨hj,kK⟩
  ·have:=List.all_eq_true.1 this.1 j (List.mem_range.2 (bY j _ hj))
   rw[mX j _ hj]at this;exact ch (i+1) i j (by simpa using this)
  ·have:=List.all_eq_true.1 this.1 j (List.mem_range.2 (bY j _ hj))
   rw[mX j _ hj]at this;exact ch (i+1) i j (by simpa using this)
  ·have:=List.all_eq_true.1 this.2 j (List.mem_range.2 kK)
   rw[mX j _ hj]at this;exact ch (i+1) i j (by simpa using this)
 obtain⟨aae,F,h0,⟨Fl,fM⟩,fY⟩:=lq _ a h
 have lC:∀r,r<=mask.count 0->aA a ops (fun j=>aae (fv 0 mask j)) (fun j=>mask[j]?=some 0/\fv 0 mask j<r) (F r):=by
  intro r
  induction r with
  | zero=>intro _;rw[h0];exact⟨rfl,rfl,fun j _ _ hj=>by have:=hj.2;omega,fun _ _=>rfl⟩
  | succ r ih=>
   intro hr;obtain⟨i,kM,oy⟩:=jg (b:=0) mask r (by omega);have fJ:=bY i _ kM;have ho:ops[i]?=some ops[i]:=Array.getElem?_eq_getElem (by omega);have eC:=lD 0 mask _ i aH kM;rw[i8 i _ fJ ho,oy]at eC;rw[(fY r _ eC).2]
   have:=((ih (by omega)).put ho (fun j oj d hj eG hd gm=>by
    have:=dR.aaq i _ fJ ho j oj (bY j _ hj.1) eG d hd gm
    subst this
    have:=hj.2
    omega)).same (E:=fun j=>mask[j]?=some 0/\fv 0 mask j<r+1) (fun j=>by
     constructor
     ·rintro(⟨a1,a2⟩ | rfl)
      ·exact⟨a1,by omega⟩
      ·exact⟨kM,by omega⟩
     ·rintro⟨a1,a2⟩
      by_cases e:fv 0 mask j=r
      ·exact .inr (lF a1 kM (by omega))
      ·exact .inl ⟨a1,by omega⟩)
   rw[show aae r=aae (fv 0 mask i)by rw[oy]]
   exact this
 have J5:(gt 0 mask (ops.toList.take k)).length=mask.count 0:=lE _ _ _ aH;rw[J5]at fM Fl;have jz:(gt 1 mask (ops.toList.take k)).length=mask.count 1:=lE _ _ _ aH;have hn3:(gt 3 mask (ops.toList.take k)).length=mask.count 3:=lE _ _ _ aH
 let Am:Act->World->Prop:=fun A W=>∀(us:Nat->Value) W1,aa W W1->(∀j∈nH 2 mask,R j W1 (us j))->aQ P ops (aa w0) (fun A W=>wpList P ops Q (ops.toList.drop k) A W) (gt 3 mask (ops.toList.take k)) (kO ops (nH 2 mask) us A) W1
 have J9:∀A W W',Am A W->aa W W'->Am A W':=fun A W W' h hs us W1 h1=>h us W1 (hs.after h1)
 let J:(Nat->Prop)->Act->World->Prop:=fun D a' W=>
  (aa w0 W/\(∀j,D j->j<k)/\(∀j,mask[j]?=some 3->¬D j)/\∃(V:Nat->Value) (q:Nat) (A:Act),(∀j,mask[j]?=some 0->V j=aae (fv 0 mask j))/\(∀j,mask[j]?=some 1->(D j↔fv 1 mask j<q)) /\
   (∀j,mask[j]?=some 2->D j->R j W (V j))/\aA a ops V D a'/\aA a ops V (fun j=>mask[j]?=some 0\/(mask[j]?=some 1/\fv 1 mask j<q)) A /\
   lG P ops Am ((gt 1 mask (ops.toList.take k)).drop q) A W) \/
  (aa w0 W/\(∀j,D j->j<k)/\(∀j,mask[j]?=some 1\/mask[j]?=some 2->D j)/\∃(V:Nat->Value) (q:Nat) (A:Act),(∀j,mask[j]?=some 0->V j=aae (fv 0 mask j))/\(∀j,mask[j]?=some 3->(D j↔fv 3 mask j<q)) /\
   aA a ops V D a'/\aA a ops V (fun j=>mask[j]?=some 0\/mask[j]?=some 1\/mask[j]?=some 2\/(mask[j]?=some 3/\fv 3 mask j<q)) A /\
   aQ P ops (aa w0) (fun A W=>wpList P ops Q (ops.toList.drop k) A W) ((gt 3 mask (ops.toList.take k)).drop q) A W) \/
  (∃m,k<=m/\m<=ops.size/\(∀j,j<ops.size->(D j↔j<m))/\wpList P ops Q (ops.toList.drop m) a' W)
 have J_:∀D a' W,J D a' W->(∀j,mask[j]?=some 1\/mask[j]?=some 2->D j)->(∀j,D j->j<k) ->
   (aa w0 W/\∃(V:Nat->Value) (q:Nat) (A:Act),(∀j,mask[j]?=some 0->V j=aae (fv 0 mask j))/\(∀j,mask[j]?=some 3->(D j↔fv 3 mask j<q)) /\
   aA a ops V D a'/\aA a ops V (fun j=>mask[j]?=some 0\/mask[j]?=some 1\/mask[j]?=some 2\/(mask[j]?=some 3/\fv 3 mask j<q)) A /\
   aQ P ops (aa w0) (fun A W=>wpList P ops Q (ops.toList.drop k) A W) ((gt 3 mask (ops.toList.take k)).drop q) A W)\/∃m,k<=m/\m<=ops.size/\(∀j,j<ops.size->(D j↔j<m))/\wpList P ops Q (ops.toList.drop m) a' W:=by
  intro D a' W hJ hD DE;rcases hJ with⟨hW,jO,h3,V,q,A,hV,hT,hU,fX,mu,DF⟩ | ⟨hW,jO,-,hJ⟩ | hJ
  ·have hq:mask.count 1<=q:=by
    by_cases e:mask.count 1<=q
    ·exact e
    ·obtain⟨i,kM,oy⟩:=jg (b:=1) mask q (by omega)
     have:=(hT i kM).1 (hD i (.inl kM))
     omega
   have vf:(gt 1 mask (ops.toList.take k)).drop q=[]:=List.drop_eq_nil_of_le (by omega);rw[vf]at DF;have Pd:Am A W:=DF;have oN:=Pd V W (ab _) (fun j hj=>hU j ((oy j).1 hj) (hD j (.inr ((oy j).1 hj))))
   refine .inl ⟨hW,V,0,kO ops (nH 2 mask) V A,hV,fun j hj=>⟨fun h=>absurd h (h3 j hj),fun h=>by omega⟩,fX,?_,by rw[List.drop_zero];exact oN⟩
   have:=lH (a:=a) dR.aaq Fh V (nH 2 mask) _ A (fun j hj=>hj.elim (fun h=>bY j _ h) (fun h=>bY j _ h.1)) (fun j hj=>⟨bY j _ ((oy j).1 hj),fun e=>by
    have h2:=(oy j).1 hj
    rcases e with e | ⟨e,-⟩ <;> rw[h2]at e <;> cases e⟩) (List.Pairwise.filter _ List.nodup_range) mu
   exact this.same (fun j=>by
    rw[oy];constructor
    ·rintro((h | ⟨h,-⟩) | h)
     ·exact .inl h
     ·exact .inr (.inl h)
     ·exact .inr (.inr (.inl h))
    ·rintro(h | h | h | ⟨-,h⟩)
     ·exact .inl (.inl h)
     ·exact .inl (.inr ⟨h,by have:=en h;omega⟩)
     ·exact .inr h
     ·omega)
  ·exact .inl ⟨hW,hJ⟩
  ·exact .inr hJ
 have sW:∀D a' W,J D a' W->(∀j,j<k->D j)->∃m,k<=m/\m<=ops.size/\(∀j,j<ops.size->(D j↔j<m))/\wpList P ops Q (ops.toList.drop m) a' W:=by
  intro D a' W hJ hD
  by_cases jO:∀j,D j->j<k
  ·rcases J_ D a' W hJ (fun j hj=>hD j (hj.elim (bY j _) (bY j _))) jO with⟨hW,V,q,A,hV,hT,fX,mu,oN⟩ | hJ
   ·have hq:mask.count 3<=q:=by
     by_cases e:mask.count 3<=q
     ·exact e
     ·obtain⟨i,kM,oy⟩:=jg (b:=3) mask q (by omega)
      have:=(hT i kM).1 (hD i (bY i _ kM))
      omega
    have vf:(gt 3 mask (ops.toList.take k)).drop q=[]:=List.drop_eq_nil_of_le (by omega);rw[vf]at oN
    have:a'=A:=fX.ext mu (fun j hj=>by
     constructor
     ·intro nP;obtain⟨b,hb,aZ⟩:=sV j (jO j nP)
      have:b=0\/b=1\/b=2\/b=3:=by omega
      rcases this with rfl | rfl | rfl | rfl
      ·exact .inl hb
      ·exact .inr (.inl hb)
      ·exact .inr (.inr (.inl hb))
      ·exact .inr (.inr (.inr ⟨hb,(hT j hb).1 nP⟩))
     ·rintro(hb | hb | hb | ⟨hb,_⟩) <;> exact hD j (bY j _ hb))
    subst this;exact⟨k,Nat.le_refl _,Fh,fun j _=>⟨fun h=>jO j h,fun h=>hD j h⟩,oN⟩
   ·exact hJ
  ·rcases hJ with⟨-,DE,-⟩ | ⟨-,DE,-⟩ | hJ
   ·exact absurd DE jO
   ·exact absurd DE jO
   ·exact hJ
 refine gK hm dR.back J (.inl ⟨ah aX,fun j hj=>hj.elim,fun j _ hj=>hj.elim,fun j=>aae (fv 0 mask j),0,F (mask.count 0),fun j _=>rfl,fun j _=>⟨fun h=>h.elim,fun h=>by omega⟩,fun j _ hj=>hj.elim,⟨rfl,rfl,fun j _ _ hj=>hj.elim,fun _ _=>rfl⟩,?_,?_⟩) ?_ ?_
 ·exact(lC _ (Nat.le_refl _)).same (fun j=>by
   constructor
   ·rintro⟨a1,-⟩;exact .inl a1
   ·rintro(a1 | ⟨-,a2⟩)
    ·exact⟨a1,en a1⟩
    ·omega)
 ·rw[List.drop_zero];exact fM _ (ah aX)
 ·intro D a' W i o hJ ho nE hO nR;have dY:i<ops.size:=(Array.getElem?_eq_some_iff.1 ho).1
  by_cases fJ:i<k
  ·have jO:∀j,D j->j<k:=by
    rcases hJ with⟨-,h,-⟩ | ⟨-,h,-⟩ | ⟨m,h1,h2,h3,-⟩
    ·exact h
    ·exact h
    ·exact absurd ((h3 i dY).2 (by omega)) nE
   have An:∀j,(D j\/j=i)->j<k:=fun j hj=>hj.elim (jO j) (fun e=>by omega)
   have DG:∀ {p:Prop},(∃m,k<=m/\m<=ops.size/\(∀j,j<ops.size->(D j↔j<m))/\wpList P ops Q (ops.toList.drop m) a' W)->p:=fun ⟨m,h1,h2,h3,_⟩=>absurd ((h3 i dY).2 (by omega)) nE
   have look:∀t∈o.looksAt ops,∀j oj,j<k->ops[j]?=some oj->oj.dst=some t->D j/\j∈aV o:=fun t ht j oj jy eG hd=>by
    have:=dR.looks i o fJ ho t ht j oj jy eG hd
    exact⟨hO j this,this⟩
   have mw:∀(E:Nat->Prop),(∀j,E j->j<k)->¬E i->∀j oj d,E j->ops[j]?=some oj->o.dst=some d->oj.dst≠some d:=fun E hE Gx j oj d hj eG hd gm=>by
    have:=dR.aaq i o fJ ho j oj (hE j hj) eG d hd gm
    subst this;exact Gx hj
   obtain⟨b,hb,aZ⟩:=sV i fJ;have hb':b=0\/b=1\/b=2\/b=3:=by omega
   have Ao:∀j c,mask[j]?=some c->c≠b->j≠i:=fun j c hj hc e=>by subst e;rw[hb]at hj;cases hj;exact hc rfl
   rcases hb' with rfl | rfl | rfl | rfl
   ·-- a read
    have eC:=lD 0 mask _ i aH hb;rw[i8 i _ fJ ho]at eC;obtain⟨⟨hw,bG⟩,-⟩:=fY _ _ eC;have hr:=en hb
    have mM:∀V:Nat->Value,(∀j,mask[j]?=some 0->V j=aae (fv 0 mask j))->aA a ops V D a'->execOp a'.eval o=execOp (F (fv 0 mask i)).eval o/\Region.wanted o (yielded ops a'.tmps)=Region.wanted o (yielded ops (F (fv 0 mask i)).tmps):=fun V hV fX=>
     dE (ops:=ops) (a':=a') (A:=F (fv 0 mask i)) (fun t ht=>fX.agree ((lC _ (Nat.le_of_lt hr)).aae (v':=V) (fun j hj=>(hV j hj.1).symm)) t (fun j oj hj eG hd=>by
      have jy:j<k:=hj.elim (fun h=>jO j h) (fun h=>bY j _ h.1)
      obtain⟨d1,d2⟩:=look t ht j oj jy eG hd;have Ak:=c0 i o j hb ho d2
      exact⟨d1,Ak,mx (dR.back i o ho j d2) Ak⟩)) (fun cs b=>dR.aam i o cs b ho)
    have Ka:∀V:Nat->Value,(∀j,mask[j]?=some 0->V j=aae (fv 0 mask j))->aA a ops V D a'->aA a ops V (fun j=>D j\/j=i) (a'.put o.dst (aae (fv 0 mask i))):=fun V hV fX=>by
     have:=fX.put (i:=i) ho (mw D jO nE)
     rwa [hV i hb]at this
    have dd:∀j c,c≠0->mask[j]?=some c->((D j\/j=i)↔D j):=fun j c hc hj=>⟨fun h=>h.elim id (fun e=>absurd e (Ao j c hj hc)),.inl⟩
    rcases hJ with⟨hW,-,h3,V,q,A,hV,hT,hU,fX,mu,DF⟩ | ⟨hW,-,iK,V,q,A,hV,hT,fX,mu,oN⟩ | hJ
    ·obtain⟨he,oO⟩:=mM V hV fX;rw[if_pos (oO.trans hw)];refine .inl ?_;unfold Oper.wp;rw[he,bG W hW];exact .inl ⟨hW,An,fun j hj h=>h3 j hj ((dd j 3 (by decide) hj).1 h),V,q,A,hV,fun j hj=>(dd j 1 (by decide) hj).trans (hT j hj),fun j hj h=>hU j hj ((dd j 2 (by decide) hj).1 h),Ka V hV fX,mu,DF⟩
    ·obtain⟨he,oO⟩:=mM V hV fX;rw[if_pos (oO.trans hw)];refine .inl ?_;unfold Oper.wp;rw[he,bG W hW];exact .inr (.inl ⟨hW,An,fun j hj=>.inl (iK j hj),V,q,A,hV,fun j hj=>(dd j 3 (by decide) hj).trans (hT j hj),Ka V hV fX,mu,oN⟩)
    ·exact DG hJ
   ·-- the first chain
    rcases hJ with⟨hW,-,h3,V,q,A,hV,hT,hU,fX,mu,DF⟩ | ⟨hW,-,iK,-⟩ | hJ
    rotate_left
    ·exact absurd (iK i (.inl hb)) nE
    ·exact DG hJ
    have hq:fv 1 mask i=q:=by
     have h1:¬fv 1 mask i<q:=fun h=>nE ((hT i hb).2 h)
     by_cases e:fv 1 mask i=q
     ·exact e
     ·obtain⟨j,rC,uN⟩:=jg (b:=1) mask q (by have:=en hb;omega)
      have kK:j<i:=by
       rcases Nat.lt_trichotomy j i with h | h | h
       ·exact h
       ·subst h;omega
       ·have:=mx h hb;omega
      have:=dJ nR ho hO (Wj i j hb rC kK)
      have:=(hT j rC).1 this
      omega
    have eC:=lD 1 mask _ i aH hb;rw[i8 i _ fJ ho,hq]at eC;have Gu:q<(gt 1 mask (ops.toList.take k)).length:=(List.getElem?_eq_some_iff.1 eC).1;rw[List.drop_eq_getElem_cons Gu,(List.getElem?_eq_some_iff.1 eC).2]at DF
    obtain⟨he,oO⟩:=dE (ops:=ops) (a':=a') (A:=A) (fun t ht=>fX.agree mu t (fun j oj hj eG hd=>by
     have jy:j<k:=hj.elim (fun h=>jO j h) (fun h=>h.elim (bY j _) (fun h=>bY j _ h.1))
     obtain⟨d1,d2⟩:=look t ht j oj jy eG hd;refine⟨d1,?_⟩;rcases c1 i o j hb ho d2 with hb' | hb'
     ·exact .inl hb'
     ·exact .inr ⟨hb',(hT j hb').1 d1⟩)) (fun cs b=>dR.aam i o cs b ho)
    have next:∀u W',aa W W'->lG P ops Am ((gt 1 mask (ops.toList.take k)).drop (q+1)) (A.put o.dst u) W'->J (fun j=>D j\/j=i) (a'.put o.dst u) W':=by
     intro u W' hS ht
     let V':Nat->Value:=fun j=>if j=i then u else V j
     have e1:∀j,j≠i->V' j=V j:=fun j hj=>if_neg hj
     have e2:V' i=u:=if_pos rfl;refine .inl ⟨hW.after hS,An,fun j hj h=>h.elim (h3 j hj) (Ao j 3 hj (by decide)),V',q+1,A.put o.dst u,fun j hj=>?_,fun j hj=>?_,fun j hj h=>?_,?_,?_,ht⟩
     ·rw[e1 j (Ao j 0 hj (by decide))];exact hV j hj
     ·constructor
      ·rintro(h | rfl)
       ·have:=(hT j hj).1 h;omega
       ·omega
      ·intro h
       by_cases e:fv 1 mask j=q
       ·exact .inr (lF hj hb (by omega))
       ·exact .inl ((hT j hj).2 (by omega))
     ·rw[e1 j (Ao j 2 hj (by decide))];exact hR j W W' _ (hU j hj (h.elim id (fun e=>absurd e (Ao j 2 hj (by decide))))) hS
     ·have:=(fX.aaj (v':=V') (fun j _ hj=>(e1 j (fun e=>by subst e;exact nE hj)).symm)).put (i:=i) ho (mw D jO nE)
      rwa [e2]at this
     ·have Gx:¬(mask[i]?=some 0\/(mask[i]?=some 1/\fv 1 mask i<q)):=by
       rintro(h | ⟨-,h⟩)
       ·rw[hb]at h;cases h
       ·omega
      have:=((mu.aaj (v':=V') (fun j _ hj=>(e1 j (fun e=>by subst e;exact Gx hj)).symm)).put (i:=i) ho (mw _ (fun j hj=>hj.elim (bY j _) (fun h=>bY j _ h.1)) Gx)).same (E:=fun j=>mask[j]?=some 0\/(mask[j]?=some 1/\fv 1 mask j<q+1)) (fun j=>by
        constructor
        ·rintro((h | ⟨h,h'⟩) | rfl)
         ·exact .inl h
         ·exact .inr ⟨h,by omega⟩
         ·exact .inr ⟨hb,by omega⟩
        ·rintro(h | ⟨h,h'⟩)
         ·exact .inl (.inl h)
         ·by_cases e:fv 1 mask j=q
          ·exact .inr (lF h hb (by omega))
          ·exact .inl (.inr ⟨h,by omega⟩))
      rwa [e2]at this
    obtain⟨hw,bG⟩:=DF W (ab _);rw[if_pos (oO.trans hw)];refine .inl ?_;unfold Oper.wp;rw[he]
    generalize (execOp A.eval o).run P W=r at bG ⊢
    cases r with
    | ok nx W'=>
     cases nx with
     | value u=>exact next u W' bG.1 bG.2
     | enter f args=>
      simp only[Oper.upon]
      exact Calls.mono bG fun e kc ⟨u,uU,h3,h4⟩=>by subst uU;exact next u kc h3 h4
     | _=>exact bG.elim
    | halt x W'=>exact bG.elim
   ·-- a free one
    rcases hJ with⟨hW,-,h3,V,q,A,hV,hT,hU,fX,mu,DF⟩ | ⟨hW,-,iK,-⟩ | hJ
    rotate_left
    ·exact absurd (iK i (.inr hb)) nE
    ·exact DG hJ
    obtain⟨hw,sX⟩:=Fl i ((oy i).2 hb) o ho
    obtain⟨he,oO⟩:=dE (ops:=ops) (a':=a') (A:=F (mask.count 0)) (fun t ht=>fX.agree ((lC _ (Nat.le_refl _)).aae (v':=V) (fun j hj=>(hV j hj.1).symm)) t (fun j oj hj eG hd=>by
     have jy:j<k:=hj.elim (fun h=>jO j h) (fun h=>bY j _ h.1)
     obtain⟨d1,d2⟩:=look t ht j oj jy eG hd;have Ak:=c2 i o j hb ho d2
     exact⟨d1,Ak,en Ak⟩)) (fun cs b=>dR.aam i o cs b ho)
    have next:∀u W',R i W' u->aa W W'->J (fun j=>D j\/j=i) (a'.put o.dst u) W':=by
     intro u W' hr hS
     let V':Nat->Value:=fun j=>if j=i then u else V j
     have e1:∀j,j≠i->V' j=V j:=fun j hj=>if_neg hj
     have e2:V' i=u:=if_pos rfl;refine .inl ⟨hW.after hS,An,fun j hj h=>h.elim (h3 j hj) (Ao j 3 hj (by decide)),V',q,A,fun j hj=>?_,fun j hj=>?_,fun j hj h=>?_,?_,?_,lG.since J9 _ _ _ _ DF hS⟩
     ·rw[e1 j (Ao j 0 hj (by decide))];exact hV j hj
     ·rw[<- hT j hj];exact⟨fun h=>h.elim id (fun e=>absurd e (Ao j 1 hj (by decide))),.inl⟩
     ·by_cases e:j=i
      ·subst e;rw[e2];exact hr
      ·rw[e1 j e];exact hR j W W' _ (hU j hj (h.elim id (fun e'=>absurd e' e))) hS
     ·have:=(fX.aaj (v':=V') (fun j _ hj=>(e1 j (fun e=>by subst e;exact nE hj)).symm)).put (i:=i) ho (mw D jO nE)
      rwa [e2]at this
     ·exact mu.aaj (fun j _ hj=>(e1 j (by
       rcases hj with hj | ⟨hj,-⟩
       ·exact Ao j 0 hj (by decide)
       ·exact Ao j 1 hj (by decide))).symm)
    rw[if_pos (oO.trans hw)];refine .inl ?_;unfold Oper.wp;rw[he];have sX:=sX W hW;unfold ov at sX
    generalize (execOp (F (mask.count 0)).eval o).run P W=r at sX ⊢
    cases r with
    | ok nx W'=>
     cases nx with
     | value u'=>exact next u' W' sX.1 sX.2
     | enter f args=>
      simp only[Oper.upon]
      exact Calls.mono sX fun e kc ⟨u,uU,h3,h4⟩=>by subst uU;exact next u kc h3 h4
     | _=>exact sX.elim
    | halt x W'=>exact sX.elim
   ·-- the chain behind
    have iK:∀j,mask[j]?=some 1\/mask[j]?=some 2->D j:=fun j hj=>dJ nR ho hO (Tm i j hb (hj.elim .inl (fun h=>.inr (.inl h))))
    rcases J_ D a' W hJ iK jO with⟨hW,V,q,A,hV,hT,fX,mu,oN⟩ | hJ'
    rotate_left
    ·exact DG hJ'
    have hq:fv 3 mask i=q:=by
     have h1:¬fv 3 mask i<q:=fun h=>nE ((hT i hb).2 h)
     by_cases e:fv 3 mask i=q
     ·exact e
     ·obtain⟨j,rC,uN⟩:=jg (b:=3) mask q (by have:=en hb;omega)
      have kK:j<i:=by
       rcases Nat.lt_trichotomy j i with h | h | h
       ·exact h
       ·subst h;omega
       ·have:=mx h hb;omega
      have:=dJ nR ho hO (Tm i j hb (.inr (.inr ⟨rC,kK⟩)))
      have:=(hT j rC).1 this
      omega
    have eC:=lD 3 mask _ i aH hb;rw[i8 i _ fJ ho,hq]at eC;have Gu:q<(gt 3 mask (ops.toList.take k)).length:=(List.getElem?_eq_some_iff.1 eC).1;rw[List.drop_eq_getElem_cons Gu,(List.getElem?_eq_some_iff.1 eC).2]at oN
    obtain⟨he,oO⟩:=dE (ops:=ops) (a':=a') (A:=A) (fun t ht=>fX.agree mu t (fun j oj hj eG hd=>by
     have jy:j<k:=hj.elim (fun h=>jO j h) (fun h=>h.elim (bY j _) (fun h=>h.elim (bY j _) (fun h=>h.elim (bY j _) (fun h=>bY j _ h.1))))
     obtain⟨d1,d2⟩:=look t ht j oj jy eG hd;refine⟨d1,?_⟩;obtain⟨b,hb',my⟩:=sV j jy
     have:b=0\/b=1\/b=2\/b=3:=by omega
     rcases this with rfl | rfl | rfl | rfl
     ·exact .inl hb'
     ·exact .inr (.inl hb')
     ·exact .inr (.inr (.inl hb'))
     ·exact .inr (.inr (.inr ⟨hb',(hT j hb').1 d1⟩)))) (fun cs b=>dR.aam i o cs b ho)
    have next:∀u W',aa w0 W'->aQ P ops (aa w0) (fun A W=>wpList P ops Q (ops.toList.drop k) A W) ((gt 3 mask (ops.toList.take k)).drop (q+1)) (A.put o.dst u) W'->J (fun j=>D j\/j=i) (a'.put o.dst u) W':=by
     intro u W' hS ht
     let V':Nat->Value:=fun j=>if j=i then u else V j
     have e1:∀j,j≠i->V' j=V j:=fun j hj=>if_neg hj
     have e2:V' i=u:=if_pos rfl;refine .inr (.inl ⟨hS,An,fun j hj=>.inl (iK j hj),V',q+1,A.put o.dst u,fun j hj=>?_,fun j hj=>?_,?_,?_,ht⟩)
     ·rw[e1 j (Ao j 0 hj (by decide))];exact hV j hj
     ·constructor
      ·rintro(h | rfl)
       ·have:=(hT j hj).1 h;omega
       ·omega
      ·intro h
       by_cases e:fv 3 mask j=q
       ·exact .inr (lF hj hb (by omega))
       ·exact .inl ((hT j hj).2 (by omega))
     ·have:=(fX.aaj (v':=V') (fun j _ hj=>(e1 j (fun e=>by subst e;exact nE hj)).symm)).put (i:=i) ho (mw D jO nE)
      rwa [e2]at this
     ·have Gx:¬(mask[i]?=some 0\/mask[i]?=some 1\/mask[i]?=some 2\/(mask[i]?=some 3/\fv 3 mask i<q)):=by
       rintro(h | h | h | ⟨-,h⟩)
       ·rw[hb]at h;cases h
       ·rw[hb]at h;cases h
       ·rw[hb]at h;cases h
       ·omega
      have:=((mu.aaj (v':=V') (fun j _ hj=>(e1 j (fun e=>by subst e;exact Gx hj)).symm)).put (i:=i) ho (mw _ (fun j hj=>hj.elim (bY j _) (fun h=>h.elim (bY j _) (fun h=>h.elim (bY j _) (fun h=>bY j _ h.1)))) Gx)).same (E:=fun j=>mask[j]?=some 0\/mask[j]?=some 1\/mask[j]?=some 2\/(mask[j]?=some 3/\fv 3 mask j<q+1)) (fun j=>by
        constructor
        ·rintro((h | h | h | ⟨h,h'⟩) | rfl)
         ·exact .inl h
         ·exact .inr (.inl h)
         ·exact .inr (.inr (.inl h))
         ·exact .inr (.inr (.inr ⟨h,by omega⟩))
         ·exact .inr (.inr (.inr ⟨hb,by omega⟩))
        ·rintro(h | h | h | ⟨h,h'⟩)
         ·exact .inl (.inl h)
         ·exact .inl (.inr (.inl h))
         ·exact .inl (.inr (.inr (.inl h)))
         ·by_cases e:fv 3 mask j=q
          ·exact .inr (lF h hb (by omega))
          ·exact .inl (.inr (.inr (.inr ⟨h,by omega⟩))))
      rwa [e2]at this
    rcases oN with⟨hw,bG⟩ | ⟨hw,bG⟩
    ·rw[if_pos (oO.trans hw)];refine .inl ?_;unfold Oper.wp;rw[he]
     generalize (execOp A.eval o).run P W=r at bG ⊢
     cases r with
     | ok nx W'=>
      cases nx with
      | value u=>exact next u W' bG.1 bG.2
      | skip=>exact next undef W' bG.1 bG.2
      | row row args=>exact Rows.mono bG fun u kc h=>next u kc h.1 h.2
      | enter f args=>
       simp only[Oper.upon]
       exact Calls.mono bG fun e kc ⟨u,uU,h3,h4⟩=>by subst uU;exact next u kc h3 h4
      | _=>exact bG.elim
     | halt x W'=>exact bG.elim
    ·rw[if_neg (by rw[oO.trans hw];simp)]
     exact next _ _ hW bG
  ·-- the tail
   have bF:∀j,j<i->D j:=fun j hj=>dJ nR ho hO (dR.tail i (by omega) dY j hj)
   obtain⟨m,h1,h2,h3,h4⟩:=sW D a' W hJ (fun j hj=>bF j (by omega))
   have J6:m=i:=by
    by_cases e1:i<m
    ·exact absurd ((h3 i dY).2 e1) nE
    ·by_cases e2:m<i
     ·have:=(h3 m (by omega)).1 (bF m e2);omega
     ·omega
   subst J6
   have Pb:ops.toList.drop m=o::ops.toList.drop (m+1):=by
    have:m<ops.toList.length:=by simpa using dY
    rw[List.drop_eq_getElem_cons this];congr 1
    have:=(Array.getElem?_eq_some_iff.1 ho).2
    simpa using this
   rw[Pb]at h4;unfold wpList at h4
   have next:∀a W,wpList P ops Q (ops.toList.drop (m+1)) a W->J (fun j=>D j\/j=m) a W:=fun a W h=>.inr (.inr ⟨m+1,by omega,by omega,fun j hj=>by
    constructor
    ·rintro(h | rfl)
     ·have:=(h3 j hj).1 h;omega
     ·omega
    ·intro h
     by_cases e:j=m
     ·exact .inr e
     ·exact .inl ((h3 j hj).2 (by omega)),h⟩)
   split
   ·rename_i hw
    rw[if_pos hw]at h4;exact h4.imp (Oper.wp_mono next) id
   ·rename_i hw
    rw[if_neg hw]at h4;exact next _ _ h4
 ·intro D a' W hJ bF;obtain⟨m,h1,h2,h3,h4⟩:=sW D a' W hJ (fun j hj=>bF j (by omega))
  have Pc:m=ops.size:=by
   by_cases e:m<ops.size
   ·have:=(h3 m e).1 (bF m e);omega
   ·omega
  subst Pc;rw[List.drop_eq_nil_of_le (by simp)]at h4;exact h4
end
theorem jP {P:Program} {ops:Array Oper} {w0:World} {bV:Act->World->Prop} {o:Oper} {rest:List Oper} {A:Act} {W:World} {ob:Obj} {v:Value} (hw:Region.wanted o (yielded ops A.tmps)=true) (h:(execOp A.eval o).run P W=.ok (.value v) (W.alloc ob)) (hS:aa w0 W)
  (hr:∀W',W'=W.alloc ob->aa w0 W'->aQ P ops (aa w0) bV rest (A.put o.dst v) W'):aQ P ops (aa w0) bV (o::rest) A W:=
 qO hw h (ae _ hS) (hr _ rfl (ae _ hS))
end Go.Proofs.YtgjggeapebbcbaaGreat
