/- Parts of the proof: walks of functions and plain laws. -/
import Derived.Test.YtnioemnkfojmkaaGreatP4
set_option maxRecDepth 100000
set_option maxHeartbeats 16000000
namespace Go.Proofs.YtnioemnkfojmkaaGreat
open Go Go.RowKit
section
variable {P : Program} {ops : Array Oper}
theorem NB {Q:Exit->Act->World->Prop} (tj:∀i o,ops[i]?=some o->∀j∈da o,j<i) (J:(Nat->Prop)->Act->World->Prop)
  (eF:∀(D:Nat->Prop) a w i o,J D a w->ops[i]?=some o->¬D i->(∀d∈da o,D d)->(∀i o,D i->ops[i]?=some o->∀d∈da o,D d) ->
   if Region.wanted o (yielded ops a.tmps)=true then Oper.wp P o a w (J (fun j=>D j\/j=i)) Q\/(o.asks P a w/\LetsOut Q) else J (fun j=>D j\/j=i) (a.put o.dst undef) w)
  (CO:∀(D:Nat->Prop) a w,J D a w->(∀i,i<ops.size->D i)->Q .normal a w):
  ∀(ng:Nat) (aC:Array Bool) (a:Act) (W:World),aC.size=ops.size->(∀i o,aC.getD i false=true->ops[i]?=some o->∀j∈da o,aC.getD j false=true) ->
   ((List.range ops.size).filter fun j => !aC.getD j false).length<=ng->J (fun j=>aC.getD j false=true) a W->wpAny P .any ops Q ng aC a W:=by
 have abC:∀(aC:Array Bool),aC.size=ops.size->Region.ready .any ops aC=[]->∀m,∀j,j<=m->j<ops.size->aC.getD j false=true:=by
  intro aC fD JR m
  induction m using Nat.strongRecOn with
  | ind m ihm=>
   intro j hjm hjs;refine Classical.byContradiction fun hjn=>?_
   have hjn:aC.getD j false=false:=by cases hb:aC.getD j false <;> simp_all
   have sT:j∈Region.ready .any ops aC:=gV.2 ⟨by rw[mr zO];exact hjn,ops[j],Zcc hjs,fun d hd=>by
    have hdj:=tj j _ (Zcc hjs) d hd
    exact ihm d zO d (Zaj _) zO⟩
   rw[JR]at sT;simp at sT
 intro ng
 induction ng with
 | zero=>
  intro aC a W fD lC Za hJ
  have c_:∀j,j<ops.size->aC.getD j false=true:=fun j hj=>by
   rcases hb:aC.getD j false with _ | _
   ·have:0<((List.range ops.size).filter fun j => !aC.getD j false).length:=List.length_pos_of_mem (List.mem_filter.2 ⟨Zab.2 hj,by simp[hb]⟩)
    omega
   ·rfl
  refine⟨List.eq_nil_iff_forall_not_mem.2 fun i hi=>?_,CO _ a W hJ c_⟩
  obtain⟨h0,o,ho,_⟩:=gV.1 hi;have cH:i<ops.size:=(Zas.1 ho).1;rw[mr zO,c_ i cH]at h0;cases h0
 | succ ng ih=>
  intro aC a W fD lC Za hJ;refine⟨fun JR=>CO _ a W hJ fun j hj=>abC aC fD JR j j (Zaj _) hj,fun i hi=>?_⟩
  obtain⟨h0,o,ho,lB⟩:=gV.1 hi;have cH:i<ops.size:=(Zas.1 ho).1;rw[mr zO]at h0
  have ki:∀j,(aC.setIfInBounds i true).getD j false=true↔(aC.getD j false=true\/j=i):=fun j=>by
   by_cases nh:i=j
   ·subst nh;simp[fD,cH]
   ·rw[getD_set_ne false nh];constructor
    ·exact .inl
    ·rintro(h | h)
     ·exact h
     ·exact absurd h.symm nh
  have hD:(fun j=>(aC.setIfInBounds i true).getD j false=true)=fun j=>aC.getD j false=true\/j=i:=funext fun j=>propext (ki j)
  have next:∀a W,J (fun j=>aC.getD j false=true\/j=i) a W->wpAny P .any ops Q ng (aC.setIfInBounds i true) a W:=fun a W hJ'=>by
   refine ih _ a W (by simpa using fD) (fun i' o' jS xr j hj=>?_) ?_ (by rw[hD];exact hJ')
   ·rcases(ki i').1 jS with h | rfl
    ·exact(ki j).2 (.inl (lC i' o' h xr j hj))
    ·rw[ho]at xr;cases xr
     exact(ki j).2 (.inl (lB j hj))
   ·have adR:=filter_lt (l:=List.range ops.size) (p:=fun j => !aC.getD j false) (q:=fun j => !(aC.setIfInBounds i true).getD j false) (fun x hx=>by
     cases hb:aC.getD x false
     ·rfl
     ·have:=(ki x).2 (.inl hb)
      simp only[this]at hx
      cases hx) (Zab.2 cH) (by simp only[h0];rfl) (by simp only[(ki i).2 (.inr rfl)];rfl)
    omega
  have:=eF (fun j=>aC.getD j false=true) a W i o hJ ho (by rw[h0];simp) lB lC
  unfold wpOp;simp only[ho]
  split
  ·rename_i hw
   rw[if_pos hw]at this;exact this.imp (Oper.wp_mono next) id
  ·rename_i hw
   rw[if_neg hw]at this;exact next _ _ this
theorem j3 {Q:Exit->Act->World->Prop} {id:Nat} {a:Act} {w:World} (hm:P.follows .mixedOrders=true) (tj:∀i o,ops[i]?=some o->∀j∈da o,j<i) (J:(Nat->Prop)->Act->World->Prop)
  (h0:J (fun _=>False) a w.drew)
  (eF:∀(D:Nat->Prop) a w i o,J D a w->ops[i]?=some o->¬D i->(∀d∈da o,D d)->(∀i o,D i->ops[i]?=some o->∀d∈da o,D d) ->
   if Region.wanted o (yielded ops a.tmps)=true then Oper.wp P o a w (J (fun j=>D j\/j=i)) Q\/(o.asks P a w/\LetsOut Q) else J (fun j=>D j\/j=i) (a.put o.dst undef) w)
  (CO:∀(D:Nat->Prop) a w,J D a w->(∀i,i<ops.size->D i)->Q .normal a w):(Code.region id ops true).wp P Q a w:=by
 refine wp_region_any hm ?_
 refine NB (P:=P) (Q:=Q) tj J eF CO ops.size (Array.replicate ops.size false) a w.drew zS (fun i o hi=>by rw[oG]at hi;cases hi) ?_ ?_
 ·have:=List.length_filter_le (fun j => !(Array.replicate ops.size false).getD j false) (List.range ops.size)
  simpa using this
 ·have:(fun j=>(Array.replicate ops.size false).getD j false=true)=fun _=>False:=funext fun j=>propext ⟨(fun h=>by rw[oG]at h;cases h),fun h=>h.elim⟩
  rw[this];exact h0
def dM {α:Type}:List Bool->List α->List α
 | true::m,o::l=>o::dM m l
 | false::m,_::l=>dM m l
 | [],_=>[]
 | _::_,[]=>[]
def ew {α:Type}:List Bool->List α->List α
 | true::m,_::l=>ew m l
 | false::m,o::l=>o::ew m l
 | [],_=>[]
 | _::_,[]=>[]
def rk (b:Bool) (m:List Bool) (i:Nat):Nat:=(m.take i).count b
theorem yB {α:Type}:∀(m:List Bool) (l:List α) (i:Nat),m.length=l.length->m[i]?=some true->(dM m l)[rk true m i]?=l[i]?
 | [],_,i,_,h=>by simp at h
 | true::m,o::l,0,_,_=>by simp[rk,dM]
 | true::m,o::l,i+1,hl,h=>by
  have:=yB m l i (by simpa using hl) (by simpa using h)
  simpa[rk,dM]using this
 | false::m,o::l,0,_,h=>by simp at h
 | false::m,o::l,i+1,hl,h=>by
  have:=yB m l i (by simpa using hl) (by simpa using h)
  simpa[rk,dM]using this
theorem sj {α:Type}:∀(m:List Bool) (l:List α) (i:Nat),m.length=l.length->m[i]?=some false->(ew m l)[rk false m i]?=l[i]?
 | [],_,i,_,h=>by simp at h
 | false::m,o::l,0,_,_=>by simp[rk,ew]
 | false::m,o::l,i+1,hl,h=>by
  have:=sj m l i (by simpa using hl) (by simpa using h)
  simpa[rk,ew]using this
 | true::m,o::l,0,_,h=>by simp at h
 | true::m,o::l,i+1,hl,h=>by
  have:=sj m l i (by simpa using hl) (by simpa using h)
  simpa[rk,ew]using this
theorem uS {α:Type}:∀(m:List Bool) (l:List α),m.length=l.length->(dM m l).length=m.count true
 | [],[],_=>rfl
 | true::m,o::l,hl=>by simp[dM,uS m l (by simpa using hl)]
 | false::m,o::l,hl=>by simp[dM,uS m l (by simpa using hl)]
theorem uT {α:Type}:∀(m:List Bool) (l:List α),m.length=l.length->(ew m l).length=m.count false
 | [],[],_=>rfl
 | true::m,o::l,hl=>by simp[ew,uT m l (by simpa using hl)]
 | false::m,o::l,hl=>by simp[ew,uT m l (by simpa using hl)]
theorem VL {b:Bool} {m:List Bool} {i:Nat} {x:Bool} (h:m[i]?=some x):rk b m (i+1)=rk b m i+if x=b then 1 else 0:=by
 obtain⟨hi,rfl⟩:=Zbs.1 h;unfold rk;rw[List.take_succ_eq_append_getElem hi,List.count_append];congr 1
 simp[List.count_cons]
theorem abD {b:Bool} {m:List Bool} {i j:Nat} (h:i<=j):rk b m i<=rk b m j:=by
 unfold rk;exact List.Sublist.count_le _ (List.IsPrefix.sublist (List.take_prefix_take_left h))
theorem z7 {b:Bool} {m:List Bool} {i j:Nat} (h:i<j) (hi:m[i]?=some b):rk b m i<rk b m j:=by
 have h1:=VL (b:=b) hi;rw[if_pos rfl]at h1
 have:=abD (b:=b) (m:=m) (show i+1<=j from h)
 omega
theorem wC {b:Bool} {m:List Bool} {i j:Nat} (hi:m[i]?=some b) (hj:m[j]?=some b) (h:rk b m i=rk b m j):i=j:=by
 rcases Nat.lt_trichotomy i j with hl | hl | hl
 ·have:=z7 hl hi;omega
 ·exact hl
 ·have:=z7 hl hj;omega
theorem jP {b:Bool} {m:List Bool} {i:Nat} (hi:m[i]?=some b):rk b m i<m.count b:=by
 have h1:=z7 (Zal (Zbs.1 hi).1 (Zaj m.length)) hi
 unfold rk at h1 ⊢
 rw[Zbq]at h1;exact h1
theorem re {b:Bool}:∀(m:List Bool) (q:Nat),q<m.count b->∃i:Nat,m[i]?=some b/\rk b m i=q
 | [],q,h=>by simp at h
 | x::m,q,h=>by
  by_cases hx:x=b
  ·subst hx
   cases q with
   | zero=>exact⟨0,zS,by simp[rk]⟩
   | succ q=>
    obtain⟨i,h1,h2⟩:=re m q (by simpa using h)
    exact ⟨i + 1, by simpa using h1, by have : rk x (x :: m) (i + 1) = rk x m i + 1 := by simp [rk]
                                        omega⟩
  ·obtain⟨i,h1,h2⟩:=re m q (by rwa [List.count_cons_of_ne hx]at h)
   exact ⟨i + 1, by simpa using h1, by have : rk b (x :: m) (i + 1) = rk b m i := by simp [rk, List.count_cons_of_ne hx]
                                       omega⟩
def bP (P:Program) (ops:Array Oper) (S:World->Prop) (fin:Act->World->Prop):List Oper->Act->World->Prop
 | [],A,W=>fin A W
 | o::rest,A,W=>
  (Region.wanted o (yielded ops A.tmps)=true/\match (execOp A.eval o).run P W with
   | .ok (.value u) W'=>S W'/\bP P ops S fin rest (A.put o.dst u) W'
   | .ok .skip W'=>S W'/\bP P ops S fin rest (A.put o.dst undef) W'
   | .ok (.row row args) W'=>Rows P row args W' fun v qP=>S qP/\bP P ops S fin rest (A.put o.dst v) qP
   | .ok (.enter f args) W'=>Calls P f args W' fun e qP=>∃u,e=.returned u/\S qP/\bP P ops S fin rest (A.put o.dst u) qP
   | _=>False)\/(Region.wanted o (yielded ops A.tmps)=false/\bP P ops S fin rest (A.put o.dst undef) W)
theorem fj {S:World->Prop} {fin:Act->World->Prop} {o:Oper} {rest:List Oper} {A:Act} {W:World} {v:Value} (hw:Region.wanted o (yielded ops A.tmps)=true) (h:(execOp A.eval o).run P W=.ok (.value v) W) (hS:S W)
  (hr:bP P ops S fin rest (A.put o.dst v) W):bP P ops S fin (o::rest) A W:=.inl ⟨hw,by rw[h];exact⟨hS,hr⟩⟩
theorem Dz {S:World->Prop} {fin:Act->World->Prop} {o:Oper} {rest:List Oper} {A:Act} {W W':World} {v:Value} (hw:Region.wanted o (yielded ops A.tmps)=true) (h:(execOp A.eval o).run P W=.ok (.value v) W') (hS:S W')
  (hr:bP P ops S fin rest (A.put o.dst v) W'):bP P ops S fin (o::rest) A W:=.inl ⟨hw,by rw[h];exact⟨hS,hr⟩⟩
theorem dA {S:World->Prop} {fin:Act->World->Prop} {o:Oper} {rest:List Oper} {A:Act} {W:World}
  (h:∀Q':Exit->Act->World->Prop,(∀u W',S W'->bP P ops S fin rest (A.put o.dst u) W'->Q' .normal (A.put o.dst u) W')->wpList P ops Q' [o] A W):bP P ops S fin (o::rest) A W:=by
 have h1:=h (fun x a w=>x=.normal/\a.defers=A.defers/\S w/\bP P ops S fin rest a w) (fun u W' hS ht=>⟨rfl,by cases o.dst <;> rfl,hS,ht⟩)
 unfold wpList at h1;unfold bP
 split at h1
 ·rename_i hw
  refine .inl ⟨hw,?_⟩;rcases h1 with h1 | ⟨-,a',w',h1,-⟩
  ·unfold Oper.wp at h1
   generalize (execOp A.eval o).run P W=r at h1 ⊢
   cases r with
   | ok nx W'=>
    cases nx with
    | value u=>exact h1.2.2
    | skip=>exact h1.2.2
    | row row args=>exact Rows.mono h1 fun u qP h=>h.2.2
    | enter f args=>
     simp only[Oper.upon]at h1;refine Calls.mono h1 fun e qP h2=>?_
     cases e with
     | returned v=>exact⟨v,rfl,h2.2.2⟩
     | panicked c=>exact absurd h2.1 zS
     | outgrown=>obtain⟨a',w',h3,-⟩:=h2;cases h3
    | defer d=>
     have:=h1.2.1
     simp only[Act.put]at this;have hl:=congrArg List.length this
     cases hd:o.dst <;> simp[hd]at hl
    | _=>exact h1.elim
   | halt x W'=>cases x <;> first | exact absurd h1.1 zS | exact h1.elim
  ·cases h1
 ·rename_i hw
  exact .inr ⟨by simpa using hw,h1.2.2.2⟩
def EL (ops:Array Oper) (k:Nat) (aQ:List Bool):Bool:=
 xx ops k&&decide (aQ.length=k)&&decide (k<=ops.size) &&
 (List.range k).all fun i=>match ops[i]? with
  | none=>true
  | some o=>if aQ.getD i true then (List.range i).all fun j => !aQ.getD j true||((kP ops (i+1)).getD i []).contains j
   else (da o).all fun j => !aQ.getD j true
def wD (P:Program) (ops:Array Oper) (S:World->Prop) (fin:Act->Prop):List Oper->Act->Prop
 | [],A=>fin A
 | o::rest,A=>∃v,(Region.wanted o (yielded ops A.tmps)=true/\∀W,S W->(execOp A.eval o).run P W=.ok (.value v) W)/\wD P ops S fin rest (A.put o.dst v)
theorem bC {S:World->Prop} {fin:Act->Prop} {o:Oper} {rest:List Oper} {A:Act} {v:Value} (hw:Region.wanted o (yielded ops A.tmps)=true) (h:∀W,S W->(execOp A.eval o).run P W=.ok (.value v) W)
  (hr:wD P ops S fin rest (A.put o.dst v)):wD P ops S fin (o::rest) A:=⟨v,⟨hw,h⟩,hr⟩
theorem CP {S:World->Prop} {fin:Act->Prop} (l:List Oper):∀(A:Act),wD P ops S fin l A ->
  ∃(agY:Nat->Value) (F:Nat->Act),F 0=A/\fin (F l.length)/\∀i o,l[i]?=some o->(Region.wanted o (yielded ops (F i).tmps)=true/\∀W,S W->(execOp (F i).eval o).run P W=.ok (.value (agY i)) W)/\F (i+1)=(F i).put o.dst (agY i):=by
 induction l with
 | nil=>intro A h;exact⟨fun _=>undef,fun _=>A,rfl,h,fun i o h=>by simp at h⟩
 | cons o l ih=>
  intro A h;obtain⟨v,hs,hf⟩:=h;obtain⟨agY,F,h0,kV,eF⟩:=ih _ hf;refine⟨fun i=>match i with | 0=>v | i+1=>agY i,fun i=>match i with | 0=>A | i+1=>F i,rfl,kV,?_⟩
  intro i o' hi
  cases i with
  | zero=>simp at hi;subst hi;exact⟨hs,h0⟩
  | succ i=>exact eF i o' (by simpa using hi)
theorem az {Q:Exit->Act->World->Prop} {NC:Nat} {a:Act} {w:World} (S:World->Prop) (k:Nat) (aQ:List Bool) (hm:P.follows .mixedOrders=true) (hc:EL ops k aQ=true) (aK:S w.drew)
  (h:wD P ops S (fun A=>bP P ops S (fun A W=>wpList P ops Q (ops.toList.drop k) A W) (dM aQ (ops.toList.take k)) A w.drew) (ew aQ (ops.toList.take k)) a):(Code.region NC ops true).wp P Q a w:=by
 unfold EL at hc;simp only[Zai,decide_eq_true_eq]at hc;obtain⟨⟨⟨hf,UY⟩,Dx⟩,hch⟩:=hc;have eZ:=uC hf
 have aA:aQ.length=(ops.toList.take k).length:=by simp;omega
 have PU:∀i,i<k->∃b,aQ[i]?=some b:=fun i hi=>⟨_,Zbu zO⟩
 have oH:∀i o,i<k->ops[i]?=some o->(ops.toList.take k)[i]?=some o:=fun i o hi ho=>by
  rw[List.getElem?_take,if_pos hi];simpa using ho
 have ND:∀i b,aQ[i]?=some b->aQ.getD i true=b:=fun i b hb=>by rw[zDd,hb];rfl
 have oS:∀i b,aQ[i]?=some b->i<k:=fun i b hb=>zX ((Zbs.1 hb).1)
 have chT:∀i j,aQ[i]?=some true->aQ[j]?=some true->j<i->UW ops j i:=fun i j hi hj nh=>by
  have nS:=oS i _ hi;have ho:ops[i]?=some ops[i]:=Zcc zO
  have:=Zbh.1 hch i (Zab.2 nS)
  simp only[ho]at this;rw[if_pos (ND i _ hi)]at this
  have:=Zbh.1 this j (Zab.2 nh)
  rw[ND j _ hj,Bool.not_true,Bool.false_or]at this;exact kQ (i+1) i j (by simpa using this)
 have chF:∀i o j,aQ[i]?=some false->ops[i]?=some o->j∈da o->aQ[j]?=some false:=fun i o j hi ho hj=>by
  have nS:=oS i _ hi;have nh:=eZ.back i o ho j hj
  have:=Zbh.1 hch i (Zab.2 nS)
  simp only[ho]at this
  rw[if_neg (by rw[ND i _ hi];simp)]at this
  have:=Zbh.1 this j hj
  obtain⟨b,hb⟩:=PU j zO;rw[ND j _ hb]at this
  cases b <;> simp_all
 obtain⟨agY,F,h0,kV,hst⟩:=CP _ a h
 have GG:∀r,r<=aQ.count false->bi a ops (fun j=>agY (rk false aQ j)) (fun j=>aQ[j]?=some false/\rk false aQ j<r) (F r):=by
  intro r
  induction r with
  | zero=>intro _;rw[h0];exact⟨rfl,rfl,fun j _ _ hj=>zX hj.2,fun _ _=>rfl⟩
  | succ r ih=>
   intro hr;obtain⟨i,yy,yz⟩:=re (b:=false) aQ r zO;have nS:=oS i _ yy;have ho:ops[i]?=some ops[i]:=Zcc zO;have pI:=sj aQ _ i aA yy;rw[oH i _ nS ho,yz]at pI;rw[(hst r _ pI).2]
   have:=((ih zO).put ho (fun j oj d hj jf hd jL=>by
    have:=eZ.aha i _ nS ho j oj (oS j _ hj.1) jf d hd jL
    subst this
    have:=hj.2
    omega)).same (E:=fun j=>aQ[j]?=some false/\rk false aQ j<r+1) (fun j=>by
     constructor
     ·rintro(⟨a1,a2⟩ | rfl)
      ·exact⟨a1,zO⟩
      ·exact⟨yy,zO⟩
     ·rintro⟨a1,a2⟩
      by_cases e:rk false aQ j=r
      ·exact .inr (wC a1 yy zO)
      ·exact .inl ⟨a1,zO⟩)
   rw[show agY r=agY (rk false aQ i)by rw[yz]]
   exact this
 have hnF:(ew aQ (ops.toList.take k)).length=aQ.count false:=uT _ _ aA;rw[hnF]at kV
 let SP:Nat->Prop:=fun j=>aQ[j]?=some false
 let J:(Nat->Prop)->Act->World->Prop:=fun D a' W=>
  (S W/\(∀j,D j->j<k)/\∃(V:Nat->Value) (q:Nat) (A:Act),(∀j,aQ[j]?=some false->V j=agY (rk false aQ j))/\(∀j,aQ[j]?=some true->(D j↔rk true aQ j<q)) /\
   bi a ops V D a'/\bi a ops V (fun j=>aQ[j]?=some false\/(aQ[j]?=some true/\rk true aQ j<q)) A /\
   bP P ops S (fun A W=>wpList P ops Q (ops.toList.drop k) A W) ((dM aQ (ops.toList.take k)).drop q) A W) \/
  (∃m,k<=m/\m<=ops.size/\(∀j,j<ops.size->(D j↔j<m))/\wpList P ops Q (ops.toList.drop m) a' W)
 have htl:(dM aQ (ops.toList.take k)).length=aQ.count true:=uS _ _ aA
 have z8:∀D a' W,J D a' W->(∀j,j<k->D j)->∃m,k<=m/\m<=ops.size/\(∀j,j<ops.size->(D j↔j<m))/\wpList P ops Q (ops.toList.drop m) a' W:=by
  intro D a' W hJ hD;rcases hJ with⟨hW,ux,V,q,A,hV,hT,oF,QT,NE⟩ | hJ
  ·have hq:aQ.count true<=q:=by
    by_cases e:aQ.count true<=q
    ·exact e
    ·obtain⟨i,yy,yz⟩:=re (b:=true) aQ q zO
     have:=(hT i yy).1 (hD i (oS i _ yy))
     omega
   have Zr:(dM aQ (ops.toList.take k)).drop q=[]:=List.drop_eq_nil_of_le zO;rw[Zr]at NE
   have:a'=A:=oF.ext QT (fun j hj=>by
    constructor
    ·intro oC;obtain⟨b,hb⟩:=PU j (ux j oC);cases b
     ·exact .inl hb
     ·exact .inr ⟨hb,(hT j hb).1 oC⟩
    ·rintro(hb | ⟨hb,_⟩) <;> exact hD j (oS j _ hb))
   subst this;exact⟨k,Zaj _,Dx,fun j _=>⟨fun h=>ux j h,fun h=>hD j h⟩,NE⟩
  ·exact hJ
 refine j3 hm eZ.back J (.inl ⟨aK,fun j hj=>hj.elim,fun j=>agY (rk false aQ j),0,F (aQ.count false),fun j _=>rfl,fun j _=>⟨fun h=>h.elim,fun h=>zO⟩,⟨rfl,rfl,fun j _ _ hj=>hj.elim,fun _ _=>rfl⟩,?_,?_⟩) ?_ ?_
 ·exact(GG _ (Zaj _)).same (fun j=>by
   constructor
   ·rintro⟨a1,-⟩;exact .inl a1
   ·rintro(a1 | ⟨-,a2⟩)
    ·exact⟨a1,jP a1⟩
    ·omega)
 ·rw[List.drop_zero];exact kV
 ·intro D a' W i o hJ ho yl lB lC;have cH:i<ops.size:=(Zas.1 ho).1
  by_cases nS:i<k
  ·-- one of the first k
   rcases hJ with⟨hW,ux,V,q,A,hV,hT,oF,QT,NE⟩ | ⟨m,h1,h2,h3,-⟩
   rotate_left
   ·exact absurd ((h3 i cH).2 zO) yl
   have look:∀t∈o.looksAt ops,∀j oj,j<k->ops[j]?=some oj->oj.dst=some t->D j/\j∈da o:=fun t ht j oj sU jf hd=>by
    have:=eZ.looks i o nS ho t ht j oj sU jf hd
    exact⟨lB j this,this⟩
   have NF:∀j oj d,D j->ops[j]?=some oj->o.dst=some d->oj.dst≠some d:=fun j oj d hj jf hd jL=>by
    have:=eZ.aha i o nS ho j oj (ux j hj) jf d hd jL
    subst this;exact yl hj
   obtain⟨b,hb⟩:=PU i nS
   cases b with
   | false=>
    have pI:=sj aQ _ i aA hb;rw[oH i _ nS ho]at pI;obtain⟨⟨hw,ig⟩,-⟩:=hst _ _ pI;have hr:=jP hb
    obtain⟨he,EM⟩:=jE (ops:=ops) (a':=a') (A:=F (rk false aQ i)) (fun t ht=>(oF.ag_ (v':=V) (fun _ _ _=>rfl)).agree ((GG _ (Zcd hr)).agY (v':=V) (fun j hj=>(hV j hj.1).symm)) t (fun j oj hj jf hd=>by
     have sU:j<k:=hj.elim (fun h=>ux j h) (fun h=>oS j _ h.1)
     obtain⟨d1,d2⟩:=look t ht j oj sU jf hd;have hjf:=chF i o j hb ho d2
     exact⟨d1,hjf,z7 (eZ.back i o ho j d2) hjf⟩)) (fun cs b=>eZ.ahc i o cs b ho)
    rw[if_pos (EM.trans hw)];refine .inl ?_;unfold Oper.wp;rw[he,ig W hW];refine .inl ⟨hW,fun j hj=>hj.elim (fun h=>ux j h) (fun h=>zO),V,q,A,hV,fun j hj=>?_,?_,QT,NE⟩
    ·rw[<- hT j hj];constructor
     ·rintro(h | rfl)
      ·exact h
      ·rw[hb]at hj;cases hj
     ·exact .inl
    ·have:=oF.put (i:=i) ho NF
     rwa [hV i hb]at this
   | true=>
    have hq:rk true aQ i=q:=by
     have h1:¬rk true aQ i<q:=fun h=>yl ((hT i hb).2 h)
     by_cases e:rk true aQ i=q
     ·exact e
     ·obtain⟨j,zZ,CE⟩:=re (b:=true) aQ q (zX (jP hb))
      have nh:j<i:=by
       rcases Nat.lt_trichotomy j i with h | h | h
       ·exact h
       ·subst h;omega
       ·have:=z7 h hb;omega
      have:=jM lC ho lB (chT i j hb zZ nh)
      have:=(hT j zZ).1 this
      omega
    have pI:=yB aQ _ i aA hb;rw[oH i _ nS ho,hq]at pI;have VM:q<(dM aQ (ops.toList.take k)).length:=(Zbs.1 pI).1;rw[Zbt VM,(Zbs.1 pI).2]at NE
    obtain⟨he,EM⟩:=jE (ops:=ops) (a':=a') (A:=A) (fun t ht=>oF.agree QT t (fun j oj hj jf hd=>by
     have sU:j<k:=hj.elim (fun h=>ux j h) (fun h=>h.elim (oS j _) (fun h=>oS j _ h.1))
     obtain⟨d1,d2⟩:=look t ht j oj sU jf hd;refine⟨d1,?_⟩;obtain⟨b,hb'⟩:=PU j sU;cases b
     ·exact .inl hb'
     ·exact .inr ⟨hb',(hT j hb').1 d1⟩)) (fun cs b=>eZ.ahc i o cs b ho)
    have next:∀u W',S W'->bP P ops S (fun A W=>wpList P ops Q (ops.toList.drop k) A W) ((dM aQ (ops.toList.take k)).drop (q+1)) (A.put o.dst u) W'->J (fun j=>D j\/j=i) (a'.put o.dst u) W':=by
     intro u W' hS ht
     let V':Nat->Value:=fun j=>if j=i then u else V j
     have e1:∀j,j≠i->V' j=V j:=fun j hj=>if_neg hj
     have e2:V' i=u:=if_pos rfl;refine .inl ⟨hS,fun j hj=>hj.elim (fun h=>ux j h) (fun h=>zO),V',q+1,A.put o.dst u,fun j hj=>?_,fun j hj=>?_,?_,?_,ht⟩
     ·rw[e1 j (fun e=>by subst e;rw[hb]at hj;cases hj)];exact hV j hj
     ·constructor
      ·rintro(h | rfl)
       ·have:=(hT j hj).1 h;omega
       ·omega
      ·intro h
       by_cases e:rk true aQ j=q
       ·exact .inr (wC hj hb zO)
       ·exact .inl ((hT j hj).2 zO)
     ·have:=(oF.ag_ (v':=V') (fun j _ hj=>(e1 j (fun e=>by subst e;exact yl hj)).symm)).put (i:=i) ho NF
      rwa [e2]at this
     ·have:=((QT.ag_ (v':=V') (fun j _ hj=>(e1 j (fun e=>by
       subst e;rcases hj with hj | ⟨-,hj⟩
       ·rw[hb]at hj;cases hj
       ·omega)).symm)).put (i:=i) ho (fun j oj d hj jf hd jL=>by
        have sU:j<k:=hj.elim (oS j _) (fun h=>oS j _ h.1)
        have:=eZ.aha i o nS ho j oj sU jf d hd jL
        subst this;rcases hj with hj | ⟨-,hj⟩
        ·rw[hb]at hj;cases hj
        ·omega)).same (E:=fun j=>aQ[j]?=some false\/(aQ[j]?=some true/\rk true aQ j<q+1)) (fun j=>by
        constructor
        ·rintro((h | ⟨h,h'⟩) | rfl)
         ·exact .inl h
         ·exact .inr ⟨h,zO⟩
         ·exact .inr ⟨hb,zO⟩
        ·rintro(h | ⟨h,h'⟩)
         ·exact .inl (.inl h)
         ·by_cases e:rk true aQ j=q
          ·exact .inr (wC h hb zO)
          ·exact .inl (.inr ⟨h,zO⟩))
      rwa [e2]at this
    rcases NE with⟨hw,ig⟩ | ⟨hw,ig⟩
    ·rw[if_pos (EM.trans hw)];refine .inl ?_;unfold Oper.wp;rw[he]
     generalize (execOp A.eval o).run P W=r at ig ⊢
     cases r with
     | ok nx W'=>
      cases nx with
      | value u=>exact next u W' ig.1 ig.2
      | skip=>exact next undef W' ig.1 ig.2
      | row row args=>exact Rows.mono ig fun u qP h=>next u qP h.1 h.2
      | enter f args=>
       simp only[Oper.upon]
       exact Calls.mono ig fun e qP ⟨u,Nj,h3,h4⟩=>by subst Nj;exact next u qP h3 h4
      | _=>exact ig.elim
     | halt x W'=>exact ig.elim
    ·rw[if_neg (by rw[EM.trans hw];simp)]
     exact next _ _ hW ig
  ·-- the tail
   have c_:∀j,j<i->D j:=fun j hj=>jM lC ho lB (eZ.tail i zO cH j hj)
   obtain⟨m,h1,h2,h3,h4⟩:=z8 D a' W hJ (fun j hj=>c_ j zO)
   have QU:m=i:=by
    by_cases e1:i<m
    ·exact absurd ((h3 i cH).2 e1) yl
    ·by_cases e2:m<i
     ·have:=(h3 m zO).1 (c_ m e2);omega
     ·omega
   subst QU
   have Mg:ops.toList.drop m=o::ops.toList.drop (m+1):=by
    have:m<ops.toList.length:=by simpa using cH
    rw[Zbt this];congr 1
    have:=(Zas.1 ho).2
    simpa using this
   rw[Mg]at h4;unfold wpList at h4
   have next:∀a W,wpList P ops Q (ops.toList.drop (m+1)) a W->J (fun j=>D j\/j=m) a W:=fun a W h=>.inr ⟨m+1,zO,zO,fun j hj=>by
    constructor
    ·rintro(h | rfl)
     ·have:=(h3 j hj).1 h;omega
     ·omega
    ·intro h
     by_cases e:j=m
     ·exact .inr e
     ·exact .inl ((h3 j hj).2 zO),h⟩
   split
   ·rename_i hw
    rw[if_pos hw]at h4;exact h4.imp (Oper.wp_mono next) id
   ·rename_i hw
    rw[if_neg hw]at h4;exact next _ _ h4
 ·intro D a' W hJ c_;obtain⟨m,h1,h2,h3,h4⟩:=z8 D a' W hJ (fun j hj=>c_ j zO)
  have XU:m=ops.size:=by
   by_cases e:m<ops.size
   ·have:=(h3 m e).1 (c_ m e);omega
   ·omega
  subst XU;rw[List.drop_eq_nil_of_le zS]at h4;exact h4
theorem Mh {w0:World} {fin:Act->Prop}:∀(l:List Oper) (A:Act),oK P ops w0 fin l A->wD P ops (ab w0) fin l A
 | [],_,h=>h
 | _::l,_,⟨v,h1,h2⟩=>⟨v,h1,Mh l _ h2⟩
theorem fl {Q:Exit->Act->World->Prop} {NC:Nat} {a:Act} {w w0:World} (k:Nat) (aQ:List Bool) (hm:P.follows .mixedOrders=true) (hc:EL ops k aQ=true) (aK:ab w0 w)
  (h:oK P ops w0 (fun A=>bP P ops (ab w0) (fun A W=>wpList P ops Q (ops.toList.drop k) A W) (dM aQ (ops.toList.take k)) A w.drew) (ew aQ (ops.toList.take k)) a):(Code.region NC ops true).wp P Q a w:=
 az (ab w0) k aQ hm hc (aj aK) (Mh _ _ h)
theorem z_ {w0:World} {fin abE:Act->Prop} (hf:∀A,fin A->abE A):∀(l:List Oper) (A:Act),oK P ops w0 fin l A->oK P ops w0 abE l A
 | [],A,h=>hf A h
 | _::l,_,⟨v,h1,h2⟩=>⟨v,h1,z_ hf l _ h2⟩
theorem dO {Q:Exit->Act->World->Prop} {NC:Nat} {a:Act} {w w0:World} (k:Nat) (aQ:List Bool) (hm:P.follows .mixedOrders=true) (hc:EL ops k aQ=true) (aK:ab w0 w)
  (h:oK P ops w0 (fun A=>∀W,ab w0 W->bP P ops (ab w0) (fun A W=>wpList P ops Q (ops.toList.drop k) A W) (dM aQ (ops.toList.take k)) A W) (ew aQ (ops.toList.take k)) a):(Code.region NC ops true).wp P Q a w:=
 fl k aQ hm hc aK (z_ (fun _ h=>h _ (aj aK)) _ _ h)
end
section
variable {P : Program} {ops : Array Oper}
def bh (ops:Array Oper):List Nat->(Nat->Value)->Act->Act
 | [],_,A=>A
 | j::r,us,A=>bh ops r us (match ops[j]? with | none=>A | some o=>A.put o.dst (us j))
theorem pJ {a:Act} {k:Nat} (hd:∀i o,i<k->ops[i]?=some o->∀j oj,j<k->ops[j]?=some oj->∀d,o.dst=some d->oj.dst=some d->j=i) (hk:k<=ops.size) (V:Nat->Value):∀(l:List Nat) (D:Nat->Prop) (A:Act),(∀j,D j->j<k)->(∀j∈l,j<k/\¬D j)->l.Nodup->bi a ops V D A->bi a ops V (fun j=>D j\/j∈l) (bh ops l V A)
 | [],D,A,_,_,_,h=>h.same (fun j=>zS)
 | j::r,D,A,hD,hl,hn,h=>by
  have hj:=hl j zS;have hjn:j<ops.size:=zO
  have ho:ops[j]?=some ops[j]:=Zcc hjn
  have h1:=h.put ho (fun j' oj d oC jf qD jL=>by
   have:=hd j _ hj.1 ho j' oj (hD j' oC) jf d qD jL
   subst this
   exact hj.2 oC)
  have XV:=List.nodup_cons.1 hn
  have:=pJ hd hk V r (fun x=>D x\/x=j) _ (fun x hx=>hx.elim (hD x) (fun e=>zO)) (fun x hx=>⟨(hl x (Zbd _ hx)).1,fun e=>e.elim (hl x (Zbd _ hx)).2 (fun e=>by subst e;exact XV.1 hx)⟩) XV.2 h1
  unfold bh;rw[ho];exact this.same (fun x=>by simp[or_assoc])
end
theorem nD {P:Program} {ops:Array Oper} {w0:World} {fin:Act->World->Prop} {o:Oper} {rest:List Oper} {A:Act} {W:World} {ob:Obj} {v:Value} (hw:Region.wanted o (yielded ops A.tmps)=true) (h:(execOp A.eval o).run P W=.ok (.value v) (W.alloc ob)) (hS:ab w0 W)
  (hr:∀W',W'=W.alloc ob->ab w0 W'->bP P ops (ab w0) fin rest (A.put o.dst v) W'):bP P ops (ab w0) fin (o::rest) A W:=
 Dz hw h (ad _ hS) (hr _ rfl (ad _ hS))
def kt (w:World) (k:Nat):World:={ w with heap:=w.heap.extract 0 k }
theorem mB (w:World) {k:Nat} (hk:k<=w.heap.size):(kt w k).heap.size=k:=by simp[kt];omega
theorem nE (w:World) {k:Nat} (hk:k<=w.heap.size):ab (kt w k) w:=by
 refine⟨rfl,rfl,rfl,by rw[mB w hk];exact hk,fun i hi=>?_⟩
 rw[mB w hk]at hi;simp[kt,Array.getElem?_extract]
 omega
theorem xE {w0 w:World} {k:Nat} (h:ab w0 w) (hk:k<=w.heap.size) (h0:w0.heap.size<=k):ab w0 (kt w k):=by
 refine⟨h.os,h.tape,h.output,by rw[mB w hk];exact h0,fun i hi=>?_⟩
 have:=h.block i hi
 simp only[kt,Array.getElem?_extract];rw[if_pos zO];simpa using this
def bD (W:World) (b:Nat) (x y z:Value):Prop:=W.heap[b]?=some (.cells #[x,y,z] 30)
theorem bD.box {W:World} {b:Nat} {x y z:Value} (h:bD W b x y z):bB W b x y z:=⟨_,h⟩
theorem bD.lt {W:World} {b:Nat} {x y z:Value} (h:bD W b x y z):b<W.heap.size:=(Zas.1 h).1
theorem bD.since {W W':World} {b:Nat} {x y z:Value} (h:bD W b x y z) (hs:ab W W'):bD W' b x y z:=(hs.block b h.lt).trans h
def rf (W:World) (B:Nat) (u:Value):Prop:=∃b,u=.pointer (some ⟨b,0,none⟩)/\B<=b/\bD W b (.slice none 0 0) (.slice none 0 0) (.slice none 0 0)
theorem rf.agU {W W':World} {B:Nat} {u:Value} (h:rf W B u) (hs:ab W W'):rf W' B u:=by
 obtain⟨b,h1,h2,h3⟩:=h;exact⟨b,h1,h2,h3.since hs⟩
theorem rf.new (W:World) {B:Nat} (h:B<=W.heap.size):rf (W.alloc (.cells #[.slice none 0 0,.slice none 0 0,.slice none 0 0] 30)) B (.pointer (some ⟨W.heap.size,0,none⟩)):=
 ⟨_,rfl,h,by show(W.heap.push _)[W.heap.size]?=_;rw[Zbc]⟩
theorem yC {W:World} {base b:Nat} {v x y z:Value} {xs:List Int} (h:Own W base v xs) (hb:bD W b x y z):v.ownBlock≠some b:=by
 rcases h.2 with⟨rfl,_⟩ | ⟨g,cap,cur,rfl,_,hc,_⟩
 ·simp[Value.ownBlock]
 ·intro e;simp[Value.ownBlock]at e
  subst e;unfold bD at hb;rw[hb]at hc;simp at hc
theorem NG {w w0:World} {ops:Array Oper} {rest:List Oper} {o:Oper} {a:Act} {Q:Exit->Act->World->Prop} (gT:o.guard=none) (s x:Operand)
  (ho:o.op=.call { callee:=.builtin .append,args:=#[s,x],argTypes:=#[59,59] }) {v u:Value} {xs ys:List (Int×Int)} {T:List Nat} (hs:a.eval s=v) (h:eE w w0.heap.size v xs T) (hy:CF w u ys)
  (hx:a.eval x=u) (hl:xs.length+ys.length<=1000000) (kj:ab w0 w)
  (k:∀v' w' T',eE w' w0.heap.size v' (xs++ys) T'->(∀j∈T',j∈T\/j=w.heap.size)->aV T w w'->ab w0 w'->wpList Tryz.prog ops Q rest (a.put o.dst v') w'):wpList Tryz.prog ops Q (o::rest) a w:=by
 obtain⟨i0,hi,e_,dP,dY⟩:=info_parts zv;obtain⟨A,c,rfl,_,_,hA⟩:=hy;have aA:=fun q hq=>Zad h.1 q hq
 rcases Zbk ys.length with h0 | h0
 ·have CM:ys=[]:=Zae h0;subst CM;refine wpList_plain gT fun K hK=>?_
  have ig:(Builtin.append_ #[59,59] o.type #[v,.slice A 0 c]).run Tryz.prog w=.ok v w:=by
   rcases h.1.2 with⟨rfl,nG⟩ | ⟨g,cap,cur,rfl,_,_,JI,_⟩
   ·cases A <;> simp[Builtin.append_,run_underlying Tryz.underlying59,sizeOf,typeInfo,hi,Builtin.lenOf,Builtin.firstCells,loadCells,loadCellsFrom,Result.andThen]
   ·cases A <;> simp[Builtin.append_,run_underlying Tryz.underlying59,sizeOf,typeInfo,hi,Builtin.lenOf,Builtin.firstCells,JI,storeCells,loadCells,loadCellsFrom,Result.andThen]
  simp only[List.length_nil]at hx;unfold Oper.wp;simp[execOp,ho,resolve,invoke,builtin,hs,hx,ig,Result.andThen]
  exact hK _ _ (k v w T (by simpa using h) (fun j hj=>.inl hj) (aV.refl _ _) kj)
 ·obtain⟨y0,PQ⟩:=au ys 0 h0;obtain⟨b,off,rfl,_⟩:=hA 0 y0 PQ
  refine wpList_append_lies w gT s x 59 ho w0.heap.size 104 i0 _ 2 16 Tryz.underlying59 hi e_ dP dY rfl (by decide) v xs.length (xs.flatMap oO) hs h.1 ⟨b,off,none⟩ ys.length c (ys.flatMap oO) hx (Gq ys)
   (by
    intro j u hj;have CE:=ah hj;rw[Gq]at CE;obtain⟨e,he⟩:=au ys (j/2) zO;obtain⟨b',nf,e',c1,c2⟩:=hA (j/2) e he;cases e';obtain⟨g1,g2⟩:=q8 he;rw[Go.Addr.add_lit];rcases Nat.mod_two_eq_zero_or_one j with hm | hm
    ·have e1:j/2*2=j:=zO
     rw[e1]at c1 g1;rw[g1]at hj
     rw[c1];exact hj
    ·have e1:j/2*2+1=j:=zO
     rw[e1]at g2;rw[show off+j/2*2+1=off+j by omega]at c2
     rw[g2]at hj
     rw[c2];exact hj) (by intro u hu;obtain⟨x,_,hx⟩:=List.mem_flatMap.1 hu;simp[oO]at hx;rcases hx with rfl | rfl <;> rfl) h0 (by unfold maxLen;omega) zO kj.below.size w.heap.size rfl ?_
  intro g cap w' q1 q2 q3 q4;have hT:=h.2
  refine k _ w' _ ⟨?_,rfl⟩ ?_ (by rw[hT];exact aV.agZ q2) (Below.grown kj q2 kj.below.size (fun q hq=>(aA q hq).1))
  ·rw[List.flatMap_append,Zay];exact q1
  ·intro j hj;simp[Value.ownBlock]at hj
   subst hj;rcases q3 with q3 | q3
   ·left;rw[hT,q3];simp
   ·exact .inr q3
theorem aZ.ahD {β:Type} {R:World->Nat->Value->β->List Nat->Prop} {e:TypeId} (L:eG R) {w w':World} {base g cap:Nat} {v u:Value} {xs:List β} {x:β} {S T:List Nat} (h:aZ e R w base v xs S) (hu:R w base u x T) (hd:∀j∈T,j∉S)
  (vs:List Value) (Ss:List (List Nat)) (h1:w.ownsRow base e 1 v xs.length vs) (h2:Ss.length=xs.length) (h3:∀(k:Nat) u x T,vs[k]?=some u->xs[k]?=some x->Ss[k]?=some T->R w base u x T) (h4:S=v.ownBlock.toList++Ss.flatten) (h5:S.Nodup)
  (q1:w'.ownsRow base e 1 (.slice (some ⟨g,0,none⟩) (xs.length+1) cap) (xs.length+1) (vs++[u])) (q2:w.grownBy w' v.ownBlock) (q3:v.ownBlock=some g\/g=w.heap.size):
  ∃S',aZ e R w' base (.slice (some ⟨g,0,none⟩) (xs.length+1) cap) (xs++[x]) S'/\(∀j∈S',j∈S\/j∈T\/j=w.heap.size):=by
 have hS:=(mw e L).range h;have hTr:=L.range hu;have xA:vs.length=xs.length:=by simpa using h1.1
 have uH:=h5;rw[h4,Zat]at uH
 have cH:∀j∈Ss.flatten,j∈S:=fun j hj=>by rw[h4];exact Zao _ hj
 have eB:=aV.agZ q2;have XW:∀j∈Ss.flatten,j∉v.ownBlock.toList:=fun j hj hv=>uH.2.2 j hv j hj rfl
 have hTv:∀j∈T,j∉v.ownBlock.toList:=fun j hj hv=>hd j hj (by rw[h4];exact Zax _ hv)
 have hg:g∉Ss.flatten:=fun hg=>by
  rcases q3 with q3 | q3
  ·exact XW g hg (by rw[q3];simp)
  ·have:=(hS g (cH g hg)).2;omega
 have CI:g∉T:=fun hg=>by
  rcases q3 with q3 | q3
  ·exact hTv g hg (by rw[q3];simp)
  ·have:=(hTr g hg).2;omega
 refine⟨[g]++(Ss++[T]).flatten,⟨vs++[u],Ss++[T],?_,by simp[h2],?_,by simp[Value.ownBlock],?_⟩,?_⟩
 ·rw[Zay];exact q1
 ·intro k u' x' T' zt FO ww;rcases Zbi k xs.length with hk | hk
  ·rw[Zcb zO]at zt FO ww;exact L.only (h3 k u' x' T' zt FO ww) eB (fun j hj=>XW j (Zap.2 ⟨T',Zaq ww,hj⟩))
  ·have lW:k=xs.length:=by
    have:=ah FO
    simp at this;omega
   subst lW;rw[Zca (Zaj _),Nat.sub_self]at FO;rw[<- xA,Zca (Zaj _),Nat.sub_self]at zt;rw[<- h2,Zca (Zaj _),Nat.sub_self]at ww;simp at zt FO ww
   subst zt FO ww;exact L.only hu eB hTv
 ·rw[List.flatten_append,Zat];refine⟨zS,?_,?_⟩
  ·rw[Zat];refine⟨uH.2.1,by simpa using L.nodup hu,?_⟩
   intro a ha b hb e;simp at hb
   subst e;exact hd a hb (cH a ha)
  ·intro a ha b hb e;simp at ha
   subst e ha;rcases Zar.1 hb with hb | hb
   ·exact hg hb
   ·simp at hb;exact CI hb
 ·intro j hj;rw[List.flatten_append]at hj;rcases Zar.1 hj with hj | hj
  ·simp at hj
   subst hj;rcases q3 with q3 | q3
   ·left;rw[h4,q3];simp
   ·exact .inr (.inr q3)
  ·rcases Zar.1 hj with hj | hj
   ·exact .inl (cH j hj)
   ·simp at hj;exact .inr (.inl hj)
theorem rg {w wT:World} {ops:Array Oper} {rest:List Oper} {o:Oper} {a:Act} {Q:Exit->Act->World->Prop} (gT:o.guard=none) (s x:Operand)
  (ho:o.op=.call { callee:=.builtin .append,args:=#[s,x],argTypes:=#[27,27] }) {base:Nat} {v ui un u:Value} {N:ao} {S T:List Nat} {es:List (Int×Int)} (hs:a.eval s=v) (h:aw w base v ui un N S)
  (b:Nat) (hx:a.eval x=.slice (some ⟨b,0,none⟩) 1 1) (hc:w.cell? ⟨b,0,none⟩=some u) (hu:eE w base u es T) (hd:∀j∈T,j∉S) (hl:N.ends.length+1<=1000000) (kj:ab wT w) (Aa:base<=w.heap.size) (hvT:∀q,v.ownBlock=some q->wT.heap.size<=q)
  (k:∀v' w' S',(∀q,v'.ownBlock=some q->v.ownBlock=some q\/q=w.heap.size)->aw w' base v' ui un { N with ends:=N.ends++[es] } S'->(∀j∈S',j∈S\/j∈T\/j=w.heap.size)->aV S w w'->ab wT w'->wpList Tryz.prog ops Q rest (a.put o.dst v') w'):wpList Tryz.prog ops Q (o::rest) a w:=by
 obtain⟨i0,hi,e_,dP,dY⟩:=info_parts L9;have JX:=h.range;obtain⟨S1,S2,S3,h1,h2,h3,h4,h5⟩:=h;have QV:=h1;obtain⟨vs,Ss,r1,r2,r3,r4,r5⟩:=h1;obtain⟨A,m,c,rfl⟩:=gY.one hu
 refine wpList_append_lies w gT s x 27 ho base 59 i0 _ 1 24 Tryz.underlying27 hi e_ dP dY rfl (by decide) v N.ends.length vs hs r1 ⟨b,0,none⟩ 1 1 [.slice A m c] hx rfl
  (by intro j u hj;match j,hj with | 0,hj=>(simp at hj;subst hj;simpa[Addr.add]using hc) | j+1,hj=>simp at hj) (by simp[Value.oneCell']) zO (by unfold maxLen;omega) zO Aa w.heap.size rfl ?_
 intro g cap w' q1 q2 q3 q4;rw[h4,Zat]at h5;obtain⟨n1,n2,n3⟩:=h5
 have qD:∀j∈T,j∉S1:=fun j hj hS=>hd j hj (by rw[h4];exact Zax _ hS)
 obtain⟨S1',o1,nq⟩:=aZ.ahD gY QV hu qD vs Ss r1 r2 r3 r4 r5 q1 q2 q3;have eB:=aV.agZ q2
 have hvS:∀j∈v.ownBlock.toList,j∈S1:=fun j hj=>by rw[r4];exact Zax _ hj
 have d:∀j∈S2++S3,j∉v.ownBlock.toList:=fun j hj hv=>n3 j (hvS j hv) j hj rfl
 refine k _ w' (S1'++(S2++S3)) (fun q hq=>by simp[Value.ownBlock]at hq;subst hq;exact q3) ⟨S1',S2,S3,?_,fT.only h2 eB (fun j hj=>d j (Zax _ hj)),fT.only h3 eB (fun j hj=>d j (Zao _ hj)),rfl,?_⟩ ?_ (eB.mono fun j hj=>by rw[h4];exact Zax _ (hvS j hj)) (Below.grown kj q2 kj.below.size hvT)
 ·exact o1
 ·rw[Zat];refine⟨nA.nodup o1,n2,fun a ha b hb oe=>?_⟩
  subst oe;rcases nq a ha with h | h | h
  ·exact n3 a h a hb rfl
  ·exact hd a h (by rw[h4];exact Zao _ hb)
  ·have:=(JX a (by rw[h4];exact Zao _ hb)).2
   omega
 ·intro j hj;rcases Zar.1 hj with hj | hj
  ·rcases nq j hj with h | h | h
   ·exact .inl (by rw[h4];exact Zax _ h)
   ·exact .inr (.inl h)
   ·exact .inr (.inr h)
  ·exact .inl (by rw[h4];exact Zao _ hj)
theorem aw.ag7 {w:World} {base g c n:Nat} {vi vn:Value} {N:ao} {S:List Nat} (h:aw w base (.slice (some ⟨g,0,none⟩) n c) vi vn N S) {k j:Nat} {es:List (Int×Int)} (hx:N.ends[k]?=some es) (hj:j<es.length):
  ∃gr cr,w.cell? ⟨g,k,none⟩=some (.slice (some ⟨gr,0,none⟩) es.length cr)/\es.length<=cr/\cr<=maxLen/\g∈S/\gr∈S/\g≠gr/\(w.frozen? ⟨gr,j*2,none⟩=false/\w.frozen? ⟨gr,j*2+1,none⟩=false)/\(∃z,w.cell? ⟨gr,j*2,none⟩=some z)/\(∃z,w.cell? ⟨gr,j*2+1,none⟩=some z) /\
   ∀y:Int×Int,aw ((w.setCell ⟨gr,j*2,none⟩ (.int .i64 y.1)).setCell ⟨gr,j*2+1,none⟩ (.int .i64 y.2)) base (.slice (some ⟨g,0,none⟩) n c) vi vn { N with ends:=N.ends.set k (es.set j y) } S:=by
 obtain⟨S1,S2,S3,h1,h2,h3,h4,h5⟩:=h;obtain⟨u,T,hu,hR,hT,kh⟩:=aZ.ahn gY h1 hx;have hnd:=(mw _ gY).nodup h1;obtain⟨_,_,_,_,_,abF,_,tC⟩:=aZ.at_ h1 hx;rw[h4,Zat]at h5;obtain⟨n1,n2,n3⟩:=h5;have XP:=hR.1;rcases cj hR.1 with⟨rfl,h0⟩ | ⟨gr,cr,rfl,aP,aS,er,pu⟩
 ·omega
 ·have Zs:gr∈T:=by rw[hR.2];simp[Value.ownBlock]
  obtain⟨y0,PQ⟩:=au es j hj;obtain⟨c1,c2,ff⟩:=eE.cells hR PQ
  have jh:g≠gr:=fun e=>by
   subst e;obtain⟨vs,Ss,e1,_⟩:=h1;rcases e1.2 with⟨h0,_⟩ | ⟨q',CC,abG,h0,_,UV,_⟩
   ·cases h0
   ·cases h0;rcases XP.2 with⟨h0,_⟩ | ⟨q'',afZ,af0,h0,_,abH,_⟩
    ·cases h0
    ·cases h0;rw[UV]at abH;simp at abH
  refine⟨gr,cr,hu,er,pu,by rw[h4];exact Zax _ tC,by rw[h4];exact Zax _ (hT gr Zs),jh,ff,⟨_,c1⟩,⟨_,c2⟩,fun y=>?_⟩
  have eB:aV T w ((w.setCell ⟨gr,j*2,none⟩ (.int .i64 y.1)).setCell ⟨gr,j*2+1,none⟩ (.int .i64 y.2)):=((aV.refl _ _).setCell (.inl Zs) _).setCell (.inl Zs) _;have d:∀q∈S2++S3,q∉T:=fun q hq hqT=>n3 q (hT q hqT) q hq rfl
  exact⟨S1,S2,S3,kh _ _ (eE.set hR hj y) eB,fT.only h2 eB (fun q hq=>d q (Zax _ hq)),fT.only h3 eB (fun q hq=>d q (Zao _ hq)),h4,by rw[h4,Zat];exact⟨n1,n2,n3⟩⟩
theorem NH {w:World} {b:Nat} {x y z:Value} (h:bD w b x y z):bD (kt w (b+1)) b x y z:=by
 have:=h.lt
 unfold bD at h ⊢
 simp only[kt,Array.getElem?_extract];rw[if_pos zO];simpa using h
theorem bD.only {S:List Nat} {W W':World} {b:Nat} {x y z:Value} (h:bD W b x y z) (ho:aV S W W') (hb:b∉S):bD W' b x y z:=(ho.block b h.lt hb).trans h
theorem bD.ahb {W:World} {b:Nat} {x y z:Value} (h:bD W b x y z) (u:Value):bD (W.setCell ⟨b,0,none⟩ u) b u y z:=by
 unfold bD at h ⊢
 simp[World.setCell,Zbf,h]
theorem bD.ahh {W:World} {b:Nat} {x y z:Value} (h:bD W b x y z) (u:Value):bD (W.setCell ⟨b,1,none⟩ u) b x u z:=by
 unfold bD at h ⊢
 simp[World.setCell,Zbf,h]
theorem bD.ahe {W:World} {b:Nat} {x y z:Value} (h:bD W b x y z) (u:Value):bD (W.setCell ⟨b,2,none⟩ u) b x y u:=by
 unfold bD at h ⊢
 simp[World.setCell,Zbf,h]
theorem bD.other {W:World} {b:Nat} {x y z u:Value} {a:Addr} (h:bD W b x y z) (ha:b≠a.block):bD (W.setCell a u) b x y z:=(Zan W a u b ha).trans h
theorem DA {w:World} {base:Nat} {v ui un:Value} {ep:List (List (Int×Int))} {ids ins:List Int} {S1:List Nat} (hE:zu w base v ep S1) (h1:Own w base ui ids) (h2:Own w base un ins)
  (d1:∀j∈S1,ui.ownBlock≠some j) (d2:∀j∈S1,un.ownBlock≠some j) (d3:∀j,ui.ownBlock=some j->un.ownBlock≠some j):
  aw w base v ui un ⟨ep,ids,ins⟩ (S1++(ui.ownBlock.toList++un.ownBlock.toList)):=by
 refine⟨S1,_,_,hE,⟨h1,rfl⟩,⟨h2,rfl⟩,rfl,?_⟩;rw[Zat,Zat]
 refine⟨nA.nodup hE,⟨by cases ui.ownBlock <;> simp,by cases un.ownBlock <;> simp,?_⟩,?_⟩
 ·intro a ha b hb e;subst e;exact d3 a (by simpa using ha) (by simpa using hb)
 ·intro a ha b hb e;subst e;rcases Zar.1 hb with hb | hb
  ·exact d1 a ha (by simpa using hb)
  ·exact d2 a ha (by simpa using hb)
theorem DB {w:World} {ops:Array Oper} {rest:List Oper} {o:Oper} {a:Act} {Q:Exit->Act->World->Prop} (gT:o.guard=none) (s x:Operand)
  (ho:o.op=.call { callee:=.builtin .append,args:=#[s,x],argTypes:=#[28,28] }) {base:Nat} {v:Value} {xs:List Int} (hs:a.eval s=v) (h:Own w base v xs) (A:Option Addr) (c:Nat) (hx:a.eval x=.slice A 0 c)
  (k:wpList Tryz.prog ops Q rest (a.put o.dst v) w):wpList Tryz.prog ops Q (o::rest) a w:=by
 obtain⟨i0,hi,e_,dP,dY⟩:=info_parts mp;refine wpList_plain gT fun K hK=>?_
 have ig:(Builtin.append_ #[28,28] o.type #[v,.slice A 0 c]).run Tryz.prog w=.ok v w:=by
  rcases h.2 with⟨rfl,nG⟩ | ⟨g,cap,cur,rfl,_,_,JI,_⟩
  ·cases A <;> simp[Builtin.append_,run_underlying Tryz.underlying28,sizeOf,typeInfo,hi,Builtin.lenOf,Builtin.firstCells,loadCells,loadCellsFrom,Result.andThen]
  ·cases A <;> simp[Builtin.append_,run_underlying Tryz.underlying28,sizeOf,typeInfo,hi,Builtin.lenOf,Builtin.firstCells,JI,storeCells,loadCells,loadCellsFrom,Result.andThen]
 unfold Oper.wp;simp[execOp,ho,resolve,invoke,builtin,hs,hx,ig,Result.andThen]
 exact hK _ _ k
theorem NI (w:World):eE (w.alloc (.cells #[] 104)) w.heap.size (.slice (some ⟨w.heap.size,0,none⟩) 0 0) [] [w.heap.size]:=by
 have:=World.ownsRow_lit (base:=w.heap.size) (e:=104) (size:=2) w #[] 0 (Zaj _) (by simp[maxLen]) zS
 exact⟨this,rfl⟩
theorem iU (v:Value) (xs:List Int) (w:World) (h:bs w v xs) (hl:xs.length<=17592186044416):
  Calls Tryz.prog 101 #[v] w fun e w'=>∃u,e=.returned u/\Own w' w.heap.size u xs/\Below w.heap.size w w':=by
 rcases Zbk xs.length with h0 | h0
 ·obtain rfl:xs=[]:=Zae h0
  obtain⟨A,c,rfl,fR,hm,_⟩:=h;have ho:=dS w [] (by simp[maxLen]);simp only[List.map_nil,List.length_nil]at ho;have Ho:=zh ho;clear ho
  go_enter Tryz.func101,Tryz.ntmps101
  go_wp2_with (at_builtin;refine DB rfl _ _ rfl rfl Ho A c rfl ?_)
  go_wp2;go_ret;exact⟨_,rfl,Ho,am _ _⟩
 ·exact Nn v xs w h h0 hl
theorem Ab (n lo hi:Int) (w:World):Calls Tryz.prog 34 #[.int .i64 n,.int .i64 lo,.int .i64 hi] w fun e w'=>e=.returned (.bool (jK lo hi n))/\Below w.heap.size w w':=(ie n lo hi w).mono fun _ _ ⟨h1,h2⟩=>⟨h1,h2 ▸ Zaf _ _⟩
theorem QW (n lo hi:Int) (w:World):Calls Tryz.prog 52 #[.int .i64 n,.int .i64 lo,.int .i64 hi] w fun e w'=>e=.returned (.bool (jK lo hi n))/\Below w.heap.size w w':=(gA n lo hi w).mono fun _ _ ⟨h1,h2⟩=>⟨h1,h2 ▸ Zaf _ _⟩
theorem NJ {a b:Bool} (h:(a&&b)=true):a=true:=by simp at h;exact h.1
theorem ad1 {a b:Bool} (h:(a&&b)=true):b=true:=by simp at h;exact h.2
theorem Mi (p:aq):bV p=(jK 1 8 p.labels&&jK 1 4 p.degree&&zC p.nodes p.degree p.labels&&zC p.agW 2 p.labels):=by unfold bV;simp only[Bool.and_assoc]
theorem iq (a b:Value) (p:aq) (w:World) (h:el w a b p):Calls Tryz.prog 31 #[.agg #[.int .i64 p.labels,.int .i64 p.degree,a,b]] w fun e w'=>e=.returned (.bool (bV p))/\Below w.heap.size w w':=by
 obtain⟨w0,P0,iG,P1,it,rfl,rfl,jj,jk,jl,jm,jn,jo,HP,cD,aY,fp,fE,fM,ku⟩:=UZ h;clear h
 obtain⟨J9,Ka⟩:=A_ (show ∀X,ab w0 X->bS X (.slice P0 p.nodes.length iG) p.nodes from fun X hX=>(HP.out.agU hX).1) (show ∀X,ab w0 X->bS X (.slice P1 p.agW.length it) p.agW from fun X hX=>(HP.out.agU hX).2)
 go_enter Tryz.func31,Tryz.ntmps31
 go_upto_region 1 with(fail);rw[<- cD.out];refine aM 25 (ab w0) (aa _) ?_;simp only[zT]
 iterate 2 (refine ch rfl ?_;simp only[zA])
 apply dE _ rfl;(intro W hW;unfold a_;go_simp;with_reducible exact zQ (Ab _ _ _ W));simp only[zA]
 refine ch rfl ?_;simp only[zA]
 iterate 2 (refine iT rfl rfl ?_;simp only[zA])
 apply bn rfl rfl;(intro hb;intro W hW;unfold a_;go_simp;with_reducible exact zQ (Ab _ _ _ W));simp only[zA]
 (first | refine dy rfl rfl ?_ | (refine ch rfl ?_));simp only[zA]
 refine ch rfl ?_;simp only[zA]
 iterate 6 (refine iT rfl rfl ?_;simp only[zA])
 apply bn rfl rfl;(intro hb;intro W hW;unfold a_;go_simp;with_reducible exact zQ (kY _ p.nodes p.degree p.labels W (J9.out W hW) (aB.1 (NJ hb))));simp only[zA]
 (first | refine dy rfl rfl ?_ | (refine ch rfl ?_));simp only[zA]
 refine ch rfl ?_;simp only[zA]
 iterate 4 (refine iT rfl rfl ?_;simp only[zA])
 apply bn rfl rfl;(intro hb;intro W hW;unfold a_;go_simp;with_reducible exact zQ (kY _ p.agW 2 p.labels W (Ka.out W hW) (aB.1 (NJ (NJ hb)))));simp only[zA]
 (first | refine dy rfl rfl ?_ | (refine ch rfl ?_));simp only[zA]
 refine ch rfl ?_;simp only[zA]
 intro W5 uO;have J3:=zh (ab.after aY.out uO);clear uO;have hr:=zh (Mi p);go_wp2;go_ret;exact⟨bG hr.symm,J3⟩
theorem Kb (a b:Value) (p:aq) (w:World) (h:el w a b p):Calls Tryz.prog 50 #[.agg #[.int .i64 p.labels,.int .i64 p.degree,a,b]] w fun e w'=>e=.returned (.bool (bV p))/\Below w.heap.size w w':=by
 obtain⟨w0,P0,iG,P1,it,rfl,rfl,jj,jk,jl,jm,jn,jo,HP,cD,aY,fp,fE,fM,ku⟩:=UZ h;clear h
 obtain⟨J9,Ka⟩:=A_ (show ∀X,ab w0 X->bS X (.slice P0 p.nodes.length iG) p.nodes from fun X hX=>(HP.out.agU hX).1) (show ∀X,ab w0 X->bS X (.slice P1 p.agW.length it) p.agW from fun X hX=>(HP.out.agU hX).2)
 go_enter Tryz.func50,Tryz.ntmps50
 go_upto_region 1 with(fail);rw[<- cD.out];refine aM 25 (ab w0) (aa _) ?_;simp only[zT]
 iterate 2 (refine ch rfl ?_;simp only[zA])
 apply dE _ rfl;(intro W hW;unfold a_;go_simp;with_reducible exact zQ (QW _ _ _ W));simp only[zA]
 refine ch rfl ?_;simp only[zA]
 iterate 2 (refine iT rfl rfl ?_;simp only[zA])
 apply bn rfl rfl;(intro hb;intro W hW;unfold a_;go_simp;with_reducible exact zQ (QW _ _ _ W));simp only[zA]
 (first | refine dy rfl rfl ?_ | (refine ch rfl ?_));simp only[zA]
 refine ch rfl ?_;simp only[zA]
 iterate 6 (refine iT rfl rfl ?_;simp only[zA])
 apply bn rfl rfl;(intro hb;intro W hW;unfold a_;go_simp;with_reducible exact zQ (xD _ p.nodes p.degree p.labels W (J9.out W hW) (aB.1 (ad1 hb)) (aB.1 (NJ hb))));simp only[zA]
 (first | refine dy rfl rfl ?_ | (refine ch rfl ?_));simp only[zA]
 refine ch rfl ?_;simp only[zA]
 iterate 4 (refine iT rfl rfl ?_;simp only[zA])
 apply bn rfl rfl;(intro hb;intro W hW;unfold a_;go_simp;with_reducible exact zQ (xD _ p.agW 2 p.labels W (Ka.out W hW) ⟨zO,zO⟩ (aB.1 (NJ (NJ hb)))));simp only[zA]
 (first | refine dy rfl rfl ?_ | (refine ch rfl ?_));simp only[zA]
 refine ch rfl ?_;simp only[zA]
 intro W5 uO;have J3:=zh (ab.after aY.out uO);clear uO;have hr:=zh (Mi p);go_wp2;go_ret;exact⟨bG hr.symm,J3⟩
theorem pH.at_ {nU l:List Int} {i k:Nat} (h:pH nU l i k):k<=i/\i<l.length/\l.length=nU.length:=by
 obtain⟨h1,h2,h3⟩:=VK h;exact⟨h2,h3,h1⟩
theorem pK (v:Value) (xs:List Int) (w:World) (h:bs w v xs) (hl:xs.length<=1000000):
  Calls Tryz.prog 121 #[v] w fun e w'=>∃u,e=.returned u/\Own w' w.heap.size u (dz xs)/\Below w.heap.size w w':=by
 have H:=zh h;obtain⟨A,c,rfl,fR,hm,hA⟩:=h;have eZ:∀l:List Int,l.Perm xs->l.length=xs.length:=fun l hp=>hp.length_eq
 have Kc:=zh eZ;clear hA eZ
 go_enter Tryz.func121,Tryz.ntmps121
 go_upto_region 2 with(go_at_call 101;refine(iU _ xs _ H zO).mono ?_;rintro e w1 ⟨u1,rfl,gL,aP⟩)
 rcases gL.cases with⟨rfl,h0⟩ | ⟨g,cg,rfl,tC,ut⟩
 ·obtain⟨Ck,jR⟩:=A_ gL aP
  have nG:xs.length=0:=by rw[h0];rfl
  have Hs:Hid (dz xs=[]):=by show _=_;rw[h0];exact List.mergeSort_nil
  have H0:=zh h0;clear gL aP h0;go_wp2
  go_loopw [11] (fun i wr=>i=.int .i64 0/\wr=w1) (fun _ _=>0)
  case atStart=>exact⟨rfl,rfl⟩
  case round=>
   obtain⟨rfl,rfl⟩:=hrel;go_wp2;go_ret
   exact⟨_,rfl,by rw[Hs.out];exact fA _ _,jR⟩
 ·obtain⟨Ck,jR⟩:=A_ gL aP;clear gL aP;go_wp2
  go_loopw [11] (fun i wr=>∃(k:Nat) (l:List Int),k<=xs.length/\i=.int .i64 k/\uQ xs l k/\Own wr w.heap.size (.slice (some ⟨g,0,none⟩) xs.length cg) l/\Below w.heap.size w wr) (fun i _=>xs.length-(intOf i).toNat)
  case atStart=>exact⟨0,xs,Zac _,rfl,⟨zS,List.Perm.refl _⟩,Ck,jR⟩
  case round=>
   obtain⟨i,l,hi,rfl,hst,ho,hb⟩:=hrel;obtain⟨nr,Ho,Hb⟩:=B_ hst ho hb;clear hst ho hb
   by_cases aA:i<xs.length
   ·go_upto_region 6 with(fail)
    go_loopw [5] (fun p wr=>∃(k:Nat) (l:List Int),k<=i/\p=.int .i64 k/\pH xs l i k/\Own wr w.heap.size (.slice (some ⟨g,0,none⟩) xs.length cg) l/\Below w.heap.size w wr) (fun p _=>(intOf p).toNat)
    case atStart=>exact⟨i,l,Zaj _,rfl,NA nr (by rw[Kc.out l nr.out.2];exact aA),Ho,Hb⟩
    case round=>
     obtain⟨k,l,hk,rfl,cH,ho,hb⟩:=hrel;obtain⟨wE,Ho,Hb⟩:=B_ cH ho hb;have Cj:=(pH.at_ cH).2.2;have Zm:Hid (l.length=xs.length):=Cj;obtain⟨x,hx⟩:=au l k zO;have Hx:=zh hx;have k1:=ae (ho.cell hx);have fx:=ho.free k;clear cH ho hb hx Cj;rcases Zbk k with h0 | h0
     ·subst h0;go_upto_region 6 with(fail);refine ap 14 (ab wr) zK zK zS (aj (aa _)) ?_;simp only[zT]
      iterate 3 (refine ch rfl ?_;simp only[zA])
      iterate 10 (refine mf rfl rfl (by simp[*]) ?_;simp only[zA])
      (first | refine dy rfl rfl ?_ | (refine ch rfl ?_));simp only[zA]
      intro W5 uO;obtain⟨J3,Mj⟩:=A_ (Hb.out.trans (uO.mono Hb.out.size)) (Ho.out.agU uO);clear uO k1 fx;go_wp2;go_roundw
      exact⟨i+1,l,zO,zM,GF wE (.inl rfl),Mj,J3⟩
      simp[intOf];omega
     ·obtain⟨m,rfl⟩:∃m,k=m+1:=⟨k-1,zO⟩
      obtain⟨y,hy⟩:=au l m (zX Zm.out)
      have Hy:=zh hy;have k2:=ae (Ho.cell hy);have fy:=Ho.free m;clear hy;have wm:IntKind.i64.wrap (m:Int)=(m:Int):=bU _ zO zO
      have wm1:IntKind.i64.wrap (((m+1:Nat):Int)-1)=(m:Int):=by rw[bU _ zO zO];omega
      have qQ:(m:Int)<xs.length:=zO
      have gC:(m:Int)+1<xs.length:=zO
      have jz:(0:Int)<=(m:Int)+1:=zO
      have hm4:(0:Int)<(m:Int)+1:=zO
      go_upto_region 6 with(fail);refine ap 14 (ab wr) zK zK zS (aj (aa _)) ?_;simp only[zT]
      iterate 3 (refine ch rfl ?_;simp only[zA])
      iterate 10 (refine iT rfl rfl ?_;simp only[zA])
      (first | refine dy rfl rfl ?_ | (refine ch rfl ?_));simp only[zA]
      intro W5 uO;obtain⟨Mj,XX⟩:=A_ (Ho.out.agU uO) (Hb.out.trans (uO.mono Hb.out.size));clear fx fy k1 k2;have k1:=Mj.cell Hx;have k2:=Mj.cell Hy;have fx:=Mj.free (m+1);have fy:=Mj.free m;clear uO
      by_cases UX:y>x
      ·have hd:decide (x<y)=true:=by simpa using UX
       have jL:decide (y>x)=true:=hd;obtain⟨HN,HBN⟩:=A_ ((Mj.out.set (k:=m+1) y).set (k:=m) x) ((XX.out.setCell (p:=⟨g,m+1,none⟩) tC (.int .i64 y)).setCell (p:=⟨g,m,none⟩) tC (.int .i64 x));go_wp2;go_roundw
       exact⟨m,_,zO,zM,QS wE Hy Hx UX,HN,HBN⟩
       case measure=>simp[intOf]
       rename_i hh
       rcases hh with hh | hh
       ·cases hh
       ·omega
      ·have hd:decide (x<y)=false:=by simpa using UX
       have jL:decide (y>x)=false:=hd;go_wp2;go_roundw
       exact⟨i+1,l,zO,zM,GF wE (.inr ⟨y,x,Hy,Hx,zO⟩),Mj,XX⟩
       simp[intOf];omega
   ·obtain rfl:i=xs.length:=zO
    have Hs:Hid (l=dz xs):=J8 (by rw[Kc.out l nr.out.2];exact nr)
    go_wp2;go_ret
    exact⟨_,rfl,by rw[<- Hs.out];exact Ho,Hb⟩
def bl (n:Nat):Nat:=if n=0 then 0 else bl (n/2)+1
theorem Ac (a b:Int) (w:World):Calls Tryz.prog 66 #[.int .i64 a,.int .i64 b] w fun e w'=>e=.returned (.int .i64 (max a b))/\w=w':=by
 by_cases h:b<a
 ·have hm:max a b=a:=zO
  rw[hm]
  go_enter Tryz.func66,Tryz.ntmps66
  go_wp2;go_ret;exact⟨rfl,rfl⟩
 ·have hm:max a b=b:=zO
  rw[hm]
  go_enter Tryz.func66,Tryz.ntmps66
  go_wp2;go_ret;exact⟨rfl,rfl⟩
section
variable {P : Program} {ops : Array Oper}
def xF (V:Nat->Value) (i:Nat) (u:Value):Nat->Value:=fun j=>if j=i then u else V j
theorem mC (V:Nat->Value) {i j:Nat} (u:Value) (h:j≠i):xF V i u j=V j:=if_neg h
theorem bX (V:Nat->Value) (i:Nat) (u:Value):xF V i u i=u:=if_pos rfl
def qq (P:Program) (o:Oper) (A:Act) (W:World) (post:Value->World->Prop):Prop:=
 match (execOp A.eval o).run P W with
 | .ok (.value u) W'=>post u W'
 | .ok (.enter f args) W'=>Calls P f args W' fun e qP=>∃u,e=.returned u/\post u qP
 | _=>False
theorem du {o:Oper} {A:Act} {W W':World} {u:Value} {post:Value->World->Prop} (h:(execOp A.eval o).run P W=.ok (.value u) W') (hp:post u W'):qq P o A W post:=by
 unfold qq;rw[h];exact hp
theorem EO {Q:Exit->Act->World->Prop} {NC:Nat} {a:Act} {w w0:World} (k:Nat) (R:Nat->(Nat->Value)->World->Prop) (hR:∀j V W W',R j V W->ab W W'->R j V W')
  (Zt:∀j V V' W,V j=V' j->(∀o,ops[j]?=some o->∀d∈da o,V d=V' d)->R j V W->R j V' W) (hm:P.follows .mixedOrders=true) (hf:xx ops k=true) (Dx:decide (k<=ops.size)=true) (aK:ab w0 w)
  (eF:∀i o,i<k->ops[i]?=some o->∀V W,ab w0 W->(∀d∈da o,R d V W)->Region.wanted o (yielded ops (bh ops (List.range k) V a).tmps)=true/\qq P o (bh ops (List.range k) V a) W (fun u W'=>ab W W'/\R i (xF V i u) W'))
  (CO:∀V W,ab w0 W->(∀j,j<k->R j V W)->wpList P ops Q (ops.toList.drop k) (bh ops (List.range k) V a) W):(Code.region NC ops true).wp P Q a w:=by
 have eZ:=uC hf;have Dx:=of_decide_eq_true Dx
 have frame:∀V,bi a ops V (fun j=>j<k) (bh ops (List.range k) V a):=fun V=>by
  have:=pJ (a:=a) eZ.aha Dx V (List.range k) (fun _=>False) a (fun _ h=>h.elim) (fun j hj=>⟨Zab.1 hj,id⟩) List.nodup_range (bi.start a V)
  exact this.same (fun j=>zS)
 let J:(Nat->Prop)->Act->World->Prop:=fun D a' W=>
  (ab w0 W/\(∀j,D j->j<k)/\∃V,bi a ops V D a'/\∀j,D j->R j V W) \/
  (∃m,k<=m/\m<=ops.size/\(∀j,j<ops.size->(D j↔j<m))/\wpList P ops Q (ops.toList.drop m) a' W)
 have z8:∀D a' W,J D a' W->(∀j,j<k->D j)->∃m,k<=m/\m<=ops.size/\(∀j,j<ops.size->(D j↔j<m))/\wpList P ops Q (ops.toList.drop m) a' W:=by
  intro D a' W hJ hD;rcases hJ with⟨hW,ux,V,oF,hV⟩ | hJ
  ·have e:a'=bh ops (List.range k) V a:=oF.ext (frame V) (fun j _=>⟨ux j,hD j⟩)
   subst e;exact⟨k,Zaj _,Dx,fun j _=>⟨ux j,hD j⟩,CO V W hW (fun j hj=>hV j (hD j hj))⟩
  ·exact hJ
 refine j3 hm eZ.back J (.inl ⟨aj aK,fun j hj=>hj.elim,fun _=>undef,bi.start a _,fun j hj=>hj.elim⟩) ?_ ?_
 ·intro D a' W i o hJ ho yl lB lC;have cH:i<ops.size:=(Zas.1 ho).1
  by_cases nS:i<k
  ·rcases hJ with⟨hW,ux,V,oF,hV⟩ | ⟨m,h1,h2,h3,_⟩
   rotate_left
   ·exact absurd ((h3 i cH).2 zO) yl
   obtain⟨hw,hst⟩:=eF i o nS ho V W hW (fun d hd=>hV d (lB d hd))
   obtain⟨he,EM⟩:=jE (ops:=ops) (a':=a') (A:=bh ops (List.range k) V a) (fun t ht=>oF.agree (frame V) t (fun j oj hj jf hd=>by
    have sU:j<k:=hj.elim (fun h=>ux j h) id
    exact⟨lB j (eZ.looks i o nS ho t ht j oj sU jf hd),sU⟩)) (fun cs b=>eZ.ahc i o cs b ho)
   have next:∀u W',ab W W'->R i (xF V i u) W'->J (fun j=>D j\/j=i) (a'.put o.dst u) W':=by
    intro u W' hS hRi;refine .inl ⟨hW.after hS,fun j hj=>hj.elim (ux j) (fun e=>zO),xF V i u,?_,fun j hj=>?_⟩
    ·have:=(oF.ag_ (v':=xF V i u) (fun j _ hj=>(mC V u (fun e=>by subst e;exact yl hj)).symm)).put (i:=i) ho (fun j oj d hj jf hd jL=>by
      have:=eZ.aha i o nS ho j oj (ux j hj) jf d hd jL
      subst this
      exact yl hj)
     rwa [bX]at this
    ·rcases hj with hj | rfl
     ·have nh:j≠i:=fun e=>by subst e;exact yl hj
      exact Zt j V _ W' (mC V u nh).symm (fun oj jf d hd=>(mC V u (fun e=>by subst e;exact yl (lC j oj hj jf d hd))).symm) (hR j V W W' (hV j hj) hS)
     ·exact hRi
   rw[if_pos (EM.trans hw)];refine .inl ?_;unfold Oper.wp;rw[he];unfold qq at hst
   generalize (execOp (bh ops (List.range k) V a).eval o).run P W=r at hst ⊢
   cases r with
   | ok nx W'=>
    cases nx with
    | value u=>exact next u W' hst.1 hst.2
    | enter f args=>
     simp only[Oper.upon]
     exact Calls.mono hst fun e qP ⟨u,Nj,h3,h4⟩=>by subst Nj;exact next u qP h3 h4
    | _=>exact hst.elim
   | halt x W'=>exact hst.elim
  ·have c_:∀j,j<i->D j:=fun j hj=>jM lC ho lB (eZ.tail i zO cH j hj)
   obtain⟨m,h1,h2,h3,h4⟩:=z8 D a' W hJ (fun j hj=>c_ j zO)
   have QU:m=i:=by
    by_cases e1:i<m
    ·exact absurd ((h3 i cH).2 e1) yl
    ·by_cases e2:m<i
     ·have:=(h3 m zO).1 (c_ m e2);omega
     ·omega
   subst QU
   have Mg:ops.toList.drop m=o::ops.toList.drop (m+1):=by
    have:m<ops.toList.length:=by simpa using cH
    rw[Zbt this];congr 1
    have:=(Zas.1 ho).2
    simpa using this
   rw[Mg]at h4;unfold wpList at h4
   have next:∀a W,wpList P ops Q (ops.toList.drop (m+1)) a W->J (fun j=>D j\/j=m) a W:=fun a W h=>.inr ⟨m+1,zO,zO,fun j hj=>by
    constructor
    ·rintro(h | rfl)
     ·have:=(h3 j hj).1 h;omega
     ·omega
    ·intro h
     by_cases e:j=m
     ·exact .inr e
     ·exact .inl ((h3 j hj).2 zO),h⟩
   split
   ·rename_i hw
    rw[if_pos hw]at h4;exact h4.imp (Oper.wp_mono next) id
   ·rename_i hw
    rw[if_neg hw]at h4;exact next _ _ h4
 ·intro D a' W hJ c_;obtain⟨m,h1,h2,h3,h4⟩:=z8 D a' W hJ (fun j hj=>c_ j zO)
  have XU:m=ops.size:=by
   by_cases e:m<ops.size
   ·have:=(h3 m e).1 (c_ m e);omega
   ·omega
  subst XU;rw[List.drop_eq_nil_of_le zS]at h4;exact h4
def RL (l:List ((Nat->Value)->World->Prop)):Nat->(Nat->Value)->World->Prop:=fun j V W=>match l[j]? with | some r=>r V W | none=>True
theorem nV {Q:Exit->Act->World->Prop} {NC:Nat} {a:Act} {w w0:World} (L:List ((Nat->Value)->World->Prop)) (hR:∀r∈L,∀V W W',r V W->ab W W'->r V W')
  (Zt:∀(j:Nat) r,L[j]?=some r->∀V V' W,V j=V' j->(∀o,ops[j]?=some o->∀d∈da o,V d=V' d)->r V W->r V' W) (k:Nat) (hm:P.follows .mixedOrders=true) (hf:xx ops k=true) (Dx:decide (k<=ops.size)=true) (aK:ab w0 w)
  (eF:∀i o,i<k->ops[i]?=some o->∀V W,ab w0 W->(∀d∈da o,RL L d V W)->Region.wanted o (yielded ops (bh ops (List.range k) V a).tmps)=true/\qq P o (bh ops (List.range k) V a) W (fun u W'=>ab W W'/\RL L i (xF V i u) W'))
  (CO:∀V W,ab w0 W->(∀j,j<k->RL L j V W)->wpList P ops Q (ops.toList.drop k) (bh ops (List.range k) V a) W):(Code.region NC ops true).wp P Q a w:=by
 refine EO k (RL L) (fun j V W W' h hs=>?_) (fun j V V' W h1 h2 h=>?_) hm hf Dx aK eF CO
 ·unfold RL at h ⊢
  cases hj:L[j]? with
  | none=>trivial
  | some r=>rw[hj]at h;exact hR r (Zaq hj) V W W' h hs
 ·unfold RL at h ⊢
  cases hj:L[j]? with
  | none=>trivial
  | some r=>rw[hj]at h;exact Zt j r hj V V' W h1 h2 h
end
end Go.Proofs.YtnioemnkfojmkaaGreat
