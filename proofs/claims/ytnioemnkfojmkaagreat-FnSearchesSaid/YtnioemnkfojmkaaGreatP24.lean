/- Parts of the proof: walks of functions and plain laws. -/
import Derived.Test.YtnioemnkfojmkaaGreatP0
import Derived.Test.YtnioemnkfojmkaaGreatP5
import Derived.Test.YtnioemnkfojmkaaGreatP10
import Derived.Test.YtnioemnkfojmkaaGreatP23
import Derived.Test.YtnioemnkfojmkaaGreatP12
import Derived.Test.YtnioemnkfojmkaaGreatP2
import Derived.Deep.CutBlock
set_option maxRecDepth 100000
set_option maxHeartbeats 16000000
namespace Go.Proofs.YtnioemnkfojmkaaGreat
open Go Go.RowKit
section
variable {P : Program} {ops : Array Oper}
def GV (ops:Array Oper) (k:Nat) (mask:List Bool):Bool:=
 ra ops ops.size&&decide (mask.length=k)&&decide (k<=ops.size) &&
 ((List.range k).all fun i=>match ops[i]? with
  | none=>true
  | some o=>if mask.getD i true then (List.range i).all fun j => !mask.getD j true||((iQ ops (i+1)).getD i []).contains j
   else (bU o).all fun j => !mask.getD j true) &&
 (List.range ops.size).all fun i=>decide (i<k)||(List.range k).all fun j=>((iQ ops (i+1)).getD i []).contains j
theorem p8 {Q:Exit->Act->World->Prop} {Ei:Nat} {a:Act} {w w0:World} (k:Nat) (mask:List Bool) (hm:P.follows .mixedOrders=true) (hc:GV ops k mask=true) (bu:aa w0 w)
  (h:ly P ops w0 (fun A=>bj P ops (aa w0) (fun A W=>∃Inv:World->Prop,Inv W/\gS P ops Inv (fun A'=>∀W',Inv W'->Q .normal A' W') (ops.toList.drop k) A) (dD mask (ops.toList.take k)) A w.drew) (ek mask (ops.toList.take k)) a):(Code.region Ei ops true).wp P Q a w:=by
 unfold GV at hc;simp only[Bool.and_eq_true,decide_eq_true_eq]at hc;obtain⟨⟨⟨⟨hf,J6⟩,xR⟩,RF⟩,abC⟩:=hc;have dJ:=ph hf
 have aH:mask.length=(ops.toList.take k).length:=by simp;omega
 have F3:∀i,i<k->∃b,mask[i]?=some b:=fun i hi=>⟨_,List.getElem?_eq_getElem (by omega)⟩
 have nA:∀i o,i<k->ops[i]?=some o->(ops.toList.take k)[i]?=some o:=fun i o hi ho=>by
  rw[List.getElem?_take,if_pos hi];simpa using ho
 have uc:∀i b,mask[i]?=some b->mask.getD i true=b:=fun i b hb=>by rw[zDd,hb];rfl
 have eE:∀i b,mask[i]?=some b->i<k:=fun i b hb=>by have:=(List.getElem?_eq_some_iff.1 hb).1;omega
 have Pv:∀i j,k<=i->i<ops.size->j<k->Jk ops j i:=fun i j P2 hi hj=>by
  have:=List.all_eq_true.1 abC i (List.mem_range.2 hi)
  rw[Bool.or_eq_true]at this;rcases this with h1 | h1
  ·simp at h1;omega
  ·exact eT (i+1) i j (by simpa using List.all_eq_true.1 h1 j (List.mem_range.2 hj))
 have chT:∀i j,mask[i]?=some true->mask[j]?=some true->j<i->Jk ops j i:=fun i j hi hj nV=>by
  have g7:=eE i _ hi;have ho:ops[i]?=some ops[i]:=Array.getElem?_eq_getElem (by omega)
  have:=List.all_eq_true.1 RF i (List.mem_range.2 g7)
  simp only[ho]at this;rw[if_pos (uc i _ hi)]at this
  have:=List.all_eq_true.1 this j (List.mem_range.2 nV)
  rw[uc j _ hj,Bool.not_true,Bool.false_or]at this;exact eT (i+1) i j (by simpa using this)
 have chF:∀i o j,mask[i]?=some false->ops[i]?=some o->j∈bU o->mask[j]?=some false:=fun i o j hi ho hj=>by
  have g7:=eE i _ hi;have nV:=dJ.back i o ho j hj
  have:=List.all_eq_true.1 RF i (List.mem_range.2 g7)
  simp only[ho]at this
  rw[if_neg (by rw[uc i _ hi];simp)]at this
  have:=List.all_eq_true.1 this j hj
  obtain⟨b,hb⟩:=F3 j (by omega);rw[uc j _ hb]at this
  cases b <;> simp_all
 obtain⟨ac6,F,h0,iK,ct⟩:=rf _ a h
 have rA:∀r,r<=mask.count false->aN a ops (fun j=>ac6 (rk false mask j)) (fun j=>mask[j]?=some false/\rk false mask j<r) (F r):=by
  intro r
  induction r with
  | zero=>intro _;rw[h0];exact⟨rfl,rfl,fun j _ _ hj=>by have:=hj.2;omega,fun _ _=>rfl⟩
  | succ r ih=>
   intro hr;obtain⟨i,qt,tZ⟩:=oe (b:=false) mask r (by omega);have g7:=eE i _ qt;have ho:ops[i]?=some ops[i]:=Array.getElem?_eq_getElem (by omega);have gV:=pt mask _ i aH qt;rw[nA i _ g7 ho,tZ]at gV;rw[(ct r _ gV).2]
   have:=((ih (by omega)).put ho (fun j oj d hj fW hd kq=>by
    have:=dJ.adk i _ (by omega) ho j oj (by have:=eE j _ hj.1;omega) fW d hd kq
    subst this
    have:=hj.2
    omega)).same (E:=fun j=>mask[j]?=some false/\rk false mask j<r+1) (fun j=>by
     constructor
     ·rintro(⟨a1,a2⟩ | rfl)
      ·exact⟨a1,by omega⟩
      ·exact⟨qt,by omega⟩
     ·rintro⟨a1,a2⟩
      by_cases e:rk false mask j=r
      ·exact .inr (sL a1 qt (by omega))
      ·exact .inl ⟨a1,by omega⟩)
   rw[show ac6 r=ac6 (rk false mask i)by rw[tZ]]
   exact this
 have Wb:(ek mask (ops.toList.take k)).length=mask.count false:=rz _ _ aH;rw[Wb]at iK
 let FIN:Act->World->Prop:=fun A W=>∃Inv:World->Prop,Inv W/\gS P ops Inv (fun A'=>∀W',Inv W'->Q .normal A' W') (ops.toList.drop k) A
 let J:(Nat->Prop)->Act->World->Prop:=fun D a' W=>
  (aa w0 W/\(∀j,D j->j<k)/\∃(V:Nat->Value) (q:Nat) (A:Act),(∀j,mask[j]?=some false->V j=ac6 (rk false mask j))/\(∀j,mask[j]?=some true->(D j↔rk true mask j<q)) /\
   aN a ops V D a'/\aN a ops V (fun j=>mask[j]?=some false\/(mask[j]?=some true/\rk true mask j<q)) A /\
   bj P ops (aa w0) FIN ((dD mask (ops.toList.take k)).drop q) A W) \/
  (∃(Inv:World->Prop) (V:Nat->Value) (G:Nat->Act),Inv W/\(∀j,j<k->D j)/\aN a ops V D a'/\(∀i o,k<=i->ops[i]?=some o->vz P ops Inv o (G (i-k)) (V i)) /\
   (∀i,k<=i->i<=ops.size->aN a ops V (fun j=>j<i) (G (i-k)))/\∀W',Inv W'->Q .normal (G (ops.size-k)) W')
 have Wd:(dD mask (ops.toList.take k)).length=mask.count true:=ry _ _ aH
 have rB:∀D a' W,J D a' W->(∀j,j<k->D j)->∃(Inv:World->Prop) (V:Nat->Value) (G:Nat->Act),Inv W/\(∀j,j<k->D j)/\aN a ops V D a'/\(∀i o,k<=i->ops[i]?=some o->vz P ops Inv o (G (i-k)) (V i)) /\
   (∀i,k<=i->i<=ops.size->aN a ops V (fun j=>j<i) (G (i-k)))/\∀W',Inv W'->Q .normal (G (ops.size-k)) W':=by
  intro D a' W hJ hD;rcases hJ with⟨hW,kt,V,q,A,hV,hT,ip,sN,vR⟩ | hJ
  ·have hq:mask.count true<=q:=by
    by_cases e:mask.count true<=q
    ·exact e
    ·obtain⟨i,qt,tZ⟩:=oe (b:=true) mask q (by omega)
     have:=(hT i qt).1 (hD i (eE i _ qt))
     omega
   have Ej:(dD mask (ops.toList.take k)).drop q=[]:=List.drop_eq_nil_of_le (by omega);rw[Ej]at vR
   have ea:a'=A:=ip.ext sN (fun j hj=>by
    constructor
    ·intro mc;obtain⟨b,hb⟩:=F3 j (kt j mc);cases b
     ·exact .inl hb
     ·exact .inr ⟨hb,(hT j hb).1 mc⟩
    ·rintro(hb | ⟨hb,_⟩) <;> exact hD j (eE j _ hb))
   subst ea;obtain⟨Inv,hI,Rv⟩:FIN a' W:=vR
   obtain⟨vt,G,g0,Zu,gst⟩:=tu _ _ Rv;have tz:(ops.toList.drop k).length=ops.size-k:=by simp
   rw[tz]at Zu
   have Gx:∀i o,k<=i->ops[i]?=some o->(ops.toList.drop k)[i-k]?=some o:=fun i o hi ho=>by
    rw[List.getElem?_drop,show k+(i-k)=i by omega];simpa using ho
   let V':Nat->Value:=fun j=>if j<k then V j else vt (j-k)
   have v1:∀j,j<k->V' j=V j:=fun j hj=>if_pos hj
   have v2:∀j,k<=j->V' j=vt (j-k):=fun j hj=>if_neg (by omega)
   have fr0:aN a ops V' D a':=ip.adf (fun j _ hj=>(v1 j (kt j hj)).symm)
   refine⟨Inv,V',G,hI,hD,fr0,fun i o hi ho=>?_,?_,Zu⟩
   ·rw[v2 i hi];exact(gst (i-k) o (Gx i o hi ho)).1
   ·have step:∀t,k+t<=ops.size->aN a ops V' (fun j=>j<k+t) (G t):=by
     intro t
     induction t with
     | zero=>
      intro _;rw[g0]
      exact fr0.same (fun j=>⟨fun h=>by have:=kt j h;omega,fun h=>hD j (by omega)⟩)
     | succ t ih=>
      intro ht;have rc:k+t<ops.size:=by omega
      have ho:ops[k+t]?=some ops[k+t]:=Array.getElem?_eq_getElem rc;have hg:=Gx (k+t) _ (by omega) ho;rw[show k+t-k=t by omega]at hg
      rw[(gst t _ hg).2]
      have:=((ih (by omega)).put ho (fun j oj d hj fW hd kq=>by
       have:=dJ.adk (k+t) _ rc ho j oj (by omega) fW d hd kq
       omega)).same (E:=fun j=>j<k+(t+1)) (fun j=>by show(j<k+t\/j=k+t)↔j<k+(t+1);omega)
      rw[v2 (k+t) (by omega),show k+t-k=t by omega]at this
      exact this
    intro i hi dH
    have:=step (i-k) (by omega)
    rwa [show k+(i-k)=i by omega]at this
  ·exact hJ
 refine gB hm dJ.back J (.inl ⟨ag bu,fun j hj=>hj.elim,fun j=>ac6 (rk false mask j),0,F (mask.count false),fun j _=>rfl,fun j _=>⟨fun h=>h.elim,fun h=>by omega⟩,⟨rfl,rfl,fun j _ _ hj=>hj.elim,fun _ _=>rfl⟩,?_,?_⟩) ?_ ?_
 ·exact(rA _ (Nat.le_refl _)).same (fun j=>by
   constructor
   ·rintro⟨a1,-⟩;exact .inl a1
   ·rintro(a1 | ⟨-,a2⟩)
    ·exact⟨a1,iE a1⟩
    ·omega)
 ·rw[List.drop_zero];exact iK
 ·intro D a' W i o hJ ho mz io qs;have dH:i<ops.size:=(Array.getElem?_eq_some_iff.1 ho).1
  have Mt:∀t∈o.looksAt ops,∀j oj,ops[j]?=some oj->oj.dst=some t->D j/\j∈bU o:=fun t ht j oj fW hd=>by
   have:=dJ.looks i o dH ho t ht j oj (Array.getElem?_eq_some_iff.1 fW).1 fW hd
   exact⟨io j this,this⟩
  have sO:∀j oj d,D j->ops[j]?=some oj->o.dst=some d->oj.dst≠some d:=fun j oj d hj fW hd kq=>by
   have:=dJ.adk i o dH ho j oj (Array.getElem?_eq_some_iff.1 fW).1 fW d hd kq
   subst this;exact mz hj
  by_cases g7:i<k
  ·-- one of the first k
   rcases hJ with⟨hW,kt,V,q,A,hV,hT,ip,sN,vR⟩ | ⟨_,_,_,_,h3,-⟩
   rotate_left
   ·exact absurd (h3 i g7) mz
   obtain⟨b,hb⟩:=F3 i g7
   cases b with
   | false=>
    have gV:=pt mask _ i aH hb;rw[nA i _ g7 ho]at gV;obtain⟨⟨hw,dO⟩,-⟩:=ct _ _ gV;have hr:=iE hb
    obtain⟨he,sP⟩:=eW (ops:=ops) (a':=a') (A:=F (rk false mask i)) (fun t ht=>(ip.adf (v':=V) (fun _ _ _=>rfl)).agree ((rA _ (Nat.le_of_lt hr)).ac6 (v':=V) (fun j hj=>(hV j hj.1).symm)) t (fun j oj hj fW hd=>by
     obtain⟨d1,d2⟩:=Mt t ht j oj fW hd;have J7:=chF i o j hb ho d2
     exact⟨d1,J7,vQ (dJ.back i o ho j d2) J7⟩)) (fun cs b=>dJ.adi i o cs b ho)
    rw[if_pos (sP.trans hw)];refine .inl ?_;unfold Oper.wp;rw[he,dO W hW];refine .inl ⟨hW,fun j hj=>hj.elim (fun h=>kt j h) (fun h=>by omega),V,q,A,hV,fun j hj=>?_,?_,sN,vR⟩
    ·rw[<- hT j hj];constructor
     ·rintro(h | rfl)
      ·exact h
      ·rw[hb]at hj;cases hj
     ·exact .inl
    ·have:=ip.put (i:=i) ho sO
     rwa [hV i hb]at this
   | true=>
    have hq:rk true mask i=q:=by
     have h1:¬rk true mask i<q:=fun h=>mz ((hT i hb).2 h)
     by_cases e:rk true mask i=q
     ·exact e
     ·obtain⟨j,tB,uF⟩:=oe (b:=true) mask q (by have:=iE hb;omega)
      have nV:j<i:=by
       rcases Nat.lt_trichotomy j i with h | h | h
       ·exact h
       ·subst h;omega
       ·have:=vQ h hb;omega
      have:=fg qs ho io (chT i j hb tB nV)
      have:=(hT j tB).1 this
      omega
    have gV:=uK mask _ i aH hb;rw[nA i _ g7 ho,hq]at gV;have F4:q<(dD mask (ops.toList.take k)).length:=(List.getElem?_eq_some_iff.1 gV).1;rw[List.drop_eq_getElem_cons F4,(List.getElem?_eq_some_iff.1 gV).2]at vR
    obtain⟨he,sP⟩:=eW (ops:=ops) (a':=a') (A:=A) (fun t ht=>ip.agree sN t (fun j oj hj fW hd=>by
     have lJ:j<k:=hj.elim (fun h=>kt j h) (fun h=>h.elim (eE j _) (fun h=>eE j _ h.1))
     obtain⟨d1,d2⟩:=Mt t ht j oj fW hd;refine⟨d1,?_⟩;obtain⟨b,hb'⟩:=F3 j lJ;cases b
     ·exact .inl hb'
     ·exact .inr ⟨hb',(hT j hb').1 d1⟩)) (fun cs b=>dJ.adi i o cs b ho)
    have next:∀u W',aa w0 W'->bj P ops (aa w0) FIN ((dD mask (ops.toList.take k)).drop (q+1)) (A.put o.dst u) W'->J (fun j=>D j\/j=i) (a'.put o.dst u) W':=by
     intro u W' hS ht
     let V':Nat->Value:=fun j=>if j=i then u else V j
     have e1:∀j,j≠i->V' j=V j:=fun j hj=>if_neg hj
     have e2:V' i=u:=if_pos rfl;refine .inl ⟨hS,fun j hj=>hj.elim (fun h=>kt j h) (fun h=>by omega),V',q+1,A.put o.dst u,fun j hj=>?_,fun j hj=>?_,?_,?_,ht⟩
     ·rw[e1 j (fun e=>by subst e;rw[hb]at hj;cases hj)];exact hV j hj
     ·constructor
      ·rintro(h | rfl)
       ·have:=(hT j hj).1 h;omega
       ·omega
      ·intro h
       by_cases e:rk true mask j=q
       ·exact .inr (sL hj hb (by omega))
       ·exact .inl ((hT j hj).2 (by omega))
     ·have:=(ip.adf (v':=V') (fun j _ hj=>(e1 j (fun e=>by subst e;exact mz hj)).symm)).put (i:=i) ho sO
      rwa [e2]at this
     ·have:=((sN.adf (v':=V') (fun j _ hj=>(e1 j (fun e=>by
       subst e;rcases hj with hj | ⟨-,hj⟩
       ·rw[hb]at hj;cases hj
       ·omega)).symm)).put (i:=i) ho (fun j oj d hj fW hd kq=>by
        have:=dJ.adk i o dH ho j oj (Array.getElem?_eq_some_iff.1 fW).1 fW d hd kq
        subst this;rcases hj with hj | ⟨-,hj⟩
        ·rw[hb]at hj;cases hj
        ·omega)).same (E:=fun j=>mask[j]?=some false\/(mask[j]?=some true/\rk true mask j<q+1)) (fun j=>by
        constructor
        ·rintro((h | ⟨h,h'⟩) | rfl)
         ·exact .inl h
         ·exact .inr ⟨h,by omega⟩
         ·exact .inr ⟨hb,by omega⟩
        ·rintro(h | ⟨h,h'⟩)
         ·exact .inl (.inl h)
         ·by_cases e:rk true mask j=q
          ·exact .inr (sL h hb (by omega))
          ·exact .inl (.inr ⟨h,by omega⟩))
      rwa [e2]at this
    rcases vR with⟨hw,dO⟩ | ⟨hw,dO⟩
    ·rw[if_pos (sP.trans hw)];refine .inl ?_;unfold Oper.wp;rw[he]
     generalize (execOp A.eval o).run P W=r at dO ⊢
     cases r with
     | ok nx W'=>
      cases nx with
      | value u=>exact next u W' dO.1 dO.2
      | skip=>exact next undef W' dO.1 dO.2
      | row row args=>exact Rows.mono dO fun u kM h=>next u kM h.1 h.2
      | enter f args=>
       simp only[Oper.upon]
       exact Calls.mono dO fun e kM ⟨u,x6,h3,h4⟩=>by subst x6;exact next u kM h3 h4
      | _=>exact dO.elim
     | halt x W'=>exact dO.elim
    ·rw[if_neg (by rw[sP.trans hw];simp)]
     exact next _ _ hW dO
  ·-- the flow behind the first k
   have bH:∀j,j<k->D j:=fun j hj=>fg qs ho io (Pv i j (by omega) dH hj)
   obtain⟨Inv,V,G,hI,hD,ip,Un,hGf,hQ⟩:=rB D a' W hJ bH
   obtain⟨he,sP⟩:=eW (ops:=ops) (a':=a') (A:=G (i-k)) (fun t ht=>ip.agree (hGf i (by omega) (by omega)) t (fun j oj hj fW hd=>by
    obtain⟨d1,d2⟩:=Mt t ht j oj fW hd
    exact⟨d1,dJ.back i o ho j d2⟩)) (fun cs b=>dJ.adi i o cs b ho)
   have next:∀W',Inv W'->J (fun j=>D j\/j=i) (a'.put o.dst (V i)) W':=fun W' V0=>
    .inr ⟨Inv,V,G,V0,fun j hj=>.inl (hD j hj),ip.put (i:=i) ho sO,Un,hGf,hQ⟩
   rcases Un i o (by omega) ho W hI with⟨h1,h2⟩ | ⟨h1,h2⟩
   ·rw[if_pos (sP.trans h1)];refine .inl ?_;unfold Oper.wp;rw[he];unfold ba at h2
    generalize (execOp (G (i-k)).eval o).run P W=r at h2 ⊢
    cases r with
    | ok nx W'=>
     cases nx with
     | value u=>simp only at h2;obtain⟨rfl,h3⟩:=h2;exact next W' h3
     | skip=>simp only at h2;obtain⟨h4,h3⟩:=h2;simp only[Oper.upon];rw[h4];exact next W' h3
     | enter f args=>
      simp only at h2
      simp only[Oper.upon]
      exact h2.mono fun e kM ⟨x6,h3⟩=>by subst x6;exact next kM h3
     | _=>exact h2.elim
    | halt x W'=>exact h2.elim
   ·rw[if_neg (by rw[sP.trans h1];simp)]
    have:=next W hI
    rw[h2]at this;exact this
 ·intro D a' W hJ bH;obtain⟨Inv,V,G,hI,hD,ip,Un,hGf,hQ⟩:=rB D a' W hJ (fun j hj=>bH j (by omega))
  have ea:a'=G (ops.size-k):=ip.ext (hGf ops.size xR (Nat.le_refl _)) (fun j hj=>⟨fun _=>hj,fun _=>bH j hj⟩)
  rw[ea];exact hQ W hI
end
theorem FH {n:aw} (h:gO n<=1048576):n.ends.length<=1048576/\∀(v:Nat) (es:List (Int×Int)),n.ends[v]?=some es->es.length<=1048576:=by
 unfold gO NO at h
 refine⟨by omega,fun v es ca=>?_⟩
 have h1:=Hw n.ends (v+1);rw[B3 ca]at h1;omega
def gx (p:az) (n:aw) (most:Int):List (List Int):=aP p n (ef n) most
def gy (p:az) (n:aw) (most:Int):Int:=aV p n (ef n) most
def je (p:az) (n:aw) (most:Int):Int:=bn p n (ef n) most
theorem p_ (pa pb ve vi vn:Value) (p:az) (n:aw) (most:Int) (w:World) (hp:di w pa pb p) (h:aU w ve vi vn n) (hm : -9223372036854775808<=most/\most<=9223372036854775807) (pi:ks p<=1048576) (eR:gO n<=1048576):
  Calls Tryz.prog 76 #[.agg #[.int .i64 p.labels,.int .i64 p.degree,pa,pb],.agg #[ve,vi,vn],.int .i64 most] w fun e w'=>∃u S,e=.returned (.tuple #[u,.int .i64 (gy p n most),.int .i64 (je p n most)])/\bz w' w.heap.size u (gx p n most) S/\ya (gx p n most)<=1000000000/\Below w.heap.size w w':=by
 have mY:=zh (FH eR);have DK:=zh pi;have Hmm:=zh hm
 unfold gx gy je
 obtain⟨F,hF⟩:∃F,ef n=F:=⟨_,rfl⟩
 rw[hF];have HF:=zh hF;clear hF;obtain⟨w0,ar⟩:∃w0,w0=((w).alloc (.cells #[.int .i64 p.labels,.int .i64 p.degree,pa,pb] 26)).alloc (.cells #[ve,vi,vn] 30):=⟨_,rfl⟩
 have bG:Below w.heap.size w w0:=by rw[ar];exact(((Below.refl _ _).alloc (by simp <;> omega) _).alloc (by simp <;> omega) _)
 have H:=zh (h.ac2 bG);obtain⟨h1,h2,h3⟩:=h.ac2 bG;obtain⟨A,c,rfl,f_,hm,hA⟩:=h1;obtain⟨A2,c2,rfl,_,fq,_⟩:=h2;obtain⟨A3,c3,rfl,_,fF,_⟩:=h3;unfold maxLen at hm fq fF;have cZ:=hp.ac2 bG;have HP:=zh cZ;obtain⟨P0,eP,rfl,ji,dX,bZ⟩:=id cZ.1;unfold maxLen at dX;have jj:=zh bZ;clear bZ;obtain⟨P1,eB,rfl,jk,dY,b_⟩:=id cZ.2;unfold maxLen at dY;have jl:=zh b_;clear b_;clear cZ hp
 have gP:∀W,aa w0 W->W.cell? ⟨w.heap.size,0,none⟩=some (.int .i64 p.labels):=ab (by rw[ar];simp)
 have ig:∀W,aa w0 W->W.cell? ⟨w.heap.size,1,none⟩=some (.int .i64 p.degree):=ab (by rw[ar];simp)
 have ii:∀W,aa w0 W->W.cell? ⟨w.heap.size,2,none⟩=some (.slice P0 p.nodes.length eP):=ab (by rw[ar];simp)
 have mL:∀W,aa w0 W->W.cell? ⟨w.heap.size,3,none⟩=some (.slice P1 p.ac3.length eB):=ab (by rw[ar];simp)
 have rJ:∀W,aa w0 W->W.cell? ⟨w.heap.size+1,0,none⟩=some (.slice A n.ends.length c):=ab (by rw[ar];simp)
 have tD:∀W,aa w0 W->W.cell? ⟨w.heap.size+1,1,none⟩=some (.slice A2 n.ids.length c2):=ab (by rw[ar];simp)
 have tE:∀W,aa w0 W->W.cell? ⟨w.heap.size+1,2,none⟩=some (.slice A3 n.ac1.length c3):=ab (by rw[ar];simp)
 have bQ:=zh bG;have cS:=zh ar;have HA:=zh hA;clear hA h;clear bG ar;have f5:=zh (show ∀X,aa w0 X->di X (.slice P0 p.nodes.length eP) (.slice P1 p.ac3.length eB) p from fun X hX=>HP.out.ac2 hX)
 have iL:=zh (show ∀X,aa w0 X->aU X (.slice A n.ends.length c) (.slice A2 n.ids.length c2) (.slice A3 n.ac1.length c3) n from fun X hX=>H.out.ac2 hX.below)
 clear eR pi hm;have Sm:w.heap.size<=w0.heap.size:=bQ.out.size
 go_enter Tryz.func76,Tryz.ntmps76
 go_upto_region 1 with(fail);rw[<- cS.out];have hs:aa w0 w0:=ad _;refine p8 (w0:=w0) 6 [false,false,false,true,false,true] (by kernel_rfl) (by kernel_rfl) (hs) ?_;simp only[ek,dD,zT]
 iterate 4 (apply ei rfl;(intro W hW;go_simp;with_reducible rfl);simp only[zA])
 obtain⟨W,cA⟩:∃W,W=World.drew w0:=⟨_,rfl⟩
 rw[<- cA]
 have hW:aa w0 W:=by rw[cA];exact ag (hs)
 clear cA;refine Or.inl ⟨rfl,?_⟩
 go_simp
 (with_reducible refine(lD _ _ _ n _ (iL.out _ hW) mY.out.1 mY.out.2).mono ?_)
 rintro e W' ⟨u1,S1,rfl,ij,aX⟩;refine⟨_,rfl,hW.trans aX,?_⟩
 replace hW:=hW.trans aX
 obtain⟨AU,mU,cU,rfl⟩:=aI.one ij;have Gb:=zh (HF.out ▸ ij.read);have Qq:Hid (w.heap.size<=W'.heap.size):=Nat.le_trans Sm (aa.below hW).size;clear ij aX
 (try simp only[zA])
 refine Or.inl ⟨rfl,?_⟩
 go_simp
 (with_reducible refine(wM _ _ _ _ _ _ p n F most _ (f5.out _ hW) (iL.out _ hW) Gb.out Hmm.out DK.out).mono ?_)
 rintro e W' ⟨uR,SR,rfl,hoR,hlR,TU⟩;refine⟨_,rfl,hW.trans TU,?_⟩
 replace hW:=hW.trans TU
 obtain⟨AR,mR,cR,rfl⟩:=aI.one hoR;have HOR:=zh (aI.mono hoR Qq.out);have HLR:=zh hlR;clear hoR TU hlR
 (try simp only[zA])
 have HW0:=zh hW;refine⟨fun W=>aa W' W,ad _,?_⟩
 iterate 6 (refine bF rfl ?_;simp only[zA])
 clear hW;intro W hW;have HW:=zh hW;clear hW hs;go_wp2
 go_ret3
 exact⟨_,_,rfl,aI.ac2 HOR.out HW.out.below,HLR.out,aa.after bQ.out (HW0.out.after HW.out)⟩
theorem tj {W:World} {B:Nat} {u:Value} {l:List (List Int)} {S:List Nat} (h:bz W B u l S) (h0:0<l.length):∃g c,u=.slice (some ⟨g,0,none⟩) l.length c:=by
 obtain⟨vs,Ss,r1,-⟩:=h;rcases dh r1 with⟨e,h1⟩ | ⟨g,c,e,-⟩
 ·omega
 ·exact⟨g,c,e⟩
theorem kK {W:World} {B g m c v:Nat} {l:List (List Int)} {S:List Nat} {row:List Int} (h:bz W B (.slice (some ⟨g,0,none⟩) m c) l S) (hv:l[v]?=some row):∃A cr,W.cell? ⟨g,v,none⟩=some (.slice A row.length cr)/\W.frozen? ⟨g,v,none⟩=false/\row.length<=cr/\cr<=maxLen:=by
 obtain⟨u,T,h1,h2,h3,-⟩:=bg.at_ h hv;obtain⟨A,c',rfl,q1,q2,-⟩:=h3.read;exact⟨A,c',h1,h2,q1,q2⟩
theorem jZ {W:World} {B g m c v i:Nat} {l:List (List Int)} {S:List Nat} {row:List Int} {x:Int} (h:bz W B (.slice (some ⟨g,0,none⟩) m c) l S) (hv:l[v]?=some row) (hi:row[i]?=some x):
  ∃gr cr,W.cell? ⟨g,v,none⟩=some (.slice (some ⟨gr,0,none⟩) row.length cr)/\W.cell? ⟨gr,i,none⟩=some (.int .i64 x)/\W.frozen? ⟨gr,i,none⟩=false/\gr∈S/\gr≠g/\∀y,bz (W.setCell ⟨gr,i,none⟩ (.int .i64 y)) B (.slice (some ⟨g,0,none⟩) m c) (l.set v (row.set i y)) S:=by
 obtain⟨u',T',jn,yQ,-,xQ,-⟩:=bg.grow er h hv;obtain⟨u,T,c1,hu,hT,j8⟩:=bg.adE er h hv
 obtain rfl:u'=u:=by rw[jn]at c1;exact Option.some.inj c1
 obtain⟨Jr,Ol⟩:=hu
 have xQ:g∉T:=by rw[Ol];rw[yQ.2]at xQ;exact xQ
 rcases Jr.cases with⟨rfl,h0⟩ | ⟨gr,cr,rfl,FV,Ec⟩
 ·subst h0;simp at hi
 ·have xO:gr∈T:=by rw[Ol];simp[Value.ownBlock]
  refine⟨gr,cr,c1,Jr.cell hi,Jr.free i,hT gr xO,fun e=>xQ (e ▸ xO),fun y=>?_⟩
  have ey:aR T W (W.setCell ⟨gr,i,none⟩ (.int .i64 y)):=(aR.refl _ _).setCell (.inl xO) _
  exact j8 (row.set i y) _ ⟨by have:=Jr.set (k:=i) y;simpa using this,Ol⟩ ey
theorem pJ {n:aw} {l:List (List Int)} {v i:Nat} {row:List Int} (y:Int) (h:eG n l) (hv:l[v]?=some row):eG n (l.set v (row.set i y)):=by
 refine⟨by rw[List.length_set];exact h.1,fun q=>?_⟩
 rw[<- h.2 q];simp only[zDd,List.getElem?_set]
 by_cases e:v=q
 ·subst e;rw[if_pos rfl,if_pos (al hv),hv];simp
 ·rw[if_neg e]
theorem gM {n:aw} {l:List (List Int)} {v:Nat} {row:List Int} (h:eG n l) (hv:l[v]?=some row):row.length=(n.ends.getD v []).length:=by
 have:=h.2 v
 rwa [ak hv]at this
def Pw (l:List (List Int)):Prop:=l.length<=101/\∀(v:Nat) (row:List Int),l[v]?=some row->row.length<=201
def Zv (cb B:Nat) (A:Option Addr) (L c P:Nat) (w:World) (e:Ending) (w':World):Prop:=∃u l S,e=.returned u/\bz w' B u l S/\Pw l/\bB w' cb A L c P/\CB cb B w w'
theorem pK {n:aw} {l:List (List Int)} (h:eG n l) (h40:n.ends.length<=40) (h6:∀(v:Nat) (es:List (Int×Int)),n.ends[v]?=some es->es.length<=6):l.length<=40/\∀(v:Nat) (row:List Int),l[v]?=some row->row.length<=6:=by
 refine⟨by rw[h.1];exact h40,fun v row hv=>?_⟩
 rw[gM h hv]
 obtain⟨es,ca⟩:=ay n.ends v (by have:=al hv;rw[h.1]at this;exact this)
 rw[ak ca];exact h6 v es ca
theorem Mu {W:World} {B g m c v c0:Nat} {l:List (List Int)} {S:List Nat} {row:List Int} {A0:Option Addr} (h:bz W B (.slice (some ⟨g,0,none⟩) m c) l S) (hB:B<=W.heap.size) (hv:l[v]?=some row) (hc:W.cell? ⟨g,v,none⟩=some (.slice A0 row.length c0)):
  Own W B (.slice A0 row.length c0) row/\∀(W1 W':World) (g9 cap:Nat) (y:Int),aa W W1->Own W' B (.slice (some ⟨g9,0,none⟩) (row.length+1) cap) (row++[y])->W1.grownBy W' (Value.slice A0 row.length c0).ownBlock->((Value.slice A0 row.length c0).ownBlock=some g9\/g9=W1.heap.size) ->
   W'.cell? ⟨g,v,none⟩=some (.slice A0 row.length c0)/\W'.frozen? ⟨g,v,none⟩=false/\Below B W W'/\∃S',bz (W'.setCell ⟨g,v,none⟩ (.slice (some ⟨g9,0,none⟩) (row.length+1) cap)) B (.slice (some ⟨g,0,none⟩) m c) (l.set v (row++[y])) S':=by
 obtain⟨-,-,-,hf,-,-⟩:=bg.at_ h hv;obtain⟨u,T,hu,hR,NM,xQ,BZ⟩:=bg.grow er h hv
 obtain rfl:u=.slice A0 row.length c0:=by rw[hc]at hu;exact(Option.some.inj hu).symm
 obtain⟨hRo,Ol⟩:=hR;refine⟨hRo,fun W1 W' g9 cap y hs ho hg hl=>?_⟩
 have ey:aR T W W':=by rw[Ol];exact(aR.ac7 hs.below).trans (aR.ac9 hg)
 refine⟨ey.cell xQ hc,ey.fz xQ hc hf,ey.below B hB (fun k hk=>(aI.range h k (NM k hk)).1),?_⟩
 obtain⟨S',h1,-⟩:=BZ (.slice (some ⟨g9,0,none⟩) (row.length+1) cap) (row++[y]) [g9] W' ⟨ho,by simp[Value.ownBlock]⟩ ey (fun j hj=>by
  simp at hj;subst hj
  rcases hl with h | h
  ·left;rw[Ol,h];simp
  ·right;rw[h];exact hs.below.size)
 exact⟨S',h1⟩
theorem Px (cb:Nat) (A:Option Addr) (L c P:Nat) (B g:Nat) (a1 a2:Int) (w:World) (h:bB w cb A L c P) (hP:P<=4611686018427387000) (ho:Own w B (.slice (some ⟨g,0,none⟩) 2 2) [a1,a2]) (hB:cb<B):
  Calls Tryz.prog 46 #[.pointer (some ⟨cb,0,none⟩),.slice (some ⟨g,0,none⟩) 2 2] w fun e w'=>∃x,e=.returned (.int .i64 x)/\bB w' cb A L c (P+2)/\CB cb w.heap.size w w':=by
 refine(kz cb A L c P B g 2 [a1,a2] w h hP ho hB (by simp) (by simp)).mono ?_;rintro e w' ⟨x,rfl,-,h1,h2⟩;exact⟨x,rfl,h1,h2⟩
theorem Py (cb:Nat) (A:Option Addr) (L c P:Nat) (B g:Nat) (a1 a2 a3 a4:Int) (w:World) (h:bB w cb A L c P) (hP:P<=4611686018427387000) (ho:Own w B (.slice (some ⟨g,0,none⟩) 4 4) [a1,a2,a3,a4]) (hB:cb<B):
  Calls Tryz.prog 46 #[.pointer (some ⟨cb,0,none⟩),.slice (some ⟨g,0,none⟩) 4 4] w fun e w'=>∃x,e=.returned (.int .i64 x)/\bB w' cb A L c (P+2)/\CB cb w.heap.size w w':=by
 refine(kz cb A L c P B g 4 [a1,a2,a3,a4] w h hP ho hB (by simp) (by simp)).mono ?_;rintro e w' ⟨x,rfl,-,h1,h2⟩;exact⟨x,rfl,h1,h2⟩
theorem Ri {l:List (List Int)} (h:l.length<=40) (h6:∀(v:Nat) (row:List Int),l[v]?=some row->row.length<=6):Pw l:=⟨by omega,fun v row hv=>by have:=h6 v row hv;omega⟩
theorem Mv {l:List (List Int)} (h:l.length<=40) (h6:∀(v:Nat) (row:List Int),l[v]?=some row->row.length<=6) (k:Nat) {r:List Int} (hr:r.length<=201):Pw (l.set k r):=by
 refine⟨by rw[List.length_set];omega,fun v row hv=>?_⟩
 rw[List.getElem?_set]at hv
 by_cases e:k=v
 ·rw[if_pos e]at hv
  split at hv
  ·cases hv;exact hr
  ·cases hv
 ·rw[if_neg e]at hv
  have:=h6 v row hv;omega
theorem Pz {l:List (List Int)} (h:l.length<=40) (h6:∀(v:Nat) (row:List Int),l[v]?=some row->row.length<=6):Pw (l++[[]]):=by
 refine⟨by simp;omega,fun v row hv=>?_⟩
 rcases List.mem_append.1 (List.mem_of_getElem? hv)with q | q
 ·obtain⟨k,hk⟩:=List.getElem?_of_mem q
  have:=h6 k row hk;omega
 ·simp at q;rw[q];simp
theorem Uo (cb:Nat) (Ac:Option Addr) (L cq P Bp Bn:Nat) (pa pb ve vi vn:Value) (p:az) (n:aw) (Sn:List Nat) (w:World) (hc:bB w cb Ac L cq P) (hP:P<=4000000000000000000) (qc:eZ w Bp pa pb p) (ey:au w Bn ve vi vn n Sn) (zt:cb<Bp) (Zw:cb<Bn) (pi:ks p<=1048576) (hnz:gO n<=1048576):
  Calls Tryz.prog 29 #[.pointer (some ⟨cb,0,none⟩),.agg #[.int .i64 p.labels,.int .i64 p.degree,pa,pb],.agg #[ve,vi,vn]] w (Zv cb w.heap.size Ac L cq (P+100000) w):=by
 have ia:=hc.lt;have hp:=qc.read;have h:=ey.read;have IK:=zh qc;have Jt:=zh ey;have DK:=zh pi;have Hnz:=zh hnz;have Hcw:=zh hc;clear qc ey pi hnz hc;obtain⟨w0,ar⟩:∃w0,w0=((w).alloc (.cells #[.int .i64 p.labels,.int .i64 p.degree,pa,pb] 26)).alloc (.cells #[ve,vi,vn] 30):=⟨_,rfl⟩
 have bG:Below w.heap.size w w0:=by rw[ar];exact(((Below.refl _ _).alloc (by simp <;> omega) _).alloc (by simp <;> omega) _)
 have H:=zh (h.ac2 bG);obtain⟨h1,h2,h3⟩:=h.ac2 bG;obtain⟨A,c,rfl,f_,hm,hA⟩:=h1;obtain⟨A2,c2,rfl,_,fq,_⟩:=h2;obtain⟨A3,c3,rfl,_,fF,_⟩:=h3;unfold maxLen at hm fq fF;have cZ:=hp.ac2 bG;have HP:=zh cZ;obtain⟨P0,eP,rfl,ji,dX,bZ⟩:=id cZ.1;unfold maxLen at dX;have jj:=zh bZ;clear bZ;obtain⟨P1,eB,rfl,jk,dY,b_⟩:=id cZ.2;unfold maxLen at dY;have jl:=zh b_;clear b_;clear cZ hp
 have gP:∀W,aa w0 W->W.cell? ⟨w.heap.size,0,none⟩=some (.int .i64 p.labels):=ab (by rw[ar];simp)
 have ig:∀W,aa w0 W->W.cell? ⟨w.heap.size,1,none⟩=some (.int .i64 p.degree):=ab (by rw[ar];simp)
 have ii:∀W,aa w0 W->W.cell? ⟨w.heap.size,2,none⟩=some (.slice P0 p.nodes.length eP):=ab (by rw[ar];simp)
 have mL:∀W,aa w0 W->W.cell? ⟨w.heap.size,3,none⟩=some (.slice P1 p.ac3.length eB):=ab (by rw[ar];simp)
 have rJ:∀W,aa w0 W->W.cell? ⟨w.heap.size+1,0,none⟩=some (.slice A n.ends.length c):=ab (by rw[ar];simp)
 have tD:∀W,aa w0 W->W.cell? ⟨w.heap.size+1,1,none⟩=some (.slice A2 n.ids.length c2):=ab (by rw[ar];simp)
 have tE:∀W,aa w0 W->W.cell? ⟨w.heap.size+1,2,none⟩=some (.slice A3 n.ac1.length c3):=ab (by rw[ar];simp)
 have bQ:=zh bG;have cS:=zh ar;have HA:=zh hA;clear hA h;clear bG ar;have bu:aa w w0:=bQ.out
 have Zx:Hid (∀W,aY cb w0 W->di W (.slice P0 p.nodes.length eP) (.slice P1 p.ac3.length eB) p/\aU W (.slice A n.ends.length c) (.slice A2 n.ids.length c2) (.slice A3 n.ac1.length c3) n):=fun W hW=>by
  refine⟨(eZ.ac4 (IK.out.since bu) fun j h1 h2=>hW.block j h2 (by omega)).read,((Jt.out.ac2 bu.below).seen hW Zw).read⟩
 have eu:w.heap.size+2=w0.heap.size:=by rw[cS.out];simp
 have xU:w.heap.size≠cb:=by omega
 have jN:w.heap.size+1≠cb:=by omega
 have Q0:=zh (aq (gP w0 (ad _)) xU);have Q1:=zh (aq (ig w0 (ad _)) xU);have Q2:=zh (aq (ii w0 (ad _)) xU);have Q3:=zh (aq (mL w0 (ad _)) xU);have R0:=zh (aq (rJ w0 (ad _)) jN);have R1:=zh (aq (tD w0 (ad _)) jN);have R2:=zh (aq (tE w0 (ad _)) jN);have xi:=zh (Hcw.out.since bu);have gh:=zh eu;have f6:=zh bu;clear gP ig ii mL rJ tD tE bu eu
 go_enter Tryz.func29,Tryz.ntmps29
 go_upto_region 1 with(fail);rw[<- cS.out];have k0:=Q0.out w0 (aY.refl _ _);have k1:=Q1.out w0 (aY.refl _ _);have k2:=Q2.out w0 (aY.refl _ _);have k3:=Q3.out w0 (aY.refl _ _);go_wp2_with fail;refine(mM _ _ p w0 (Zx.out w0 (aY.refl _ _)).1).mono ?_;rintro e w1 ⟨rfl,aX⟩;have Mw:Hid (aY cb w0 w1):=(aY.refl _ _).after aX;have gE:=zh (xi.out.since aX);clear k0 k1 k2 k3 aX;cases q9:dF p
 ·go_wp2;go_ret;exact⟨_,[],[],rfl,jz _ _,⟨by simp,fun v row h=>by simp at h⟩,gE.out.mono (by omega),(CB.of f6.out.below).trans (Mw.out.mono f6.out.below.size)⟩
 ·have k0:=R0.out w1 Mw.out;have k1:=R1.out w1 Mw.out;have k2:=R2.out w1 Mw.out;have IU:=zh q9;clear q9;go_wp2_with fail;refine(mF _ _ _ n w1 (Zx.out w1 Mw.out).2).mono ?_;rintro e w2 ⟨rfl,bJ⟩;have qB:Hid (aY cb w0 w2):=Mw.out.after bJ;have xf:=zh (gE.out.since bJ);clear k0 k1 k2 bJ;cases Vc:aW n
  ·go_wp2;go_ret;exact⟨_,[],[],rfl,jz _ _,⟨by simp,fun v row h=>by simp at h⟩,xf.out.mono (by omega),(CB.of f6.out.below).trans (qB.out.mono f6.out.below.size)⟩
  ·have k0:=R0.out w2 qB.out;have k1:=R1.out w2 qB.out;have k2:=R2.out w2 qB.out;have Hng:=zh Vc;obtain⟨h40,h6⟩:=gD Vc;have h1n:=(pm Vc).1;have fv:=(wJ IU.out).1;have H6:=zh h6;clear Vc h6;go_wp2_with fail
   refine(lD _ _ _ n w2 (Zx.out w2 qB.out).2 (by omega) (fun v es he=>by have:=H6.out v es he;omega)).mono ?_
   rintro e w3 ⟨u,S,rfl,iH,aG⟩;obtain⟨l0,hl0⟩:∃z,z=ef n:=⟨_,rfl⟩
   have Uq:eG n l0:=by rw[hl0];exact lc n
   rw[<- hl0]at iH;obtain⟨m,hm⟩:∃z,z=n.ends.length:=⟨_,rfl⟩
   have hl3:l0.length=m:=by rw[Uq.1,hm]
   obtain⟨g,cg,rfl⟩:=tj iH (by omega);rw[hl3]at iH ⊢;have BH:Hid (aY cb w0 w3):=qB.out.after aG;have HO3:Hid (bz w3 w0.heap.size (.slice (some ⟨g,0,none⟩) m cg) l0 S):=aI.mono iH qB.out.size;have i_:=zh (xf.out.since aG);have abD:=zh Uq;have Hm:=zh hm;have Zy:1<=m/\m<=40:=by omega
   have sB:Hid (cb<w0.heap.size):=by show _<_;have:=gh.out;omega
   clear k0 k1 k2 iH Uq hl3 aG hl0 h40 h1n hm;go_upto_region 5 with(fail)
   go_loopw [29] (fun i wr=>∃(v:Nat) (l:List (List Int)),v<=m/\i=.int .i64 v/\bz wr w0.heap.size (.slice (some ⟨g,0,none⟩) m cg) l S/\eG n l/\bB wr cb Ac L cq (P+30*v)/\aY cb w0 wr) (fun i _=>m-(intOf i).toNat)
   case atStart=>exact⟨0,l0,by omega,rfl,HO3.out,abD.out,i_.out.mono (by omega),BH.out⟩
   case round=>
    obtain⟨v,l,hv,rfl,ho,eJ,df,hS⟩:=hrel;have Ho:=zh ho;have fU:=zh eJ;have nt:=zh df;have HS:=zh hS;clear ho eJ df hS
    by_cases aH:v<m
    ·have m1:IntKind.i64.wrap ((v:Int)+1)=(v:Int)+1:=aE _ (by omega) (by omega)
     obtain⟨row,aD⟩:=ay l v (by rw[fU.out.1,<- Hm.out];exact aH)
     obtain⟨AR,cR,pZ,-,-,sy⟩:=kK Ho.out aD
     have nD:row.length<=6:=(pK fU.out (by have:=Hm.out;omega) H6.out).2 v row aD
     have xT:row.length=(n.ends.getD v []).length:=gM fU.out aD;obtain⟨q,hq⟩:∃q,row.length=q:=⟨_,rfl⟩
     rw[hq]at pZ nD xT;have DL:=zh pZ;have Ur:=zh xT;obtain⟨wo,rfl⟩:∃z,z=wr:=⟨_,rfl⟩
     clear aD hq xT;go_upto_region 8 with(fail);clear pZ
     go_loopw [35] (fun i wr=>∃(j:Nat) (l:List (List Int)),j<=q/\i=.int .i64 j/\bz wr w0.heap.size (.slice (some ⟨g,0,none⟩) m cg) l S/\eG n l/\wr.cell? ⟨g,v,none⟩=some (.slice AR q cR)/\bB wr cb Ac L cq (P+30*v+4*j)/\aY cb w0 wr) (fun i _=>q-(intOf i).toNat)
     case atStart=>exact⟨0,l,by omega,rfl,Ho.out,fU.out,DL.out,nt.out,HS.out⟩
     case round=>
      obtain⟨j,l,hj,rfl,ho,eJ,pZ,df,hS⟩:=hrel;have Ho:=zh ho;have fU:=zh eJ;have DL:=zh pZ;have nt:=zh df;have HS:=zh hS;clear ho eJ pZ df hS
      by_cases eD:j<q
      ·have m2:IntKind.i64.wrap ((j:Int)+1)=(j:Int)+1:=aE _ (by omega) (by omega);go_wp2_with fail;refine(lF cb Ac L cq _ 3 wr nt.out (by omega) (by omega)).mono ?_;rintro e w4 ⟨bb,rfl,jd,j_⟩;have Ng:Hid (aY cb w0 w4):=HS.out.trans j_;have Iu:Hid (bz w4 w0.heap.size (.slice (some ⟨g,0,none⟩) m cg) l S):=aI.seen Ho.out j_ sB.out
       have NA:w0.heap.size<=g:=(aI.range Ho.out g (by obtain⟨vs,Ss,-,-,-,e,-⟩:=Ho.out;rw[e];simp[Value.ownBlock])).1
       have Zz:=zh (aq DL.out (by show g≠cb;have:=sB.out;omega) w4 j_)
       have kn:=zh jd;clear jd j_;cases bb
       ·go_wp2;go_roundw
        case rel=>exact⟨j+1,l,by omega,by first | rfl | go_num,Iu.out,fU.out,Zz.out,kn.out.mono (by omega),Ng.out⟩
        case measure=>simp[intOf];omega
       ·have k0:=Q0.out w4 Ng.out;go_wp2_with fail;refine(db cb Ac L cq _ p.labels w4 kn.out (by omega) (by omega)).mono ?_;rintro e w5 ⟨y,rfl,hy,km,pC⟩;have HS5:Hid (aY cb w0 w5):=Ng.out.trans pC;have Cj:Hid (bz w5 w0.heap.size (.slice (some ⟨g,0,none⟩) m cg) l S):=aI.seen Iu.out pC sB.out
        have Us:=aq Zz.out (by show g≠cb;have:=sB.out;omega) w5 pC
        have IV:=zh km
        obtain⟨row,aD⟩:=ay l v (by rw[fU.out.1,<- Hm.out];exact aH)
        have nD:row.length=q:=by rw[gM fU.out aD];exact Ur.out.symm
        obtain⟨x,hx⟩:=ay row j (by omega);obtain⟨gr,cr,h1,h2,h3,h4,h5,j8⟩:=jZ Cj.out aD hx;rw[Us]at h1
        injection h1 with h1
        injection h1 with hA hl sr
        subst hA;have Be:w0.heap.size<=gr:=(aI.range Cj.out gr h4).1;have XK:=zh (j8 (y:Int));have xj:=zh (pJ (i:=j) (y:Int) fU.out aD);have Vi:Hid (aY cb w0 (w5.setCell ⟨gr,j,none⟩ (.int .i64 (y:Int)))):=CB.setCell HS5.out (.inl Be) _
        have FC:Hid (bB (w5.setCell ⟨gr,j,none⟩ (.int .i64 (y:Int))) cb Ac L cq (P+30*v+4*j+4)):=(km.mono (by omega)).ac2 fun k hk=>Below.heap_setCell _ _ _ _ (by show k≠gr;have:=sB.out;omega)
        have abE:Hid ((w5.setCell ⟨gr,j,none⟩ (.int .i64 (y:Int))).cell? ⟨g,v,none⟩=some (.slice (some ⟨gr,0,none⟩) q cR)):=by
         show _=_
         rw[World.cell?_of_block (Below.heap_setCell _ _ _ g (by show g≠gr;exact Ne.symm h5))];exact Us
        clear hy km pC aD nD hx j8 Us sr hl h5 k0 h4 Be NA;go_wp2;go_roundw
        case rel=>exact⟨j+1,_,by omega,by first | rfl | go_num,XK.out,xj.out,abE.out,FC.out.mono (by omega),Vi.out⟩
        case measure=>simp[intOf];omega
      ·obtain rfl:j=q:=by omega
       go_wp2;go_roundw
       case rel=>exact⟨v+1,l,by omega,by first | rfl | go_num,Ho.out,fU.out,nt.out.mono (by omega),HS.out⟩
       case measure=>simp[intOf];omega
    ·obtain rfl:v=m:=by omega
     obtain⟨w6,rfl⟩:∃z,z=wr:=⟨_,rfl⟩
     have J6:l.length=v:=by rw[fU.out.1,Hm.out]
     go_wp2_with fail;refine(lF cb Ac L cq _ 4 w6 nt.out (by omega) (by omega)).mono ?_;rintro e w7 ⟨bb,rfl,Mp,Pt⟩;have I9:Hid (aY cb w0 w7):=HS.out.trans Pt;have Tk:Hid (bz w7 w0.heap.size (.slice (some ⟨g,0,none⟩) v cg) l S):=aI.seen Ho.out Pt sB.out;have xm:Hid (bB w7 cb Ac L cq (P+1300)):=Mp.mono (by omega);clear Mp Pt Ho nt HS
     go_upto_if 50 with(fail)
     go_cut []from 51 to 88 (fun wx=>∃l,bz wx w0.heap.size (.slice (some ⟨g,0,none⟩) v cg) l S/\eG n l/\bB wx cb Ac L cq (P+5000)/\aY cb w0 wx)
     case first=>
      cases bb
      ·go_wp2;go_meet
       case rel=>exact⟨l,Tk.out,fU.out,xm.out.mono (by omega),I9.out⟩
      ·have k0:=Q0.out w7 I9.out;have k1:=Q1.out w7 I9.out;have k2:=Q2.out w7 I9.out;have k3:=Q3.out w7 I9.out;have j0:=R0.out w7 I9.out;have j1:=R1.out w7 I9.out;have j2:=R2.out w7 I9.out;go_wp2_with fail;refine(p_ _ _ _ _ _ p n 2000 w7 (Zx.out w7 I9.out).1 (Zx.out w7 I9.out).2 (by omega) DK.out Hnz.out).mono ?_;rintro e w8 ⟨u2,S2,rfl,Lv,-,uz⟩;clear k0 k1 k2 k3 j0 j1 j2;have Ga:Hid (aY cb w0 w8):=I9.out.after uz;have HO8:Hid (bz w8 w0.heap.size (.slice (some ⟨g,0,none⟩) v cg) l S):=aI.ac2 Tk.out uz;have Fi:=zh (xm.out.since uz);have HSr:Hid (∀j∈S,j<w7.heap.size):=fun j hj=>(aI.range Tk.out j hj).2
       obtain⟨wh,hwh⟩:∃z,z=gx p n 2000:=⟨_,rfl⟩
       obtain⟨st,ct⟩:∃z,z=gy p n 2000:=⟨_,rfl⟩
       obtain⟨sp,hsp⟩:∃z,z=je p n 2000:=⟨_,rfl⟩
       rw[<- hwh]at Lv;rw[<- ct,<- hsp];obtain⟨AW,cW,rfl,-,-,-⟩:=id Lv.read;have Hwh:=zh hwh;have jP:=zh ct;have ZA:=zh Lv;clear hwh ct hsp Lv uz
       by_cases dw:st=1
       ·have Ut:Hid (eG n wh):=by
         have h1:aV p n (ef n) 2000=1:=by have:=jP.out;unfold gy at this;rw[<- this];exact dw
         have h2:=(wR h1).2;have h3:wh=aP p n (ef n) 2000:=Hwh.out;rw[<- h3]at h2;exact(lc n).same h2.shp
        obtain⟨gw,cw,hgw⟩:=tj ZA.out (by rw[Ut.out.1,<- Hm.out];omega)
        cases hgw;have R5:wh.length=v:=by rw[Ut.out.1,Hm.out]
        have Hwl:=zh R5;rw[R5]at ZA ⊢;clear R5 J6;go_upto_region 18 with(fail)
        go_loopw [62] (fun i wr=>∃(v':Nat) (l:List (List Int)),v'<=v/\i=.int .i64 v'/\bz wr w0.heap.size (.slice (some ⟨g,0,none⟩) v cg) l S/\eG n l/\bB wr cb Ac L cq (P+1300+30*v')/\aY cb w0 wr/\(∀j,w7.heap.size<=j->j<w8.heap.size->wr.heap[j]?=w8.heap[j]?)) (fun i _=>v-(intOf i).toNat)
        case atStart=>exact⟨0,l,by omega,rfl,HO8.out,fU.out,Fi.out.mono (by omega),Ga.out,fun _ _ _=>rfl⟩
        case round=>
         clear HO8 Fi Tk xm fU;obtain⟨v2,l,Ep,rfl,ho,eJ,df,hS,ZB⟩:=hrel;have Ho:=zh ho;have fU:=zh eJ;have nt:=zh df;have HS:=zh hS;have VR:=zh ZB;clear ho eJ df hS ZB
         by_cases aH:v2<v
         ·have m1:IntKind.i64.wrap ((v2:Int)+1)=(v2:Int)+1:=aE _ (by omega) (by omega)
          obtain⟨row,aD⟩:=ay l v2 (by rw[fU.out.1,<- Hm.out];exact aH)
          obtain⟨AR,cR,pZ,-,-,sy⟩:=kK Ho.out aD
          have nD:row.length<=6:=(pK fU.out (by have:=Hm.out;omega) H6.out).2 v2 row aD
          have xT:row.length=(n.ends.getD v2 []).length:=gM fU.out aD;obtain⟨q,hq⟩:∃q,row.length=q:=⟨_,rfl⟩
          rw[hq]at pZ nD xT;have DL:=zh pZ;have Ur:=zh xT;obtain⟨wo,rfl⟩:∃z,z=wr:=⟨_,rfl⟩
          clear aD hq xT;go_upto_region 21 with(fail);clear pZ
          go_loopw [69] (fun i wr=>∃(j:Nat) (l:List (List Int)),j<=q/\i=.int .i64 j/\bz wr w0.heap.size (.slice (some ⟨g,0,none⟩) v cg) l S/\eG n l/\wr.cell? ⟨g,v2,none⟩=some (.slice AR q cR)/\bB wr cb Ac L cq (P+1300+30*v2+4*j)/\aY cb w0 wr/\(∀j,w7.heap.size<=j->j<w8.heap.size->wr.heap[j]?=w8.heap[j]?)) (fun i _=>q-(intOf i).toNat)
          case atStart=>exact⟨0,l,by omega,rfl,Ho.out,fU.out,DL.out,nt.out,HS.out,VR.out⟩
          case round=>
           clear Ho fU DL nt HS VR;obtain⟨j,l,hj,rfl,ho,eJ,pZ,df,hS,ZB⟩:=hrel;have Ho:=zh ho;have fU:=zh eJ;have DL:=zh pZ;have nt:=zh df;have HS:=zh hS;have VR:=zh ZB;clear ho eJ pZ df hS ZB
           by_cases eD:j<q
           ·have m2:IntKind.i64.wrap ((j:Int)+1)=(j:Int)+1:=aE _ (by omega) (by omega)
            have NA:w0.heap.size<=g:=(aI.range Ho.out g (by obtain⟨vs,Ss,-,-,-,e,-⟩:=Ho.out;rw[e];simp[Value.ownBlock])).1
            obtain⟨row,aD⟩:=ay l v2 (by rw[fU.out.1,<- Hm.out];exact aH)
            have nD:row.length=q:=by rw[gM fU.out aD];exact Ur.out.symm
            obtain⟨x,hx⟩:=ay row j (by omega);obtain⟨gr,cr,h1,h2,h3,h4,h5,j8⟩:=jZ Ho.out aD hx;rw[DL.out]at h1
            injection h1 with h1
            injection h1 with hA hl sr
            subst hA;have Be:w0.heap.size<=gr:=(aI.range Ho.out gr h4).1;have ZC:gr<w7.heap.size:=HSr.out gr h4;have HOa:=zh (j8 (-1:Int));have PA:=zh (pJ (i:=j) (-1:Int) fU.out aD);have HSa:Hid (aY cb w0 (wr.setCell ⟨gr,j,none⟩ (.int .i64 (-1)))):=CB.setCell HS.out (.inl Be) _
            have ZD:Hid (bB (wr.setCell ⟨gr,j,none⟩ (.int .i64 (-1))) cb Ac L cq (P+1300+30*v2+4*j)):=nt.out.ac2 fun k hk=>Below.heap_setCell _ _ _ _ (by show k≠gr;have:=sB.out;omega)
            have ZE:Hid ((wr.setCell ⟨gr,j,none⟩ (.int .i64 (-1))).cell? ⟨g,v2,none⟩=some (.slice (some ⟨gr,0,none⟩) q cR)):=by
             show _=_
             rw[World.cell?_of_block (Below.heap_setCell _ _ _ g (by show g≠gr;exact Ne.symm h5))];exact DL.out
            have Uu:Hid (∀j',w7.heap.size<=j'->j'<w8.heap.size->(wr.setCell ⟨gr,j,none⟩ (.int .i64 (-1))).heap[j']?=w8.heap[j']?):=fun j' q1 q2=>by
             rw[Below.heap_setCell _ _ _ _ (by show j'≠gr;omega)];exact VR.out j' q1 q2
            have Rj:=zh (And.intro Be (And.intro ZC (And.intro h5 NA)));clear aD nD hx j8 sr hl h5 h4 Be ZC NA Ho fU DL nt HS VR;go_wp2_with fail;obtain⟨wA,hwA⟩:∃z,z=wr.setCell ⟨gr,j,none⟩ (.int .i64 (-1)):=⟨_,rfl⟩
            rw[<- hwA];rw[<- hwA]at HOa HSa ZD ZE Uu;clear hwA h2 h3;refine(lF cb Ac L cq _ 2 wA ZD.out (by omega) (by omega)).mono ?_;rintro e wB ⟨bb,rfl,ZF,ZG⟩;have HSB:Hid (aY cb w0 wB):=HSa.out.trans ZG;have HOB:Hid (bz wB w0.heap.size (.slice (some ⟨g,0,none⟩) v cg) _ S):=aI.seen HOa.out ZG sB.out
            have Uv:=zh (aq ZE.out (by show g≠cb;have:=sB.out;have:=Rj.out.2.2.2;omega) wB ZG)
            have ZH:=zh ZF
            have Uw:Hid (∀j',w7.heap.size<=j'->j'<w8.heap.size->wB.heap[j']?=w8.heap[j']?):=fun j' q1 q2=>by
             by_cases hjz:j'<wA.heap.size
             ·rw[ZG.block j' hjz (by have:=sB.out;have:=I9.out.size;omega)];exact Uu.out j' q1 q2
             ·exfalso
              have h9:=Uu.out j' q1 q2;rw[Array.getElem?_eq_none (by omega)]at h9;rw[Array.getElem?_eq_getElem q2]at h9;cases h9
            clear ZF ZG;cases bb
            ·go_wp2;go_roundw
             case rel=>exact⟨j+1,_,by omega,by first | rfl | go_num,HOB.out,PA.out,Uv.out,ZH.out.mono (by omega),HSB.out,Uw.out⟩
             case measure=>simp[intOf];omega
            ·have ZI:bz wB w7.heap.size (.slice (some ⟨gw,0,none⟩) v cW) wh S2:=aI.ac4 ZA.out fun k hk=>Uw.out k (aI.range ZA.out k hk).1 (aI.range ZA.out k hk).2
             obtain⟨rw2,Ux⟩:=ay wh v2 (by rw[Hwl.out];exact aH)
             have ZJ:rw2.length=q:=by rw[gM Ut.out Ux];exact Ur.out.symm
             obtain⟨y,hy⟩:=ay rw2 j (by omega);obtain⟨gv,cv,a1,a2,-,-,-,-⟩:=jZ ZI Ux hy;rw[ZJ]at a1
             obtain⟨row,aD⟩:=ay _ v2 (show v2<_ by rw[PA.out.1,<- Hm.out];exact aH)
             have nD:row.length=q:=by rw[gM PA.out aD];exact Ur.out.symm
             obtain⟨x2,sq⟩:=ay row j (by omega);obtain⟨VH,VI,b1,b2,b3,b4,b5,j8⟩:=jZ HOB.out aD sq;rw[Uv.out]at b1
             injection b1 with b1
             injection b1 with hA hl sr
             injection hA with hA
             injection hA with hA
             subst hA;have HOC:=zh (j8 y);have abF:=zh (pJ (i:=j) y PA.out aD);have HSC:Hid (aY cb w0 (wB.setCell ⟨gr,j,none⟩ (.int .i64 y))):=CB.setCell HSB.out (.inl Rj.out.1) _
             have abG:Hid (bB (wB.setCell ⟨gr,j,none⟩ (.int .i64 y)) cb Ac L cq (P+1300+30*v2+4*j+4)):=(ZH.out.mono (by omega)).ac2 fun k hk=>Below.heap_setCell _ _ _ _ (by show k≠gr;have:=sB.out;have:=Rj.out.1;omega)
             have abH:Hid ((wB.setCell ⟨gr,j,none⟩ (.int .i64 y)).cell? ⟨g,v2,none⟩=some (.slice (some ⟨gr,0,none⟩) q cR)):=by
              show _=_
              rw[World.cell?_of_block (Below.heap_setCell _ _ _ g (by show g≠gr;exact Ne.symm Rj.out.2.2.1))];exact Uv.out
             have abI:Hid (∀j',w7.heap.size<=j'->j'<w8.heap.size->(wB.setCell ⟨gr,j,none⟩ (.int .i64 y)).heap[j']?=w8.heap[j']?):=fun j' q1 q2=>by
              rw[Below.heap_setCell _ _ _ _ (by show j'≠gr;have:=Rj.out.2.1;omega)];exact Uw.out j' q1 q2
             clear ZI Ux ZJ hy aD nD sq j8 sr hl b5 b4;go_wp2;go_roundw
             case rel=>exact⟨j+1,_,by omega,by first | rfl | go_num,HOC.out,abF.out,abH.out,abG.out.mono (by omega),HSC.out,abI.out⟩
             case measure=>simp[intOf];omega
           ·obtain rfl:j=q:=by omega
            go_wp2;go_roundw
            case rel=>exact⟨v2+1,l,by omega,by first | rfl | go_num,Ho.out,fU.out,nt.out.mono (by omega),HS.out,VR.out⟩
            case measure=>simp[intOf];omega
         ·go_wp2;go_meet
          case rel=>exact⟨l,Ho.out,fU.out,nt.out.mono (by omega),HS.out⟩
       ·have e1:(st=1)=False:=by simp;exact dw
        go_wp2;go_meet
        case rel=>exact⟨l,HO8.out,fU.out,Fi.out.mono (by omega),Ga.out⟩
     case rest=>
      clear Tk xm I9 fU;obtain⟨l,ho,eJ,df,hS⟩:=hcut;obtain⟨w9,rfl⟩:∃z,z=wc:=⟨_,rfl⟩
      have fU:=zh eJ;have acM:=zh df
      have NA:w0.heap.size<=g:=(aI.range ho g (by obtain⟨vs,Ss,-,-,-,e,-⟩:=ho;rw[e];simp[Value.ownBlock])).1
      have Gp:g≠cb:=by have:=sB.out;omega
      go_wp2_with fail;refine(db cb Ac L cq _ 30 w9 df (by omega) (by omega)).mono ?_;rintro e nM ⟨x,rfl,hx,zF,FD⟩;have Dt:Hid (aY cb w0 nM):=hS.trans FD;have FI:Hid (bz nM w0.heap.size (.slice (some ⟨g,0,none⟩) v cg) l S):=aI.seen ho FD sB.out;have xC:=zh zF;have HgB:=zh NA;have ZK:l.length=v:=by rw[eJ.1,Hm.out]
      have Uy:=zh ZK
      have pR:=zh (pK eJ (by have:=Hm.out;omega) H6.out)
      have hx3:x=0\/x=1\/x=2\/3<=x:=by omega
      have G_:0<v:=by omega
      have ZL:w0.heap.size<=nM.heap.size:=Dt.out.size;have FG:=zh ZL;clear ho eJ df hS zF FD hx NA J6 ZK ZL
      go_upto_block 8 with(fail)
      go_cut [7]from 91 to 126 (fun t wx=>∃l2 S2,bz wx w0.heap.size t l2 S2/\Pw l2/\bB wx cb Ac L cq (P+6000)/\aY cb w0 wx)
      case first=>
       rcases hx3 with rfl | rfl | rfl | hx3
       ·have ik:aa nM (nM.alloc (.cells #[.slice none 0 0] 28)):=ae _ (ad _);have Dr:=zh (aI.ac2 FI.out ik.below)
        have Y7:Hid (l.length+1<=4000000):=by show _<=_;have:=Uy.out;omega
        have D4:Hid (w0.heap.size<=(nM.alloc (.cells #[.slice none 0 0] 28)).heap.size):=Nat.le_trans FG.out ik.below.size;have OB:=zh ik;clear ik
        go_wp2_with (at_builtin;refine mj (base:=w0.heap.size) (v:=.slice (some ⟨g,0,none⟩) v cg) (u:=.slice none 0 0) (xs:=[]) rfl _ _ rfl rfl Dr.out nM.heap.size rfl (by simp) (iP _ _) (fun j hj=>by simp[Value.ownBlock]at hj) Y7.out D4.out ?_;intro g9 c9 wz S9 fV ka;have xl:=zh fV;have q8:Hid (Below w0.heap.size nM wz):=Below.trans (OB.out.below.mono FG.out) ka;clear fV ka)
        go_meet
        case rel=>exact⟨l++[[]],S9,by simpa using xl.out,Pz pR.out.1 pR.out.2,(xC.out.ac2 fun j hj=>q8.out.block j (by have:=sB.out;omega)).mono (by omega),CB.trans Dt.out (CB.of q8.out)⟩
       ·obtain⟨row,aD⟩:=ay l 0 (by have:=Uy.out;omega)
        obtain⟨AR,cR,pZ,-,-,sy⟩:=kK FI.out aD;have ch:=zh aD
        have Bv:Hid (row.length+1<=17592186044416):=by show _<=_;have:=pR.out.2 0 row aD;omega
        have DL:=zh pZ;unfold maxLen at sy;clear aD pZ;go_upto_region 32 with(fail);refine av (fun W=>W.cell? ⟨g,0,none⟩=some (.slice AR row.length cR)) 9 [false,false,false,false,false,true,true,true,true] (by kernel_rfl) (by kernel_rfl) (show(World.drew nM).cell? ⟨g,0,none⟩=some (.slice AR row.length cR)from DL.out) ?_
        simp only[ek,dD,zT]
        iterate 5 (apply bh rfl;(intro W hW;(have k0:=hW);go_simp;with_reducible rfl);simp only[zA])
        obtain⟨W,cA⟩:∃W,W=World.drew nM:=⟨_,rfl⟩
        rw[<- cA];have hW:=(show(World.drew nM).cell? ⟨g,0,none⟩=some (.slice AR row.length cR)from DL.out);rw[<- cA]at hW;have eU:=zh cA;clear cA
        refine bC (v:=?_) (ob:=?_) rfl ?_ ?_ ?_;rotate_left 2
        (go_simp;first | with_reducible rfl | (refine⟨?_,?_⟩ <;> with_reducible rfl))
        exact bc (ao _ _) hW;intro wa xz Di
        replace hW:=Di
        clear Di
        have Yr:Hid (Own wa W.heap.size (.slice (some ⟨W.heap.size,0,none⟩) 2 2) [(-1:Int),0]):=(by show Own _ _ _ _;rw[xz];exact dv W [(-1:Int),0] (by simp[maxLen]))
        have mA:Hid (aa nM wa):=(by show aa _ _;rw[xz,eU.out];exact ae _ (ag (ad _)))
        have Ys:Hid (cb<W.heap.size):=(by show _<_;rw[eU.out];show cb<nM.heap.size;have:=sB.out;have:=FG.out;omega)
        clear xz
        (try simp only[zA])
        refine Or.inl ⟨rfl,?_⟩
        go_simp
        (with_reducible refine(Px cb Ac L cq (P+5000+2) W.heap.size W.heap.size (-1) 0 _ (xC.out.since mA.out) (by omega) Yr.out Ys.out).mono ?_)
        rintro e W' ⟨y,rfl,df,hC⟩;refine⟨_,rfl,aq hW Gp _ hC,?_⟩
        replace hW:=aq hW Gp _ hC
        have EY:Hid (aY cb nM W'):=((aY.refl cb nM).after mA.out).trans hC;have kn:=zh df;have Iu:Hid (bz W' w0.heap.size (.slice (some ⟨g,0,none⟩) v cg) l S):=aI.seen FI.out EY.out sB.out;have tW:Hid (w0.heap.size<=W'.heap.size):=Nat.le_trans FG.out EY.out.size;clear df hC;obtain⟨w4,rfl⟩:∃z,z=W':=⟨_,rfl⟩
        have yz:=zh (Mu Iu.out tW.out ch.out hW)
        (try simp only[zA])
        refine bC (v:=?_) (ob:=?_) rfl ?_ ?_ ?_;rotate_left 2
        (go_simp;first | with_reducible rfl | (refine⟨?_,?_⟩ <;> with_reducible rfl))
        exact bc (ao _ _) hW;intro w5 kx oA
        replace hW:=oA
        clear oA
        have oQ:Hid (aa w4 w5):=(by show aa _ _;rw[kx];exact ae _ (ad _))
        have Hc5:Hid (w5.cell? ⟨w4.heap.size,0,none⟩=some (.int .i64 y)):=(by show _=_;rw[kx];simp)
        have uA:Hid (Own w5 w0.heap.size (.slice AR row.length cR) row):=yz.out.1.since oQ.out;have IR:Hid (w0.heap.size<=w5.heap.size):=Nat.le_trans tW.out oQ.out.below.size;clear kx
        (try simp only[zA])
        refine c_ (fun Q' HQ=>?_)
        (refine rs rfl _ _ rfl rfl uA.out w4.heap.size y rfl Hc5.out Bv.out IR.out ?_);intro g9 c9 w6 cJ iw jU DE;have hq:=yz.out.2 w5 w6 g9 c9 y oQ.out cJ iw jU;refine HQ _ _ hq.1 ?_;have HQ9:=zh hq;replace hW:=hq.1;clear cJ iw jU DE hq
        (try simp only[zA])
        simp only[bj];obtain⟨k0,f0,sS,S9,fV⟩:=HQ9.out;have xl:=zh fV;have Gg:=zh sS;clear fV sS hW;go_wp2;go_meet
        case rel=>exact⟨_,S9,xl.out,Mv pR.out.1 pR.out.2 0 (by simp;have:=pR.out.2 0 row ch.out;omega),((kn.out.ac2 fun j hj=>Gg.out.block j (by have:=sB.out;omega)).mono (by omega)).ac2 fun k hk=>Below.heap_setCell _ _ _ _ (by show k≠g;have:=sB.out;have:=HgB.out;omega),CB.setCell (CB.trans (Dt.out.trans EY.out) (CB.of Gg.out)) (.inl HgB.out) _⟩
       ·obtain⟨row,aD⟩:=ay l 0 (by have:=Uy.out;omega)
        obtain⟨AR,cR,pZ,-,-,sy⟩:=kK FI.out aD;have ch:=zh aD;have DL:=zh pZ;unfold maxLen at sy;clear aD
        by_cases jm:0<row.length
        ·have vN:IntKind.i64.wrap (p.labels-1)=p.labels-1:=aE _ (by omega) (by omega);go_upto_region 35 with(fail);clear pZ;refine av (fun W=>W.cell? ⟨g,0,none⟩=some (.slice AR row.length cR)/\W.cell? ⟨w.heap.size,0,none⟩=some (.int .i64 p.labels)) 11 [false,false,false,false,false,false,false,false,false,true,true] (by kernel_rfl) (by kernel_rfl) (show(World.drew nM).cell? ⟨g,0,none⟩=some (.slice AR row.length cR)/\(World.drew nM).cell? ⟨w.heap.size,0,none⟩=some (.int .i64 p.labels)from⟨DL.out,Q0.out nM Dt.out⟩) ?_
         simp only[ek,dD,zT]
         iterate 9 (apply bh rfl;(intro W hW;(obtain⟨k0,k1⟩:=hW);go_simp;with_reducible rfl);simp only[zA])
         obtain⟨W,cA⟩:∃W,W=World.drew nM:=⟨_,rfl⟩
         rw[<- cA];have hW:=(show(World.drew nM).cell? ⟨g,0,none⟩=some (.slice AR row.length cR)/\(World.drew nM).cell? ⟨w.heap.size,0,none⟩=some (.int .i64 p.labels)from⟨DL.out,Q0.out nM Dt.out⟩);rw[<- cA]at hW;have eU:=zh cA;clear cA
         refine bC (v:=?_) (ob:=?_) rfl ?_ ?_ ?_;rotate_left 2
         (go_simp;first | with_reducible rfl | (refine⟨?_,?_⟩ <;> with_reducible rfl))
         exact⟨bc (ao _ _) hW.1,bc (ao _ _) hW.2⟩;intro wa xz Di
         replace hW:=Di
         clear Di
         have Yr:Hid (Own wa W.heap.size (.slice (some ⟨W.heap.size,0,none⟩) 4 4) [(-2:Int),-1,p.labels-1,p.labels]):=(by show Own _ _ _ _;rw[xz];exact dv W [(-2:Int),-1,p.labels-1,p.labels] (by simp[maxLen]))
         have mA:Hid (aa nM wa):=(by show aa _ _;rw[xz,eU.out];exact ae _ (ag (ad _)))
         have Ys:Hid (cb<W.heap.size):=(by show _<_;rw[eU.out];show cb<nM.heap.size;have:=sB.out;have:=FG.out;omega)
         clear xz
         (try simp only[zA])
         refine Or.inl ⟨rfl,?_⟩
         go_simp
         (with_reducible refine(Py cb Ac L cq (P+5000+2) W.heap.size W.heap.size (-2) (-1) (p.labels-1) p.labels _ (xC.out.since mA.out) (by omega) Yr.out Ys.out).mono ?_)
         rintro e W' ⟨y,rfl,df,hC⟩;refine⟨_,rfl,And.intro (aq hW.1 Gp _ hC) (aq hW.2 xU _ hC),?_⟩
         replace hW:=And.intro (aq hW.1 Gp _ hC) (aq hW.2 xU _ hC)
         have EY:Hid (aY cb nM W'):=((aY.refl cb nM).after mA.out).trans hC;have kn:=zh df;have Iu:Hid (bz W' w0.heap.size (.slice (some ⟨g,0,none⟩) v cg) l S):=aI.seen FI.out EY.out sB.out;clear df hC
         (try simp only[zA])
         simp only[bj];obtain⟨w4,rfl⟩:∃z,z=W':=⟨_,rfl⟩
         obtain⟨x0,qz⟩:=ay row 0 jm;obtain⟨gr,cr,h1,h2,h3,h4,h5,j8⟩:=jZ Iu.out ch.out qz;rw[hW.1]at h1
         injection h1 with h1
         injection h1 with hA hl sr
         subst hA;have Be:w0.heap.size<=gr:=(aI.range Iu.out gr h4).1;have XK:=zh (j8 y);have Rj:=zh Be;clear qz j8 sr hl h5 h4 hW Be;go_wp2;go_meet
         case rel=>exact⟨_,S,XK.out,Mv pR.out.1 pR.out.2 0 (by rw[List.length_set];have:=pR.out.2 0 row ch.out;omega),(kn.out.mono (by omega)).ac2 fun k hk=>Below.heap_setCell _ _ _ _ (by show k≠gr;have:=sB.out;have:=Rj.out;omega),CB.setCell (Dt.out.trans EY.out) (.inl Rj.out) _⟩
        ·have lY:row.length=0:=by omega
         go_wp2;go_meet
         case rel=>exact⟨l,S,FI.out,Ri pR.out.1 pR.out.2,xC.out.mono (by omega),Dt.out⟩
       ·have g0:((x:Int)=0)=False:=by simp;omega
        have g1:((x:Int)=1)=False:=by simp;omega
        have g2:((x:Int)=2)=False:=by simp;omega
        go_wp2;go_meet
        case rel=>exact⟨l,S,FI.out,Ri pR.out.1 pR.out.2,xC.out.mono (by omega),Dt.out⟩
      case rest=>
       obtain⟨l2,S3,ho,uO,df,hS⟩:=hcut;have Ho:=zh ho;have abJ:=zh uO;have nt:=zh df;have HS:=zh hS;clear ho uO df hS;go_wp2;go_ret;exact⟨_,l2,S3,rfl,aI.mono Ho.out f6.out.below.size,abJ.out,nt.out.mono (by omega),(CB.of f6.out.below).trans (HS.out.mono f6.out.below.size)⟩
end Go.Proofs.YtnioemnkfojmkaaGreat
