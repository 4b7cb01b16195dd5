/- Parts of the proof: walks of functions and plain laws. -/
import Derived.Test.YtgmdpppljkmabaaGreatP0
import Derived.Test.YtgmdpppljkmabaaGreatP21
import Derived.Test.YtgmdpppljkmabaaGreatP1
import Derived.Test.YtgmdpppljkmabaaGreatP9
import Derived.Test.YtgmdpppljkmabaaGreatP11
import Derived.Test.YtgmdpppljkmabaaGreatP12
import Derived.Test.YtgmdpppljkmabaaGreatP6
import Derived.Test.YtgmdpppljkmabaaGreatP10
import Derived.Test.YtgmdpppljkmabaaGreatP13
set_option maxRecDepth 100000
set_option maxHeartbeats 16000000
namespace Go.Proofs.YtgmdpppljkmabaaGreat
open Go Go.RowKit
theorem FY {n:aj} (hn:ak n=true) {keep:Nat->Nat->Bool} {a j:Nat} {f:Int×Int} (hp:aZ n a j f) (hk:keep a j=true):((f.1.toNat:Nat):Int)∈dW (ij n keep) (a:Int):=by
 have h1:=(mR hn keep (v:=a) (m:=h_ keep a j)).2 ⟨j,f,hp,hk,rfl,rfl⟩;have h2:=cY hn hp;refine jz.2 ⟨_,_,h1,?_⟩;show f.1=_
 omega
theorem FZ (n:aj) (keep:Nat->Nat->Bool):(ij n keep).ends.length=n.ends.length:=by simp[ij]
theorem ER {n:aj} (hn:ak n=true) {keep:Nat->Nat->Bool} {r:Nat} (hr:r<n.ends.length) (K:Int) (hk:∀(y j x:Nat) (f:Int×Int),aZ n y j f->f.1.toNat=x->ay n r x<=K->ay n r y+1=ay n r x->keep y j=true):
  ∀(g x:Nat),hZ n r x->ay n r x<=K->(ay n r x).toNat<=g->hZ (ij n keep) r x
 | g,x,hx,hK,hg=>by
  have hd:=nQ hn hr
  by_cases e:x=r
  ·subst e;exact hZ.refl
  ·obtain⟨y,h1,h2,h3⟩:=hd.par x hx e;have h3:ay n r y+1=ay n r x:=h3;have h4:0<=ay n r y:=hd.pos y h1
   cases g with
   | zero=>omega
   | succ g=>
    have ih:=ER hn hr K hk g y h1 (by omega) (by omega);obtain⟨j,f,hp,hf⟩:=jz.1 h2
    have:=FY hn hp (hk y j x f hp (by omega) hK h3)
    rw[show f.1.toNat=x by omega]at this
    exact ih.step this
theorem vF {p:Int->Bool}:∀ {xs:List Int} {i:Nat} {x:Int},xs[i]?=some x->p x=true->(∀(j:Nat) (y:Int),xs[j]?=some y->p y=true->j=i)->xs.countP p=1
 | [],i,x,h,_,_=>by simp at h
 | a::xs,i,x,h,hp,hu=>by
  rw[List.countP_cons]
  cases i with
  | zero=>
   simp at h
   subst h;rw[hp]
   have:xs.countP p=0:=List.countP_eq_zero.2 fun y hy X_=>by
    obtain⟨j,hj⟩:=List.getElem?_of_mem hy
    have:=hu (j+1) y (by simpa using hj) X_
    omega
   simp[this]
  | succ i=>
   have ha:p a=false:=by
    rw[Bool.eq_false_iff];intro hpa
    have:=hu 0 a (by simp) hpa
    omega
   rw[ha]
   have:=vF (xs:=xs) (i:=i) (x:=x) (by simpa using h) hp fun j y hj X_=>by
    have:=hu (j+1) y (by simpa using hj) X_
    omega
   simp[this]
theorem vG {p q:Int->Bool}:∀ {xs:List Int},(∀x∈xs,q x = !p x)->xs.countP q+xs.countP p=xs.length
 | [],_=>rfl
 | a::xs,h=>by
  have ih:=vG (xs:=xs) fun x hx=>h x (List.mem_cons_of_mem _ hx)
  have ha:=h a (by simp);rw[List.countP_cons,List.countP_cons,List.length_cons,ha]
  cases p a <;> simp <;> omega
theorem ES {n:aj} (hn:ak n=true) (h:DQ n=true):py n 3 ((List.range n.ends.length).map (dH n)):=by
 unfold DQ at h;rw[Bool.and_eq_true,decide_eq_true_eq,ug hn]at h;obtain⟨-,hcut⟩:=h;intro v hv;have q8:=dX hn hv;obtain⟨r,hre⟩:∃r,am n v=r:=⟨_,rfl⟩
 rw[hre]at q8;have hd:=nQ hn q8
 have FA:hZ n r v:=by rw[<- hre];exact(bA hn hv).1.symm hn hv
 have hD:∀w,w<n.ends.length->hZ n r w->((List.range n.ends.length).map (dH n)).getD w 0=ay n r w:=fun w hw dJ=>by
  rw[re hw];unfold dH
  rw[<- gJ hn q8 dJ,show am n r=r by rw[<- hre];exact l4 hn hv]
 have aD:∀i,i<(n.ends.getD v []).length->a_ n v i<n.ends.length/\hZ n r (a_ n v i)/\hZ n v (a_ n v i)/\((a_ n v i:Nat):Int)∈dW n (v:Int):=fun i hi=>by
  have ly:=(getD_in (d:=(0,0)) hi).1;have dm:=ko hn ly;have hs:=kp ly dm.2.1
  exact⟨by unfold a_;omega,FA.step hs,hZ.refl.step hs,hs⟩
 have hA:∀i,i<(n.ends.getD v []).length->ay n r (a_ n v i)≠ay n r v:=fun i hi he=>by
  obtain⟨f1,f2,f3,f4⟩:=aD i hi;have hp:aZ n v i ((n.ends.getD v []).getD i (0,0)):=(getD_in hi).2;have OX:=cY hn hp
  have tp:∀x,hZ n r x->hZ (ij n (fk v i ((n.ends.getD v []).getD i (0,0)))) r x:=fun x hx=>
   ER hn q8 (ay n r x) (fun y j x' f Dz hf _ vM=>by
    unfold fk;rw[Bool.not_eq_true',Bool.or_eq_false_iff,Bool.and_eq_false_iff,Bool.and_eq_false_iff,beq_eq_false_iff_ne,beq_eq_false_iff_ne,beq_eq_false_iff_ne,beq_eq_false_iff_ne];constructor
    ·by_cases e1:y=v
     ·right
      intro e2;subst e1 e2;unfold aZ at hp Dz;rw[hp]at Dz;have e3:=Option.some.inj Dz
      have e4:a_ n y j=x':=by unfold a_;rw[e3];exact hf
      rw[e4]at he;omega
     ·exact .inl e1
    ·by_cases e1:y=a_ n v i
     ·right
      intro e2;have h5:=OX.2.2.2.2;rw[<- e2,show((n.ends.getD v []).getD i (0,0)).1.toNat=y from e1.symm]at h5
      unfold aZ at h5 Dz;rw[Dz]at h5;have e3:=Option.some.inj h5
      have e4:x'=v:=by rw[<- hf,e3];simp
      rw[e4]at vM;rw[<- e1]at he;omega
     ·exact .inl e1) _ x hx (Int.le_refl _) (Nat.le_refl _)
  have R3:=rE hn _ (kc hn hp)
  exact hcut v i _ hp (((tp v FA).symm R3 (by rw[FZ];exact q8)).trans (tp _ f2))
 have hB:∀i j,i<(n.ends.getD v []).length->j<(n.ends.getD v []).length->ay n r (a_ n v i)=ay n r v-1->ay n r (a_ n v j)=ay n r v-1->i=j:=fun i j hi hj di dj=>by
  refine Decidable.byContradiction fun iJ=>?_
  obtain⟨f1,f2,f3,f4⟩:=aD i hi;obtain⟨g1,g2,g3,g4⟩:=aD j hj;have hp:aZ n v i ((n.ends.getD v []).getD i (0,0)):=(getD_in hi).2;have hq:aZ n v j ((n.ends.getD v []).getD j (0,0)):=(getD_in hj).2;have OX:=cY hn hp
  have tp:∀x,hZ n r x->ay n r x<=ay n r v-1->hZ (ij n (fk v i ((n.ends.getD v []).getD i (0,0)))) r x:=fun x hx hxd=>
   ER hn q8 (ay n r v-1) (fun y j x' f Dz hf hK vM=>by
    unfold fk;rw[Bool.not_eq_true',Bool.or_eq_false_iff,Bool.and_eq_false_iff,Bool.and_eq_false_iff,beq_eq_false_iff_ne,beq_eq_false_iff_ne,beq_eq_false_iff_ne,beq_eq_false_iff_ne];constructor
    ·left
     rintro rfl;omega
    ·by_cases e1:y=a_ n v i
     ·right
      intro e2;have h5:=OX.2.2.2.2;rw[<- e2,show((n.ends.getD v []).getD i (0,0)).1.toNat=y from e1.symm]at h5
      unfold aZ at h5 Dz;rw[Dz]at h5;have e3:=Option.some.inj h5
      have e4:x'=v:=by rw[<- hf,e3];simp
      rw[e4]at hK;omega
     ·exact .inl e1) _ x hx hxd (Nat.le_refl _)
  have R3:=rE hn _ (kc hn hp)
  have hs:=FY hn (keep:=fk v i ((n.ends.getD v []).getD i (0,0))) hq (by
   unfold fk;rw[Bool.not_eq_true',Bool.or_eq_false_iff,Bool.and_eq_false_iff,Bool.and_eq_false_iff,beq_eq_false_iff_ne,beq_eq_false_iff_ne,beq_eq_false_iff_ne,beq_eq_false_iff_ne];refine⟨.inr (Ne.symm iJ),.inl fun e=>?_⟩
   have e:v=a_ n v i:=e;rw[<- e]at di
   omega)
  have hs:hZ (ij n (fk v i ((n.ends.getD v []).getD i (0,0)))) v (a_ n v j):=hZ.refl.step hs
  exact hcut v i _ hp (hs.trans (((tp _ g2 (by omega)).symm R3 (by rw[FZ];exact q8)).trans (tp (a_ n v i) f2 (by omega))))
 have hC:∀i,i<(n.ends.getD v []).length->ay n r (a_ n v i)=ay n r v-1\/ay n r (a_ n v i)=ay n r v+1:=fun i hi=>by
  obtain⟨f1,f2,f3,f4⟩:=aD i hi;have a1:ay n r (a_ n v i)<=ay n r v+1:=hd.nb _ _ FA f4;have a2:ay n r v<=ay n r (a_ n v i)+1:=hd.nb _ _ f2 (tb hn hv f4);have a3:=hA i hi;omega
 have rf:∀i,i<(n.ends.getD v []).length->(aR ((List.range n.ends.length).map (dH n)) (n.ends.getD v []))[i]?=some (ay n r (a_ n v i)):=fun i hi=>by
  obtain⟨f1,f2,-,-⟩:=aD i hi;rw[Ov hi,hD _ f1 f2]
 unfold dC fS
 rw[if_neg (by decide),if_neg (by decide),if_pos rfl,hD v hv FA];unfold ws
 by_cases e:ay n r v=0
 ·rw[if_pos e,beq_iff_eq,List.countP_eq_length];intro x hx;obtain⟨i,hi⟩:=List.getElem?_of_mem hx;have uI:=al hi;rw[vC]at uI;rw[rf i uI]at hi;have hi:=Option.some.inj hi;have h1:0<=ay n r (a_ n v i):=hd.pos _ (aD i uI).2.1;rcases hC i uI with h2 | h2
  ·omega
  ·rw[beq_iff_eq];omega
 ·have iJ:v≠r:=fun e2=>e (by rw[e2];exact hd.zero)
  obtain⟨-,w,w1,w2⟩:=LG hn q8 FA iJ;obtain⟨i,hi,hw⟩:=FE.1 w1
  have ef:a_ n v i=w:=by unfold a_;rw[hw];simp
  have c1:(aR ((List.range n.ends.length).map (dH n)) (n.ends.getD v [])).countP (fun x=>x==ay n r v-1)=1:=by
   refine vF (rf i hi) (by rw[ef,beq_iff_eq];exact w2) fun j y hj hy=>?_
   have sH:=al hj;rw[vC]at sH;rw[rf j sH]at hj;have hj:=Option.some.inj hj
   exact hB j i sH hi (by rw[hj];exact eq_of_beq hy) (by rw[ef];exact w2)
  have c2:=vG (p:=fun x=>x==ay n r v-1) (q:=fun x=>x==ay n r v+1) (xs:=aR ((List.range n.ends.length).map (dH n)) (n.ends.getD v [])) fun x hx=>by
   obtain⟨j,hj⟩:=List.getElem?_of_mem hx;have sH:=al hj;rw[vC]at sH;rw[rf j sH]at hj;have hj:=Option.some.inj hj;rw[<- hj];rcases hC j sH with h2 | h2
   ·rw[h2]
    have:(ay n r v-1==ay n r v+1)=false:=by rw[beq_eq_false_iff_ne];omega
    simp[this]
   ·rw[h2]
    have:(ay n r v+1==ay n r v-1)=false:=by rw[beq_eq_false_iff_ne];omega
    simp[this]
  rw[if_neg e,Bool.and_eq_true,beq_iff_eq,beq_iff_eq];exact⟨c1,by omega⟩
structure Kids (n:aj) (dep:Nat->Int) (par:Nat->Option Nat) (zr:Nat->Nat->Bool):Prop where
 acV:∀v i,i<(n.ends.getD v []).length->zr v i=true->par (a_ n v i)=some v/\dep (a_ n v i)=dep v+1/\a_ n v i<n.ends.length
 of_:∀v c,c<n.ends.length->par c=some v->∃i,i<(n.ends.getD v []).length/\zr v i=true/\a_ n v i=c
 one:∀v i j,i<(n.ends.getD v []).length->j<(n.ends.getD v []).length->zr v i=true->zr v j=true->a_ n v i=a_ n v j->i=j
def eV (n:aj) (dep:Nat->Int) (par:Nat->Option Nat) (zr:Nat->Nat->Bool) (v j w:Nat):Bool:=(List.range j).any fun i=>zr v i&&pT dep par w (a_ n v i)
theorem Kids.step {n:aj} {dep:Nat->Int} {par:Nat->Option Nat} {zr:Nat->Nat->Bool} (hT:Tr n.ends.length dep par) (h:Kids n dep par zr) {v j:Nat} (hj:j<(n.ends.getD v []).length):
  (List.range n.ends.length).countP (eV n dep par zr v (j+1))=(List.range n.ends.length).countP (eV n dep par zr v j)+(if zr v j=true then oq n.ends.length dep par (a_ n v j) else 0):=by
 have fw:∀w,eV n dep par zr v (j+1) w=(eV n dep par zr v j w||(zr v j&&pT dep par w (a_ n v j))):=fun w=>by
  unfold eV;rw[List.range_succ,List.any_append];simp
 by_cases hk:zr v j=true
 ·rw[if_pos hk];unfold oq;refine rI (fun w _=>by rw[fw,hk,Bool.true_and]) fun w hw hb=>?_
  have DS:=List.mem_range.1 hw;rw[Bool.eq_false_iff];intro ha;unfold eV at hb;rw[List.any_eq_true]at hb;obtain⟨i,hi,hb⟩:=hb;have hi:=List.mem_range.1 hi;rw[Bool.and_eq_true]at hb;have q1:=(h.acV v i (by omega) hb.1).2.1;have q2:=(h.acV v j hj hk).2.1
  have:=Fz hT _ w _ _ DS (Nat.le_refl _) hb.2 ha (by omega)
  have:=h.one v i j (by omega) hj hb.1 hk this
  omega
 ·rw[if_neg hk,Nat.add_zero]
  exact List.countP_congr fun w _=>by rw[fw,Bool.eq_false_iff.2 hk];simp
theorem Kids.sub {n:aj} {dep:Nat->Int} {par:Nat->Option Nat} {zr:Nat->Nat->Bool} (hT:Tr n.ends.length dep par) (h:Kids n dep par zr) {v:Nat} (hv:v<n.ends.length):oq n.ends.length dep par v=1+(List.range n.ends.length).countP (eV n dep par zr v (n.ends.getD v []).length):=by
 unfold oq
 have h1:(List.range n.ends.length).countP (fun w=>w==v)=1:=by
  have h2:(List.range n.ends.length).count v=1:=by rw[List.Nodup.count List.nodup_range,if_pos (List.mem_range.2 hv)]
  rw[<- h2];rfl
 have h2:=rI (p:=fun w=>w==v) (q:=eV n dep par zr v (n.ends.getD v []).length) (r:=fun w=>pT dep par w v) (l:=List.range n.ends.length) (fun w hw=>?_) (fun w hw hb=>?_)
 ·rw[h2,h1]
 ·have DS:=List.mem_range.1 hw;rw[Bool.eq_iff_iff,Bool.or_eq_true,beq_iff_eq];constructor
  ·intro ha
   by_cases e:w=v
   ·exact .inl e
   ·obtain⟨c,hc,c1,c2⟩:=xL hT _ w v DS (Nat.le_refl _) ha e;obtain⟨i,i1,i2,i3⟩:=h.of_ v c hc c1
    right
    unfold eV;rw[List.any_eq_true]
    exact⟨i,List.mem_range.2 i1,by rw[i2,i3,c2];rfl⟩
  ·rintro(rfl | hb)
   ·exact lE hT DS
   ·unfold eV at hb;rw[List.any_eq_true]at hb;obtain⟨i,hi,hb⟩:=hb;rw[Bool.and_eq_true]at hb;exact J_ hT _ w _ v DS (Nat.le_refl _) hb.2 (h.acV v i (List.mem_range.1 hi) hb.1).1
 ·have e:=eq_of_beq hb;subst e;rw[Bool.eq_false_iff];intro hb;unfold eV at hb;rw[List.any_eq_true]at hb;obtain⟨i,hi,hb⟩:=hb;rw[Bool.and_eq_true]at hb;have h3:=(h.acV _ i (List.mem_range.1 hi) hb.1).2.1;have h4:=(tm hT _ w _ hv (Nat.le_refl _) hb.2).2;rcases h4 with h4 | h4
  ·rw[h4]at h3;omega
  ·omega
def zt (n:aj) (v i:Nat):Bool:=decide (((n.ends.getD v []).getD i (0,0)).2=li n (a_ n v i))&&decide (dH n (a_ n v i)=dH n v+1)
theorem Ox {n:aj} (hn:ak n=true) {c v:Nat} (hc:c<n.ends.length) (hp:jQ n c=some v):∃q:Nat,li n c=(q:Int)/\q<(n.ends.getD c []).length/\a_ n c q=v/\dH n v+1=dH n c:=by
 have hT:=(O6 hn).some_ c v hc hp;unfold jQ at hp
 by_cases h:0<=li n c
 ·rw[if_pos h]at hp;have hp:=Option.some.inj hp;obtain⟨-,-,-,-,-,h6⟩:=fo hn (dX hn hc) (r:=am n c) (v:=c) h;refine⟨(li n c).toNat,by omega,h6,?_,hT.2⟩
  unfold ib at hp;exact hp
 ·rw[if_neg h]at hp;cases hp
theorem Oy {n:aj} (hn:ak n=true):Kids n (dH n) (jQ n) (zt n):=by
 refine⟨fun v i hi hk=>?_,fun v c hc hp=>?_,fun v i j hi hj ki kj he=>?_⟩
 ·unfold zt at hk;rw[Bool.and_eq_true,decide_eq_true_eq,decide_eq_true_eq]at hk;obtain⟨h1,h2,h3,j,h4,h5,h6⟩:=nD hn hi;refine⟨?_,hk.2,h1⟩;unfold jQ;rw[<- hk.1,h4,if_pos (by omega)];unfold ib;rw[Int.toNat_natCast,h6];simp
 ·obtain⟨q,h1,h2,h3,h4⟩:=Ox hn hc hp;obtain⟨g1,g2,g3,j,g4,g5,g6⟩:=nD hn h2;rw[h3]at g5 g6
  have ef:a_ n v j=c:=by unfold a_;rw[g6];simp
  refine⟨j,g5,?_,ef⟩;unfold zt;rw[ef,g6,Bool.and_eq_true,decide_eq_true_eq,decide_eq_true_eq];exact⟨h1.symm,by omega⟩
 ·obtain⟨-,-,-,a,a4,a5,a6⟩:=nD hn hi;obtain⟨-,-,-,b,b4,b5,b6⟩:=nD hn hj;unfold zt at ki kj;rw[Bool.and_eq_true,decide_eq_true_eq,decide_eq_true_eq]at ki kj;rw[a4]at ki;rw[b4,<- he]at kj;have yk:a=b:=by omega
  subst yk;rw[<- he,a6]at b6
  have:=congrArg Prod.snd b6
  simp only at this
  omega
theorem iD {n:aj} (hn:ak n=true) (h0:n.ids.length≠0) {v:Nat} (hv:v<n.ends.length):
  ux (f_ n v)=n.ids.getD (am n v) 0/\mz (f_ n v)=dH n v/\wy (f_ n v)=(if li n v<0 then 9 else li n v)/\wF (f_ n v)=((oq n.ends.length (dH n) (jQ n) v%2:Nat):Int)/\0<=f_ n v/\f_ n v<=2000000000/\(0<=li n v->li n v<6):=by
 have hl:=dX hn hv;have hN:=aB hn;have h1:=(vD hn h0).2 _ hl;have h2:0<=dH n v:=(O6 hn).pos v hv;have h3:dH n v<n.ends.length:=(rc hn hl hv).2
 have h4:0<=li n v->li n v<6:=fun h=>by
  obtain⟨a,-,-,-,-,b⟩:=fo hn hl (r:=am n v) (v:=v) h
  have h5:n.ends[v]?=some (n.ends.getD v []):=by rw[zDd,List.getElem?_eq_getElem hv];rfl
  have h6:=(bV hn h5).1;have h7:(li n v).toNat<(n.ends.getD v []).length:=b;omega
 obtain⟨q,hq⟩:∃q,(if li n v<0 then 9 else li n v)=q:=⟨_,rfl⟩
 have ZO:0<=q/\q<=9:=by
  rw[<- hq]
  split
  ·omega
  ·have:=h4 (by omega);omega
 obtain⟨b,hb⟩:∃b:Int,((oq n.ends.length (dH n) (jQ n) v%2:Nat):Int)=b:=⟨_,rfl⟩
 have B4:0<=b/\b<=1:=by omega
 unfold f_ ux mz wy wF
 rw[hq,hb];refine⟨by omega,by omega,by omega,by omega,by omega,by omega,h4⟩
theorem LI {n:aj} (hn:ak n=true) {r:Nat} (hr:r<n.ends.length) (h:am n r=r):oq n.ends.length (dH n) (jQ n) r=me n r:=by
 have hT:=O6 hn
 have tG:∀(f w:Nat),w<n.ends.length->(dH n w).toNat<=f->am n w=r->pT (dH n) (jQ n) w r=true:=by
  intro f
  induction f with
  | zero=>
   intro w hw hf he;have h1:=hT.pos w hw
   by_cases e:w=r
   ·rw[e];exact lE hT hr
   ·have h2:=nd hn hw;have h3:¬li n w<0:=fun h=>e (by rw[h2.1 h,he])
    obtain⟨-,-,h4,-⟩:=fo hn (dX hn hw) (r:=am n w) (v:=w) (by unfold li at h3;omega)
    have:dH n w=ay n (am n w) w:=rfl
    omega
  | succ f ih=>
   intro w hw hf he;have h1:=hT.pos w hw
   by_cases e:w=r
   ·rw[e];exact lE hT hr
   ·have h2:=nd hn hw;have h3:¬li n w<0:=fun h=>e (by rw[h2.1 h,he])
    have hp:jQ n w=some (ib n w (li n w)):=if_pos (by omega);obtain⟨p1,p2⟩:=hT.some_ w _ hw hp
    obtain⟨-,-,-,-,h5,-⟩:=fo hn (dX hn hw) (r:=am n w) (v:=w) (by unfold li at h3;omega)
    have h5:hZ n w (ib n w (li n w)):=h5;rw[ix hT hw,hp,Bool.or_eq_true]
    exact .inr (ih _ p1 (by omega) (by rw[<- gJ hn hw h5];exact he))
 unfold oq me rH
 rw[<- List.countP_eq_length_filter];refine List.countP_congr fun w hw=>?_
 have DS:=List.mem_range.1 hw;rw[decide_eq_true_eq];constructor
 ·intro ha;rw[rJ hn _ w r DS (Nat.le_refl _) ha,h]
 ·intro he;exact tG _ w DS (Nat.le_refl _) he
theorem LJ {n:aj} (hn:ak n=true) (h0:n.ids.length≠0) (h:mf n=true):py n 5 ((List.range n.ends.length).map (f_ n)):=by
 intro v hv;have hT:=O6 hn;have hK:=Oy hn;obtain⟨p0,p1,p2,p3,p4,p5,p6⟩:=iD hn h0 hv
 have aD:∀i,i<(n.ends.getD v []).length->a_ n v i<n.ends.length/\po ((List.range n.ends.length).map (f_ n)) ((n.ends.getD v []).getD i (0,0))=f_ n (a_ n v i)/\am n (a_ n v i)=am n v:=fun i hi=>by
  have ly:=(getD_in (d:=(0,0)) hi).1;have dm:=ko hn ly;have hs:=kp ly dm.2.1
  have hl:a_ n v i<n.ends.length:=by unfold a_;omega
  exact⟨hl,re hl,(gJ hn hv (hZ.refl.step hs)).symm⟩
 unfold dC fS
 rw[if_neg (by decide),if_neg (by decide),if_neg (by decide),if_neg (by decide),Bool.and_eq_true,decide_eq_true_eq,re hv];refine⟨h0,?_⟩
 have aa2:∀j,j<=(n.ends.getD v []).length->jA ((List.range n.ends.length).map (f_ n)) (f_ n v) (n.ends.getD v []) j%2=(1+(((List.range n.ends.length).countP (eV n (dH n) (jQ n) (zt n) v j):Nat):Int))%2:=by
  intro j
  induction j with
  | zero=>
   intro _
   have:(List.range n.ends.length).countP (eV n (dH n) (jQ n) (zt n) v 0)=0:=List.countP_eq_zero.2 fun w _=>by simp[eV]
   rw[this];simp[jA]
  | succ j ih=>
   intro hj;have ih:=ih (by omega);have sH:j<(n.ends.getD v []).length:=by omega
   obtain⟨f1,f2,f3⟩:=aD j sH;obtain⟨q0,q1,q2,q3,q4,q5,q6⟩:=iD hn h0 f1
   have hk:qD (f_ n v) ((n.ends.getD v []).getD j (0,0)) (po ((List.range n.ends.length).map (f_ n)) ((n.ends.getD v []).getD j (0,0)))=zt n v j:=by
    rw[f2,Bool.eq_iff_iff]
    unfold qD zt
    rw[Bool.and_eq_true,Bool.and_eq_true,beq_iff_eq,beq_iff_eq,decide_eq_true_eq,decide_eq_true_eq,p1,q1,q2];obtain⟨g1,g2,g3,q,g4,g5,g6⟩:=nD hn sH
    have h5:n.ends[a_ n v j]?=some (n.ends.getD (a_ n v j) []):=by rw[zDd,List.getElem?_eq_getElem f1];rfl
    have h6:=(bV hn h5).1;constructor
    ·rintro⟨a,b⟩;refine⟨?_,b⟩
     split at a
     ·rw[g4]at a;omega
     ·exact a
    ·rintro⟨a,b⟩;refine⟨?_,b⟩
     rw[if_neg (by rw[<- a,g4];omega)]
     exact a
   unfold jA;rw[hk,hK.step hT sH,f2]
   by_cases DA:zt n v j=true
   ·rw[if_pos DA,if_pos DA,q3];omega
   ·rw[if_neg DA,if_neg DA];simpa using ih
 unfold km qG qF
 rw[Bool.and_eq_true,Bool.and_eq_true,List.all_eq_true,Bool.or_eq_true,beq_iff_eq,p0,p1,p2,p3];refine⟨⟨fun i hi=>?_,?_⟩,?_⟩
 ·obtain⟨f1,f2,f3⟩:=aD i (List.mem_range.1 hi);rw[f2,(iD hn h0 f1).1,f3];simp
 ·rw[aa2 _ (Nat.le_refl _),hK.sub hT hv];omega
 ·by_cases e:v=am n v
  ·left
   have hr:am n v<n.ends.length:=dX hn hv;have IV:li n v<0:=(nd hn hv).2 e
   have hz:dH n v=0:=by
    unfold dH
    have:=vE hn hr
    rw[<- e]at this ⊢;exact this
   have M_:=List.all_eq_true.1 h v (List.mem_range.2 hv);unfold uD at M_;rw[Bool.not_eq_true',beq_eq_false_iff_ne,<- e]at M_;rw[hz,if_pos IV,LI hn hv e.symm,<- e]
   have:me n v%2=0:=by omega
   rw[this];simp
  ·right
   have IV:¬li n v<0:=fun hc=>e ((nd hn hv).1 hc)
   obtain⟨s1,s2,s3,s4,s5,s6⟩:=fo hn (dX hn hv) (r:=am n v) (v:=v) (by unfold li at IV;omega)
   have s7:dH n v=ay n (am n v) v:=rfl;rw[Bool.and_eq_true,decide_eq_true_eq,List.any_eq_true];refine⟨by omega,(li n v).toNat,List.mem_range.2 s6,?_⟩;have s6:(li n v).toNat<(n.ends.getD v []).length:=s6;obtain⟨f1,f2,f3⟩:=aD _ s6;rw[if_neg IV,f2,(iD hn h0 f1).2.1,Bool.and_eq_true,beq_iff_eq,beq_iff_eq];refine⟨by omega,?_⟩;have e2:a_ n v (li n v).toNat=ib n v (gV n (am n v) v):=rfl
   have e3:dH n (a_ n v (li n v).toNat)=ay n (am n v) (a_ n v (li n v).toNat):=by unfold dH;rw[f3]
   rw[e3,e2,s4,s7]
structure aa3 (n:aj) (s:Int):Prop where
 len:(Bv n s).length=n.ends.length
 acc:py n s (Bv n s)
 rng:∀x∈Bv n s,0<=x/\x<=2000000000/\(s=1->x<=1)/\(s=2->x<=2)
theorem jr {N:Nat} {f:Nat->Int} {P:Int->Prop} (h:∀v,v<N->P (f v)):∀x∈(List.range N).map f,P x:=fun x hx=>by
 obtain⟨v,hv,rfl⟩:=List.mem_map.1 hx;exact h v (List.mem_range.1 hv)
theorem Xn {n:aj} {s:Int} (hn:ak n=true) (hs:1<=s/\s<=5) (h:jc n s=true):aa3 n s:=by
 have hN:=aB hn;unfold jc at h
 by_cases e1:s=1
 ·subst e1;rw[if_pos rfl]at h
  have e:Bv n 1=lf n:=by unfold Bv;rw[if_pos rfl,if_pos h]
  refine⟨by rw[e];exact Ba n,by rw[e];exact Ow hn h,?_⟩
  rw[e];unfold lf
  exact jr fun v _=>by unfold fC;omega
 ·rw[if_neg e1]at h
  by_cases e2:s=2
  ·subst e2;rw[if_pos rfl]at h
   cases hR:kn n with
   | none=>rw[hR]at h;cases h
   | some R=>
    cases R with
    | none=>rw[hR]at h;cases h
    | some l=>
     have e:Bv n 2=l:=by unfold Bv;rw[if_neg e1,if_pos rfl,hR]
     obtain⟨a,b⟩:=DW hn hR
     refine⟨by rw[e];exact b,by rw[e];exact Iq a,?_⟩
     rw[e];intro x hx;obtain⟨k,hk⟩:=List.getElem?_of_mem hx;have pQ:=al hk
     have:=(a k (by omega)).1
     rw[ao hk]at this;omega
  ·rw[if_neg e2]at h
   by_cases e3:s=3
   ·subst e3;rw[if_pos rfl]at h
    have e:Bv n 3=(List.range n.ends.length).map (dH n):=by unfold Bv;rw[if_neg e1,if_neg e2,if_pos rfl]
    refine⟨by rw[e];simp,by rw[e];exact ES hn h,?_⟩
    rw[e]
    exact jr fun v hv=>by
     have h1:=(O6 hn).pos v hv;have h2:dH n v<n.ends.length:=(rc hn (dX hn hv) hv).2;omega
   ·rw[if_neg e3]at h
    by_cases e0:n.ids.length=0
    ·rw[if_pos e0]at h;cases h
    ·rw[if_neg e0]at h
     by_cases e4:s=4
     ·subst e4;rw[if_pos rfl]at h
      have e:Bv n 4=(List.range n.ends.length).map (lG n):=by unfold Bv;rw[if_neg e1,if_neg e2,if_neg e3,if_pos rfl]
      refine⟨by rw[e];simp,by rw[e];exact LH hn e0 h,?_⟩
      rw[e]
      exact jr fun v hv=>by
       obtain⟨r,hr,q8,-,-,-,FA⟩:=rX hn h hv;have h1:=(vD hn e0).2 r q8;have h2:=(lF hn q8 hv).2 FA;have h3:=(rc hn q8 hv).2;unfold lG;rw[hr,Int.toNat_natCast];omega
     ·obtain rfl:s=5:=by omega
      rw[if_neg e4]at h
      have e:Bv n 5=(List.range n.ends.length).map (f_ n):=by unfold Bv;rw[if_neg e1,if_neg e2,if_neg e3,if_neg e4]
      refine⟨by rw[e];simp,by rw[e];exact LJ hn e0 h,?_⟩
      rw[e]
      exact jr fun v hv=>by
       have:=iD hn e0 hv
       omega
def lO (l:List Int) (c:Int) (xs:List Int):Nat:=(xs.filter fun w=>l.getD w.toNat 0==c).length
theorem ET {l:List Int} {c:Int} {xs:List Int} {k:Nat} {y:Int} (h:xs[k]?=some y):lO l c (xs.take (k+1))=lO l c (xs.take k)+(if l.getD y.toNat 0==c then 1 else 0):=by
 unfold lO;rw[aV h,List.filter_append,List.length_append];congr 1
 cases hh:(l.getD y.toNat 0==c) <;> simp only[List.filter_cons,List.filter_nil,hh] <;> rfl
theorem Cq (l:List Int) (c:Int) (xs:List Int):lO l c xs<=xs.length:=List.length_filter_le _ _
theorem EU (l:List Int) (c:Int) (es:List (Int×Int)):(lO l c (es.map (·.1))=0)↔jx (aR l es) c=false:=by
 unfold lO jx aR
 rw[List.length_eq_zero_iff,List.filter_eq_nil_iff];rw[Bool.eq_false_iff,ne_eq,List.contains_iff_mem];constructor
 ·intro h hm;obtain⟨e,he,h2⟩:=List.mem_map.1 hm
  exact h e.1 (List.mem_map_of_mem he) (by rw[h2];exact beq_self_eq_true c)
 ·intro h x hx h2;obtain⟨e,he,rfl⟩:=List.mem_map.1 hx;exact h (List.mem_map.2 ⟨e,he,by simpa using h2⟩)
theorem EV (ve vi vn vl:Value) (n:aj) (l:List Int) (k:Nat) (I2:Int) (es:List (Int×Int)) (w:World) (h:aC w ve vi vn n) (hl:aO w vl l) (bM:n.ends[k]?=some es) (p8:es.length<=1000) (d_:∀e∈es,0<=e.1/\e.1<l.length):
  Calls Tryz.prog 209 #[.agg #[ve,vi,vn],vl,.int .i64 k,.int .i64 I2] w fun e w'=>e=.returned (.int .i64 (lO l I2 (es.map (·.1))))/\Below w.heap.size w w':=by
 obtain⟨w0,A,c,A2,c2,A3,c3,rfl,rfl,rfl,fg,hm,f8,fP,HA,bS,aT,H,dP,d9,dV⟩:=zB h;clear h
 have HL:=zh (hl.keep aT.out);obtain⟨AL,cL,rfl,yo,mF,_⟩:=hl;unfold maxLen at mF;have pO:=zh d_;have jZ:=zh bM;clear d_ bM;have aU:ab w0 w0:=aa _;obtain⟨xs,xz⟩:∃xs,xs=es.map (·.1):=⟨_,rfl⟩
 have rh:xs.length=es.length:=by rw[xz,List.length_map]
 rw[<- xz];have YS:=zh xz
 go_enter Tryz.func209,Tryz.ntmps209
 go_upto_region 1 with(fail);rw[<- bS.out];go_wp2_with fail;refine(iu _ _ _ n k es w0 H.out jZ.out (by omega)).mono ?_;rw[<- xz];rintro e w1 ⟨u,rfl,ho,aN⟩;obtain⟨AX,cX,rfl,hXl,hXm,_⟩:=id ho.ints;have HX:=zh ho.ints;unfold maxLen at hXm;have dr:ab w0 w1:=aU.trans aN;have dM:=zh dr;have hz:ab w1 w1:=aa _;clear ho aN aU xz dr;go_wp2
 go_loopw [9,16] (fun uc ui wr=>∃j:Nat,j<=xs.length/\ui=.int .i64 j/\uc=.int .i64 (lO l I2 (xs.take j):Nat)/\ab w1 wr) (fun _ ui _=>xs.length-(intOf ui).toNat)
 case atStart=>exact⟨0,Nat.zero_le _,rfl,rfl,hz⟩
 case round=>
  obtain⟨j,hj,rfl,rfl,bG⟩:=hrel
  by_cases az:j<xs.length
  ·obtain⟨y,hy⟩:=aA xs j az
   have hym:0<=y/\y<l.length:=by
    have hm:=List.mem_of_getElem? hy;rw[YS.out]at hm;obtain⟨e,he,rfl⟩:=List.mem_map.1 hm;exact pO.out e he
   obtain⟨q,rfl⟩:=Int.eq_ofNat_of_zero_le hym.1;have hq:q<l.length:=by omega
   obtain⟨z,Y2⟩:=aA l q hq
   obtain⟨b1,mJ,gh,eD⟩:=(by
    obtain⟨A',c',e',_,_,hA⟩:=HX.out;cases e'
    exact hA j _ hy:∃b off,AX=some ⟨b,off,none⟩/\w1.cell? ⟨b,off+j,none⟩=some (.int .i64 (q:Int)))
   obtain⟨b2,Ty,hA2,rg⟩:=(by
    obtain⟨A',c',e',_,_,hA⟩:=HL.out;cases e'
    exact hA q _ Y2:∃b off,AL=some ⟨b,off,none⟩/\w0.cell? ⟨b,off+q,none⟩=some (.int .i64 z))
   subst gh hA2;have q1:=bG.cell eD;have q2:=(dM.out.after bG).cell rg;have V8:=zh (ET (l:=l) (c:=I2) hy)
   have aa4:lO l I2 (xs.take j)<=1000:=by have:=Cq l I2 (xs.take j);rw[List.length_take]at this;omega
   obtain⟨ct,KF⟩:∃ct,ct=lO l I2 (xs.take j):=⟨_,rfl⟩
   rw[<- KF]at aa4 V8 ⊢
   have Hz:Hid (l.getD (q:Int).toNat 0=z):=by show _=_;rw[Int.toNat_natCast,ao Y2]
   have mw:IntKind.i64.wrap ((ct:Int)+1)=(ct:Int)+1:=aH _ (by omega) (by omega);have HS:=zh bG;clear hy hym Y2 eD rg KF hz bG;cases hb:(z==I2)
   ·have hn:Hid (lO l I2 (xs.take (j+1))=ct):=by show _=_;rw[V8.out,Hz.out,hb];simp
    have bx:(z=I2)=False:=by simpa using hb
    go_wp2;go_roundw
    case rel=>exact⟨j+1,by omega,by go_num,by rw[hn.out],HS.out⟩
    case measure=>simp[intOf];omega
   ·have hn:Hid (lO l I2 (xs.take (j+1))=ct+1):=by show _=_;rw[V8.out,Hz.out,hb];simp
    have bx:(z=I2)=True:=by simpa using hb
    go_wp2;go_roundw
    case rel=>exact⟨j+1,by omega,by go_num,by rw[hn.out];go_num,HS.out⟩
    case measure=>simp[intOf];omega
  ·obtain rfl:j=xs.length:=by omega
   have HS:=zh bG;clear bG hz;go_wp2;go_ret
   exact⟨by rw[List.take_length];rfl,ab.after aT.out (dM.out.after HS.out)⟩
theorem sC (ve vi vn:Value) (n:aj) (w:World) (h:aC w ve vi vn n) (hn:ak n=true):
  Calls Tryz.prog 163 #[.agg #[ve,vi,vn]] w fun e w'=>∃U,e=.returned (.tuple #[U,.bool (J8 (kn n)),.bool (kn n).isSome])/\(∀l,kn n=some (some l)->Own w' w.heap.size U l)/\Below w.heap.size w w':=by
 have pj:=aB hn;have jU:=pj.1;have mi:=pj.2;clear pj;have yT:Hid (∀(k:Nat) (es:List (Int×Int)),n.ends[k]?=some es->es.length<=6/\∀e∈es,0<=e.1/\e.1<n.ends.length):=fun (k:Nat) (es:List (Int×Int)) he=>bV hn he
 clear hn;obtain⟨R,hR⟩:∃R,R=kn n:=⟨_,rfl⟩
 rw[<- hR];have HR:=zh hR;clear hR
 obtain⟨w0,A,c,A2,c2,A3,c3,rfl,rfl,rfl,fg,hm,f8,fP,HA,bS,aT,H,dP,d9,dV⟩:=zB h;clear h
 obtain⟨cA,TM⟩:∃x,x=c:=⟨_,rfl⟩
 subst TM;have aU:ab w0 w0:=aa _
 go_enter Tryz.func163,Tryz.ntmps163
 go_upto_region 1 with(fail);rw[<- bS.out]
 go_wp2_with (at_make;refine jm _ rfl _ _ rfl _ _ n.ends.length rfl rfl rfl rfl (by omega) ?_;intro w1 gR aN dh)
 obtain⟨g,hg⟩:∃g,g=w0.heap.size:=⟨_,rfl⟩
 rw[<- hg]at gR dh ⊢;have Hg:=zh hg;clear hg dh;go_wp2
 go_loopw [15] (fun i wr=>∃k:Nat,k<=n.ends.length/\i=.int .i64 k/\Own wr w0.heap.size (.slice (some ⟨g,0,none⟩) n.ends.length n.ends.length) (List.replicate k (-1)++List.replicate (n.ends.length-k) 0)/\ab w0 wr) (fun i _=>n.ends.length-(intOf i).toNat)
 case atStart=>exact⟨0,Nat.zero_le _,rfl,by have:=gR;simpa[Hg.out]using this,aN⟩
 case round=>
  obtain⟨k,hk,rfl,ho,hs⟩:=hrel;have Ho:=zh ho;have Hs:=zh hs;clear gR aN ho hs aU
  by_cases az:k<n.ends.length
  ·obtain⟨y,hy⟩:=aA (List.replicate k (-1:Int)++List.replicate (n.ends.length-k) 0) k (by simp;omega)
   have cz:=Ho.out.cell hy;have fz:=Ho.out.free k;clear hy;go_wp2;go_roundw
   case rel=>
    refine⟨k+1,by omega,by go_num,?_,Below.setCell Hs.out (by show w0.heap.size<=g;rw[Hg.out];exact Nat.le_refl _) _⟩
    have:=Ho.out.set (k:=k) (-1)
    have e:(List.replicate k (-1:Int)++List.replicate (n.ends.length-k) 0).set k (-1)=List.replicate (k+1) (-1)++List.replicate (n.ends.length-(k+1)) 0:=by
     rw[List.set_append_right _ _ (by simp),List.length_replicate,Nat.sub_self,show n.ends.length-k=(n.ends.length-(k+1))+1 by omega,List.replicate_succ,List.set_cons_zero,List.replicate_succ',List.append_assoc]
     rfl
    rwa [e]at this
   case measure=>simp[intOf];omega
  ·obtain rfl:k=n.ends.length:=by omega
   have fG:Hid (Own wr w0.heap.size (.slice (some ⟨g,0,none⟩) n.ends.length n.ends.length) (List.replicate n.ends.length (-1))):=by
    have:=Ho.out
    rwa [Nat.sub_self,List.replicate_zero,List.append_nil]at this
   have Hgr:Hid (w0.heap.size<=g):=by rw[Hg.out];exact Nat.le_refl _
   clear hk az;obtain⟨wS,hwS⟩:∃wS,wS=wr:=⟨_,rfl⟩
   rw[<- hwS]at fG Hs ⊢;clear hwS Ho;go_wp2
   go_loopw [7,8] (fun us uv wr=>∃(l:List Int) (v:Int) (s f:Nat),us=.int .i64 (s:Int)/\uv=.int .i64 v/\Own wr w0.heap.size (.slice (some ⟨g,0,none⟩) n.ends.length n.ends.length) l/\wl n l v s f/\ik n f l v s=R/\ab w0 wr) (fun us uv _=>wk (intOf uv) (intOf us).toNat)
   case atStart=>exact⟨_,0,0,400002,rfl,rfl,fG.out,JN,HR.out.symm,Hs.out⟩
   case round=>
    obtain⟨l,v,s,f,rfl,rfl,ho,j8,dG,bG⟩:=hrel;have Ho:=zh ho;have zM:=zh j8;have Ir:=zh dG;have g_:=j8.len;have hlo:=j8.lo;have hhi:=j8.hi;have hss:=j8.st;clear ho dG j8
    by_cases hv:(n.ends.length:Int)<=v
    ·have hr:Hid (R=some (some l)):=by show _=_;rw[<- Ir.out];exact MP zM.out hv
     have HS:=zh bG;obtain rfl:v=(n.ends.length:Int):=by omega
     clear bG hv hlo hhi hss;go_wp2
     first | go_ret3 | fail
     exact⟨_,by rw[hr.out];rfl,by intro l' CP;rw[hr.out]at CP;cases CP;exact Ho.out.mono aT.out.size,ab.after aT.out HS.out⟩
    ·by_cases Sm:v<0
     ·have hr:Hid (R=some none):=by show _=_;rw[<- Ir.out];exact MQ zM.out (by omega) Sm
      have HS:=zh bG;have CF:v<(n.ends.length:Int):=by omega
      clear bG hv hlo hhi hss;go_wp2
      first | go_ret3 | fail
      exact⟨_,by rw[hr.out];rfl,fun l' CP=>by(rw[hr.out]at CP;cases CP),ab.after aT.out HS.out⟩
     ·obtain⟨k,rfl⟩:=Int.eq_ofNat_of_zero_le (show 0<=v by omega)
      have hk:k<n.ends.length:=by omega
      obtain⟨x,hx⟩:=aA l k (by omega);have n9:=zM.out.rng x (List.mem_of_getElem? hx);obtain⟨f',rfl⟩:=MT zM.out;have cz:=Ho.out.cell hx;have fz:=Ho.out.free k;have Hx:=zh hx;have m1:IntKind.i64.wrap ((k:Int)-1)=(k:Int)-1:=aH _ (by omega) (by omega);have m2:IntKind.i64.wrap (x+1)=x+1:=aH _ (by omega) (by omega);have m3:IntKind.i64.wrap ((s:Int)+1)=(s:Int)+1:=aH _ (by omega) (by omega);have m4:IntKind.i64.wrap ((k:Int)+1)=(k:Int)+1:=aH _ (by omega) (by omega);clear hx hv Sm hlo hhi
      by_cases h2:x=2
      ·subst h2;have Hb:=zh (MR zM.out hk Hx.out);clear m2 m3 m4 n9;go_wp2;go_roundw
       case rel=>exact⟨l.set k (-1),(k:Int)-1,s,f',rfl,by first | rfl | go_num,Ho.out.set (k:=k) (-1),Hb.out.2,by rw[<- Hb.out.1];exact Ir.out,bG.setCell Hgr.out _⟩
       case measure=>(simp[intOf,wk];try omega)
      ·have h2':(x=2)=False:=by simp[h2]
       have h2b:(x==2)=false:=by simp[h2]
       by_cases hs:s=200000
       ·have hr:Hid (R=none):=by show _=_;rw[<- Ir.out];subst hs;exact MS zM.out hk Hx.out h2
        have HS:=zh bG
        have dr:((s:Int)=200000)=True:=by simp;omega
        have fM:(s=200000)=True:=by simp[hs]
        have jJ:((s:Int)==200000)=true:=by simp;omega
        clear bG m1 m2 m3 m4 n9 h2 hs hss;go_wp2
        first | go_ret3 | fail
        exact⟨_,by rw[hr.out];rfl,fun l' CP=>by(rw[hr.out]at CP;cases CP),ab.after aT.out HS.out⟩
       ·have MM:((s:Int)=200000)=False:=by simp;omega
        have fM:(s=200000)=False:=by simp[hs]
        have jJ:((s:Int)==200000)=false:=by simp;omega
        have Hg:=zh (Ua zM.out hk Hx.out h2 hs);have Hs:=zh hs;clear h2 hs n9;obtain⟨es,bM⟩:=aA n.ends k hk;obtain⟨r1,r2⟩:=yT.out k es bM;have jZ:=zh bM;have CZ:=zh r1;have Tc:=zh r2;clear bM r1 r2;go_upto_region 19 with(fail);obtain⟨l2,El⟩:∃l2,l2=l.set k (x+1):=⟨_,rfl⟩
        rw[<- El]at Hg;obtain⟨W0,O3⟩:∃W0,W0=wr.setCell ⟨g,k,none⟩ (.int .i64 (x+1)):=⟨_,rfl⟩
        rw[<- O3]
        have fG:Hid (Own W0 w0.heap.size (.slice (some ⟨g,0,none⟩) n.ends.length n.ends.length) l2):=by show Own _ _ _ _;rw[O3,El];exact Ho.out.set (k:=k) (x+1)
        have Xo:l2.length=n.ends.length:=by rw[El,List.length_set];exact g_
        have sa:l2[k]?=some (x+1):=by rw[El,List.getElem?_set_self (by omega)]
        have oy:Hid (ab w0 W0):=by show ab _ _;rw[O3];exact bG.setCell Hgr.out _
        have qz2:=ae (fG.out.cell sa)
        have HIl:=zh (show ∀X,ab W0 X->aO X (.slice (some ⟨g,0,none⟩) n.ends.length n.ends.length) l2 from fun X hX=>by have:=(Own.since fG.out hX).ints;exact this)
        have t0:=ag dP oy.out;have t1:=ag d9 oy.out;have t2:=ag dV oy.out;have hz:ab W0 W0:=aa _;have aa5:=zh Xo;have Hx2:=zh sa
        have iR:=zh (show kg n l2 k = !(jx (aR l2 es) (x+1))by unfold kg jx;rw[ao jZ.out,ao sa])
        have HP:=zh (And.intro dP (And.intro d9 dV));clear O3 El Xo sa bG cz fz dP d9 dV;have Hzz:=zh (EU l2 (x+1) es);have p8:=Cq l2 (x+1) (es.map (·.1));rw[List.length_map]at p8;have Hle:=zh p8;obtain⟨ct,KF⟩:∃ct,ct=lO l2 (x+1) (es.map (·.1)):=⟨_,rfl⟩
        rw[<- KF]at Hzz Hle;have Hct:=zh KF
        have HRS:Hid (∀W,ab W0 W->Calls Tryz.prog 209 #[.agg #[.slice A n.ends.length cA,.slice A2 n.ids.length c2,.slice A3 n.acn.length c3],.slice (some ⟨g,0,none⟩) n.ends.length n.ends.length,.int .i64 k,.int .i64 (x+1)] W fun e w'=>e=.returned (.int .i64 ct)/\Below W.heap.size W w'):=by
         intro W hW
         have:=EV _ _ _ _ n l2 k (x+1) es W (H.out.keep (oy.out.after hW).below) (HIl.out W hW) jZ.out (by have:=CZ.out;omega) (by rw[aa5.out];exact Tc.out)
         rw[<- KF]at this;exact this
        clear p8 KF;refine av 9 (ab W0) (by kernel_rfl) (by kernel_rfl) (by simp) (ah (aa _)) ?_;simp only[zT]
        iterate 7 (refine b_ rfl ?_;simp only[zA])
        refine fc ?_ rfl ?_ ?_;rotate_left;(intro W hW;unfold da;go_simp;(with_reducible refine(HRS.out W hW).mono ?_);rintro e W' ⟨rfl,bB⟩;first | (refine⟨?_,ab.trans hW bB⟩;with_reducible rfl) | (subst bB;refine⟨?_,hW⟩;with_reducible rfl))
        simp only[zA]
        refine b_ rfl ?_;simp only[zA]
        intro W' hW;have jy:=zh (Own.since fG.out hW);have V3:=zh (oy.out.after hW);obtain⟨dP,d9,dV⟩:=HP.out
        by_cases hb:ct=0
        ·have Vv:kg n l2 k=true:=by rw[iR.out,Hzz.out.1 hb];rfl
         rw[Vv]at Hg;have e1:((ct:Int)==0)=true:=by simp[hb]
         have e2:((ct:Int)=0)=True:=by simp[hb]
         have e3:(ct=0)=True:=by simp[hb]
         clear hW hz t0 t1 t2 qz2 hb m1 m2 m3;go_wp2;go_roundw
         case rel=>exact⟨l2,(k:Int)+1,s+1,f',by go_num,by first | rfl | go_num,jy.out,by have:=Hg.out.2;simpa using this,by have:=Hg.out.1;simp at this;rw[<- this];exact Ir.out,V3.out⟩
         case measure=>(have:=Hs.out;have:=zM.out.st;simp[intOf,wk];try omega)
        ·have Vv:kg n l2 k=false:=by
          rw[iR.out];cases hq:jx (aR l2 es) (x+1)
          ·exact absurd (Hzz.out.2 hq) hb
          ·rfl
         rw[Vv]at Hg;have e1:((ct:Int)==0)=false:=by simp[hb]
         have e2:((ct:Int)=0)=False:=by simp[hb]
         have e3:(ct=0)=False:=by simp[hb]
         clear hW hz t0 t1 t2 qz2 hb m1 m2 m3;go_wp2;go_roundw
         case rel=>exact⟨l2,(k:Int),s+1,f',by go_num,by first | rfl | go_num,jy.out,by have:=Hg.out.2;simpa using this,by have:=Hg.out.1;simp at this;rw[<- this];exact Ir.out,V3.out⟩
         case measure=>(have:=Hs.out;have:=zM.out.st;simp[intOf,wk];try omega)
theorem vH {f:Nat->Int} (k:Nat):(List.range (k+1)).map f=(List.range k).map f++[f k]:=by rw[List.range_succ,List.map_append];rfl
theorem Cs {n:aj} {w:World} {v:Value} (h:aO w v n.ids) {r:Nat} (hr:r<n.ids.length):∃b off c,v=.slice (some ⟨b,off,none⟩) n.ids.length c/\∀W,ab w W->W.cell? ⟨b,off+r,none⟩=some (.int .i64 (n.ids.getD r 0)):=by
 obtain⟨A',c',e,_,_,hA⟩:=h
 obtain⟨b,off,e',hc⟩:=hA r (n.ids.getD r 0) (by rw[zDd,List.getElem?_eq_getElem hr];rfl)
 subst e';exact⟨b,off,c',e,fun W hW=>ae hc W hW⟩
theorem mo {N:Nat} {w:World} {A:Option Addr} {c:Nat} {xs:List Int} (h:aO w (.slice A N c) xs) (hl:xs.length=N) (h0:0<N):∃b off,A=some ⟨b,off,none⟩/\∀k x,xs[k]?=some x->∀W,ab w W->W.cell? ⟨b,off+k,none⟩=some (.int .i64 x):=by
 obtain⟨A',c',e,_,_,hA⟩:=h;rw[hl]at e;cases e;obtain⟨b,off,e,-⟩:=hA 0 xs[0] (List.getElem?_eq_getElem (by omega));refine⟨b,off,e,fun k x hx W hW=>?_⟩
 obtain⟨b',n7,e',hc⟩:=hA k x hx;rw[e]at e';cases e';exact ae hc W hW
theorem LK (ve vi vn:Value) (n:aj) (w:World) (h:aC w ve vi vn n) (hn:ak n=true):
  Calls Tryz.prog 104 #[.agg #[ve,vi,vn],.int .i64 3] w fun e w'=>∃u,e=.returned u/\Own w' w.heap.size u ((List.range n.ends.length).map (dH n))/\Below w.heap.size w w':=by
 have gT:=aB hn;have jU:=gT.1;have mi:=gT.2;have Hn:=zh hn;clear gT hn
 obtain⟨w0,A,c,A2,c2,A3,c3,rfl,rfl,rfl,fg,hm,f8,fP,HA,bS,aT,H,dP,d9,dV⟩:=zB h;clear h
 go_enter Tryz.func104,Tryz.ntmps104
 go_upto_region 1 with(fail);rw[<- bS.out];have aU:ab w0 w0:=aa _;go_wp2_with fail;refine(iC _ _ _ n w0 H.out Hn.out).mono ?_;rintro e w1 ⟨uR,rfl,EW,aN⟩;have dr:ab w0 w1:=aN;clear aN;obtain⟨AR,cR,rfl,-,-,-⟩:=id EW.ints;have C6:(bW n).length=n.ends.length:=by exact rP n
 rw[C6]at EW;obtain⟨bR,oR,rfl,PX⟩:=mo EW.ints C6 (by omega);have Xp:=zh PX;have dM:=zh dr;have Xq:=zh C6;clear EW PX C6 aU;rw[Xq.out];go_wp2
 go_loopw [11,46] (fun u i wr=>∃k:Nat,k<=n.ends.length/\i=.int .i64 k/\Own wr w1.heap.size u ((List.range k).map (dH n))/\ab w1 wr) (fun _ i _=>n.ends.length-(intOf i).toNat)
 case atStart=>exact⟨0,Nat.zero_le _,rfl,by simpa using bU _ w1.heap.size,aa _⟩
 case round=>
  obtain⟨k,hk,rfl,ho,bG⟩:=hrel;have Ho:=zh ho;have Hs:=zh bG;clear ho bG dr
  by_cases az:k<n.ends.length
  ·have m3:IntKind.i64.wrap ((k:Int)+1)=(k:Int)+1:=aH _ (by omega) (by omega)
   have dz:Hid (((List.range k).map (dH n)).length+1<=17592186044416):=by show _<=_;simp;omega
   have kG:=zh (vH (f:=dH n) k)
   obtain⟨r,hr,sX,PY⟩:∃r:Nat,(bW n)[k]?=some (r:Int)/\r<n.ends.length/\r=am n k:=by
    exact⟨am n k,by unfold bW;rw[List.getElem?_map,List.getElem?_range az];rfl,dX Hn.out az,rfl⟩
   have c0:=Xp.out k _ hr wr Hs.out;have Is:=zh PY;clear hr PY;have pJ:ab w0 wr:=ab.trans dM.out Hs.out;have pK:=zh pJ;go_wp2_with fail;refine(iv _ _ _ n r wr (H.out.keep pK.out.below) Hn.out sX).mono ?_;rintro e w2 ⟨uF,rfl,zp,bx⟩;obtain⟨AF,cF,rfl,-,-,-⟩:=id zp.ints;rw[jG Hn.out sX]at zp;obtain⟨bF,oF,rfl,PZ⟩:=nZ Hn.out sX zp.ints;rw[jG Hn.out sX];have cW:=zh (ab.after Hs.out bx);have qU:=zh (ab.after pK.out bx);have fG:=zh (Own.since Ho.out bx);have cd:=PZ k az w2 (aa _);have RY:=tz Hn.out sX az;obtain⟨d,hd⟩:∃z,z=ay n r k:=⟨_,rfl⟩
   rw[<- hd]at cd RY;have Hd:=zh hd;clear hd zp PZ bx c0 pJ;have wV:=qU.out
   have hy:dH n k=d:=by unfold dH;rw[<- Is.out,Hd.out]
   rw[hy]at kG;clear hy
   go_wp2_with (at_builtin;refine c_ rfl _ _ rfl rfl (fG.out.since (ad _ (aa _))) w2.heap.size d rfl (by simp[go_sem]) dz.out (ad _ cW.out) ?_;intro g cc w3 ex jJ)
   have jy:=zh ex;have gZ:Hid (ab w1 w3):=jJ;clear ex jJ;go_wp2;go_roundw
   case rel=>exact⟨k+1,by omega,by first | rfl | go_num,by rw[kG.out];have:=jy.out;simpa using this,gZ.out⟩
   case measure=>simp[intOf];omega
  ·obtain rfl:k=n.ends.length:=by omega
   clear hk az;go_wp2;go_ret;exact⟨_,rfl,Ho.out.mono (Nat.le_trans aT.out.size dM.out.below.size),ab.trans aT.out (ab.trans dM.out Hs.out)⟩
theorem LL {w:World} {b:Nat} {x y:Int} (h:w.cell? ⟨b,0,none⟩=some (.int .i64 x)) (h':w.cell? ⟨b,1,none⟩=some (.int .i64 y)):aO w (.slice (some ⟨b,0,none⟩) 2 2) [x,y]:=
 ⟨some ⟨b,0,none⟩,2,rfl,Nat.le_refl _,by unfold maxLen;omega,fun k z hk=>by
  match k,hk with
  | 0,hk=>simp at hk;subst hk;exact⟨b,0,rfl,h⟩
  | 1,hk=>simp at hk;subst hk;exact⟨b,0,rfl,h'⟩
  | k+2,hk=>simp at hk⟩
theorem ya {w:World} {b:Nat} {x y z t:Int} (h0:w.cell? ⟨b,0,none⟩=some (.int .i64 x)) (h1:w.cell? ⟨b,1,none⟩=some (.int .i64 y)) (h2:w.cell? ⟨b,2,none⟩=some (.int .i64 z)) (h3:w.cell? ⟨b,3,none⟩=some (.int .i64 t)):aO w (.slice (some ⟨b,0,none⟩) 4 4) [x,y,z,t]:=
 ⟨some ⟨b,0,none⟩,4,rfl,Nat.le_refl _,by unfold maxLen;omega,fun k q hk=>by
  match k,hk with
  | 0,hk=>simp at hk;subst hk;exact⟨b,0,rfl,h0⟩
  | 1,hk=>simp at hk;subst hk;exact⟨b,0,rfl,h1⟩
  | 2,hk=>simp at hk;subst hk;exact⟨b,0,rfl,h2⟩
  | 3,hk=>simp at hk;subst hk;exact⟨b,0,rfl,h3⟩
  | k+4,hk=>simp at hk⟩
theorem LM (ve vi vn:Value) (n:aj) (w:World) (h:aC w ve vi vn n) (hn:ak n=true) (hid:n.ids.length≠0) (Pa:iU n=true):
  Calls Tryz.prog 104 #[.agg #[ve,vi,vn],.int .i64 4] w fun e w'=>∃u,e=.returned u/\Own w' w.heap.size u ((List.range n.ends.length).map (lG n))/\Below w.heap.size w w':=by
 have gT:=aB hn;have jU:=gT.1;have mi:=gT.2;have Hn:=zh hn;have U4:=zh Pa;have Oz:=zh hid;clear gT hn Pa hid
 obtain⟨w0,A,c,A2,c2,A3,c3,rfl,rfl,rfl,fg,hm,f8,fP,HA,bS,aT,H,dP,d9,dV⟩:=zB h;clear h
 go_enter Tryz.func104,Tryz.ntmps104
 go_upto_region 1 with(fail);rw[<- bS.out];have aU:ab w0 w0:=aa _;go_wp2_with fail;refine(iC _ _ _ n w0 H.out Hn.out).mono ?_;rintro e wp ⟨uP,rfl,P1,lV⟩;have hsp:ab w0 wp:=lV;obtain⟨AP,cP,rfl,-,-,-⟩:=id P1.ints;have Hsp:=zh hsp;clear P1 lV;go_wp2_with fail;refine(uO _ _ _ n wp (H.out.keep Hsp.out.below) Hn.out).mono ?_;rintro e w1 ⟨uR,rfl,EW,aN⟩;rw[if_pos U4.out]at EW;have dr:ab w0 w1:=ab.after Hsp.out aN;clear aN hsp;obtain⟨AR,cR,rfl,-,-,-⟩:=id EW.ints;have C6:(m_ n n.ends.length).length=n.ends.length:=by exact xK n n.ends.length
 rw[C6]at EW;obtain⟨bR,oR,rfl,PX⟩:=mo EW.ints C6 (by omega);have Xp:=zh PX;have dM:=zh dr;have Xq:=zh C6;clear EW PX C6 aU;rw[Xq.out];go_wp2
 go_loopw [11,46] (fun u i wr=>∃k:Nat,k<=n.ends.length/\i=.int .i64 k/\Own wr w1.heap.size u ((List.range k).map (lG n))/\ab w1 wr) (fun _ i _=>n.ends.length-(intOf i).toNat)
 case atStart=>exact⟨0,Nat.zero_le _,rfl,by simpa using bU _ w1.heap.size,aa _⟩
 case round=>
  obtain⟨k,hk,rfl,ho,bG⟩:=hrel;have Ho:=zh ho;have Hs:=zh bG;clear ho bG dr
  by_cases az:k<n.ends.length
  ·have m3:IntKind.i64.wrap ((k:Int)+1)=(k:Int)+1:=aH _ (by omega) (by omega)
   have dz:Hid (((List.range k).map (lG n)).length+1<=17592186044416):=by show _<=_;simp;omega
   have kG:=zh (vH (f:=lG n) k)
   obtain⟨r,hr,sX,PY⟩:∃r:Nat,(m_ n n.ends.length)[k]?=some (r:Int)/\r<n.ends.length/\jP n k=(r:Int)/\hZ n r k:=by
    obtain⟨r,q1,q2,-,-,-,q6⟩:=rX Hn.out U4.out az
    exact⟨r,by unfold m_;rw[List.getElem?_map,List.getElem?_range az,<- q1];rfl,q2,q1,q6⟩
   have c0:=Xp.out k _ hr wr Hs.out;have Is:=zh PY;clear hr PY;have pJ:ab w0 wr:=ab.trans dM.out Hs.out;have pK:=zh pJ;go_wp2_with fail;refine(iv _ _ _ n r wr (H.out.keep pK.out.below) Hn.out sX).mono ?_;rintro e w2 ⟨uF,rfl,zp,bx⟩;obtain⟨AF,cF,rfl,-,-,-⟩:=id zp.ints;rw[jG Hn.out sX]at zp;obtain⟨bF,oF,rfl,PZ⟩:=nZ Hn.out sX zp.ints;rw[jG Hn.out sX];have cW:=zh (ab.after Hs.out bx);have qU:=zh (ab.after pK.out bx);have fG:=zh (Own.since Ho.out bx);have cd:=PZ k az w2 (aa _);have RY:=tz Hn.out sX az;obtain⟨d,hd⟩:∃z,z=ay n r k:=⟨_,rfl⟩
   rw[<- hd]at cd RY;have Hd:=zh hd;clear hd zp PZ bx c0 pJ;have wV:=qU.out
   have IT:0<=d:=by rw[Hd.out];exact(lF Hn.out sX az).2 Is.out.2
   have R4:=vD Hn.out Oz.out
   have R5:r<n.ids.length:=by rw[R4.1];exact sX
   obtain⟨bI,oI,cI,hAI,Ns⟩:=Cs H.out.2.1 R5;have R6:=R4.2 r sX;have ci:=Ns w2 qU.out;obtain⟨It,EX⟩:∃z,z=n.ids.getD r 0:=⟨_,rfl⟩
   rw[<- EX]at ci R6;cases hAI
   have hy:lG n k=It*100+d:=by unfold lG;rw[Is.out.1,Int.toNat_natCast,<- EX,<- Hd.out]
   obtain⟨y,zO⟩:∃z,z=It*100+d:=⟨_,rfl⟩
   rw[hy,<- zO]at kG;have Xr:=zh zO;clear hy zO EX Ns R4;go_wp2_with fail;refine(MV _ It d _ (LL (by simp) (by simp)) (by omega) (by omega) IT (by omega)).mono ?_;rintro e w4 ⟨rfl,vL⟩;have te:=zh (ab.after (ad _ cW.out) vL);have vN:=zh (Own.since (Own.since fG.out (ad _ (aa _))) vL);clear vL;rw[<- Xr.out]
   go_wp2_with (at_builtin;refine c_ rfl _ _ rfl rfl (vN.out.since (ad _ (aa _))) w4.heap.size y rfl (by simp[go_sem]) dz.out (ad _ te.out) ?_;intro g cc w3 ex jJ)
   have jy:=zh ex;have gZ:Hid (ab w1 w3):=jJ;clear ex jJ;go_wp2;go_roundw
   case rel=>exact⟨k+1,by omega,by first | rfl | go_num,by rw[kG.out];have:=jy.out;simpa using this,gZ.out⟩
   case measure=>simp[intOf];omega
  ·obtain rfl:k=n.ends.length:=by omega
   clear hk az;go_wp2;go_ret;exact⟨_,rfl,Ho.out.mono (Nat.le_trans aT.out.size dM.out.below.size),ab.trans aT.out (ab.trans dM.out Hs.out)⟩
theorem LN (ve vi vn:Value) (n:aj) (w:World) (h:aC w ve vi vn n) (hn:ak n=true) (hid:n.ids.length≠0):
  Calls Tryz.prog 104 #[.agg #[ve,vi,vn],.int .i64 5] w fun e w'=>∃u,e=.returned u/\Own w' w.heap.size u ((List.range n.ends.length).map (f_ n))/\Below w.heap.size w w':=by
 have gT:=aB hn;have jU:=gT.1;have mi:=gT.2;have Hn:=zh hn;have Oz:=zh hid;clear gT hn hid
 obtain⟨w0,A,c,A2,c2,A3,c3,rfl,rfl,rfl,fg,hm,f8,fP,HA,bS,aT,H,dP,d9,dV⟩:=zB h;clear h
 go_enter Tryz.func104,Tryz.ntmps104
 go_upto_region 1 with(fail);rw[<- bS.out];have aU:ab w0 w0:=aa _;go_wp2_with fail;refine(iC _ _ _ n w0 H.out Hn.out).mono ?_;rintro e w1 ⟨uR,rfl,EW,aN⟩;have dr:ab w0 w1:=aN;clear aN;obtain⟨AR,cR,rfl,-,-,-⟩:=id EW.ints;have C6:(bW n).length=n.ends.length:=by exact rP n
 rw[C6]at EW;obtain⟨bR,oR,rfl,PX⟩:=mo EW.ints C6 (by omega);have Xp:=zh PX;have dM:=zh dr;have Xq:=zh C6;clear EW PX C6 aU;rw[Xq.out];go_wp2
 go_loopw [11,46] (fun u i wr=>∃k:Nat,k<=n.ends.length/\i=.int .i64 k/\Own wr w1.heap.size u ((List.range k).map (f_ n))/\ab w1 wr) (fun _ i _=>n.ends.length-(intOf i).toNat)
 case atStart=>exact⟨0,Nat.zero_le _,rfl,by simpa using bU _ w1.heap.size,aa _⟩
 case round=>
  obtain⟨k,hk,rfl,ho,bG⟩:=hrel;have Ho:=zh ho;have Hs:=zh bG;clear ho bG dr
  by_cases az:k<n.ends.length
  ·have m3:IntKind.i64.wrap ((k:Int)+1)=(k:Int)+1:=aH _ (by omega) (by omega)
   have dz:Hid (((List.range k).map (f_ n)).length+1<=17592186044416):=by show _<=_;simp;omega
   have kG:=zh (vH (f:=f_ n) k)
   obtain⟨r,hr,sX,PY⟩:∃r:Nat,(bW n)[k]?=some (r:Int)/\r<n.ends.length/\r=am n k:=by
    exact⟨am n k,by unfold bW;rw[List.getElem?_map,List.getElem?_range az];rfl,dX Hn.out az,rfl⟩
   have c0:=Xp.out k _ hr wr Hs.out;have Is:=zh PY;clear hr PY;have pJ:ab w0 wr:=ab.trans dM.out Hs.out;have pK:=zh pJ;go_wp2_with fail;refine(iv _ _ _ n r wr (H.out.keep pK.out.below) Hn.out sX).mono ?_;rintro e w2 ⟨uF,rfl,zp,bx⟩;obtain⟨AF,cF,rfl,-,-,-⟩:=id zp.ints;rw[jG Hn.out sX]at zp;obtain⟨bF,oF,rfl,PZ⟩:=nZ Hn.out sX zp.ints;rw[jG Hn.out sX];have cW:=zh (ab.after Hs.out bx);have qU:=zh (ab.after pK.out bx);have fG:=zh (Own.since Ho.out bx);have cd:=PZ k az w2 (aa _);have RY:=tz Hn.out sX az;obtain⟨d,hd⟩:∃z,z=ay n r k:=⟨_,rfl⟩
   rw[<- hd]at cd RY;have Hd:=zh hd;clear hd zp PZ bx c0 pJ;have wV:=qU.out
   have hrt:dH n k=d:=by unfold dH;rw[<- Is.out,Hd.out]
   have IT:0<=d:=by rw[<- hrt];exact(O6 Hn.out).pos k az
   have R4:=vD Hn.out Oz.out
   have R5:r<n.ids.length:=by rw[R4.1];exact sX
   obtain⟨bI,oI,cI,hAI,Ns⟩:=Cs H.out.2.1 R5;have R6:=R4.2 r sX;have ci:=Ns w2 qU.out;have HcI:=zh Ns;obtain⟨It,EX⟩:∃z,z=n.ids.getD r 0:=⟨_,rfl⟩
   rw[<- EX]at ci R6;cases hAI;have OA:=zh EX;clear Ns R4 EX hrt;go_wp2_with fail;refine(EQ _ _ _ n r w2 (H.out.keep qU.out.below) Hn.out sX).mono ?_;rintro e w4 ⟨uP,rfl,P1,vL⟩;obtain⟨AP,cP,rfl,-,-,-⟩:=id P1.ints;have OB:(qL n r).length=n.ends.length:=by simp[qL]
   rw[OB]at P1;obtain⟨bP,oP,rfl,hcP⟩:=mo P1.ints OB (by omega);rw[OB];have cp:=hcP k _ (vA az) w4 (aa _);have HiP:=zh P1.ints;have te:=zh (ab.after cW.out vL);have oA:=zh (ab.after qU.out vL);have vN:=zh (Own.since fG.out vL);have ci4:=HcI.out w4 oA.out;rw[<- OA.out]at ci4;obtain⟨tw,Mu⟩:∃z,z=gV n r k:=⟨_,rfl⟩
   rw[<- Mu]at cp;have YZ:=zh Mu;clear P1 vL hcP ci cd Mu OB
   have Iu:li n k=tw:=by unfold li;rw[<- Is.out,YZ.out]
   have Ct:=nd Hn.out az;rw[Iu,<- Is.out]at Ct;obtain⟨cc,xG⟩:∃z,z=oq n.ends.length (ou n r) (lj n r) k:=⟨_,rfl⟩
   obtain⟨cm,yt⟩:∃z,z=cc%2:=⟨_,rfl⟩
   have pX:oq n.ends.length (dH n) (jQ n) k%2=cm:=by
    rw[yt,xG,<- Ka Hn.out az,<- Is.out]
   have YT:=zh pX;have Hcs:=zh xG.symm;have ace:cm<=1:=by omega
   have t1:(cc:Int).tmod 2=(cm:Int):=by rw[Int.tmod_eq_emod_of_nonneg (by omega)];omega
   have t2:(cc:Int)%2=(cm:Int):=by omega
   have t3:IntKind.i64.wrap (cm:Int)=(cm:Int):=aH _ (by omega) (by omega)
   have vh:∀W,ab w0 W->W.cell? ⟨bI,oI+r,none⟩=some (.int .i64 It):=fun W hW=>by rw[OA.out];exact HcI.out W hW
   have Xs:=zh vh;clear vh xG yt pX
   by_cases wj:k=r
   ·have mv:=Ct.2 wj
    have ep:(if li n k<0 then (9:Int) else li n k)=9:=if_pos (by rw[Iu];exact mv)
    have Hep:=zh ep;clear ep Iu Ct;have e0:((k:Int)=(r:Int))=True:=by simp[wj]
    have e0b:((k:Int)==(r:Int))=true:=by simp[wj]
    clear wj
    have hy:f_ n k=((It*100+d)*10+9)*2+(cm:Int):=by
     unfold f_;rw[<- Is.out,<- OA.out,YT.out,Hep.out]
     have h1:dH n k=d:=by unfold dH;rw[<- Is.out,Hd.out]
     rw[h1]
    obtain⟨y,zO⟩:∃z,z=((It*100+d)*10+9)*2+(cm:Int):=⟨_,rfl⟩
    rw[hy,<- zO]at kG;have Xr:=zh zO;clear hy zO;go_upto_region 21 with(fail);clear cp;refine eP (w0:=w4) 17 [false,false,false,false,false,false,false,false,false,false,false,false,true,true,true,true,true] (by kernel_rfl) (by kernel_rfl) (aa _) ?_;simp only[er,dS,zT]
    iterate 3 (apply bv rfl;(intro W hW;go_simp;with_reducible rfl);simp only[zA])
    apply bv rfl;(intro W hW;have k1:=d9 W (ab.trans oA.out hW);go_simp;with_reducible rfl);simp only[zA]
    iterate 2 (apply bv rfl;(intro W hW;go_simp;with_reducible rfl);simp only[zA])
    apply bv rfl;(intro W hW;have k1:=Xs.out W (ab.trans oA.out hW);go_simp;with_reducible rfl);simp only[zA]
    iterate 2 (apply bv rfl;(intro W hW;go_simp;with_reducible rfl);simp only[zA])
    apply bv rfl;(intro W hW;(have k0:=dP W (ab.trans oA.out hW);have k1:=d9 W (ab.trans oA.out hW);have k2:=dV W (ab.trans oA.out hW));go_simp;with_reducible rfl);simp only[zA]
    iterate 2 (apply bv rfl;(intro W hW;go_simp;with_reducible rfl);simp only[zA])
    intro W hW;refine Or.inl ⟨rfl,?_⟩
    go_simp
    (with_reducible refine(sB _ _ _ n r k cP _ W (H.out.keep (ab.after oA.out hW).below) Hn.out sX az (HiP.out.keep hW.below)).mono ?_)
    rintro e W' ⟨rfl,hb⟩;refine⟨_,rfl,hW.after hb,?_⟩
    replace hW:=hW.after hb
    rw[Hcs.out]
    (try simp only[zA])
    refine de (v:=?_) rfl ?_ hW ?_;rotate_left;(go_simp;with_reducible rfl)
    simp only[zA]
    refine iA (v:=?_) (ob:=?_) rfl ?_ hW ?_;rotate_left 2
    (go_simp;first | with_reducible rfl | (refine⟨?_,?_⟩ <;> with_reducible rfl))
    intro w5 kM nf
    replace hW:=nf
    clear nf
    have CR:Hid (aO w5 (.slice (some ⟨W'.heap.size,0,none⟩) 4 4) [It,d,9,(cm:Int)]):=by show aO _ _ _;rw[kM];exact ya (by simp) (by simp) (by simp) (by simp)
    clear kM hb
    (try simp only[zA])
    refine Or.inl ⟨rfl,?_⟩
    go_simp
    (with_reducible refine(Ft _ It d 9 (cm:Int) _ CR.out (by omega) (by omega) IT (by omega) (by omega) (by omega) (by omega) (by omega)).mono ?_)
    rintro e W' ⟨rfl,hb⟩;refine⟨_,rfl,hW.after hb,?_⟩
    replace hW:=hW.after hb
    rw[<- Xr.out]
    (try simp only[zA])
    refine iA (v:=?_) (ob:=?_) rfl ?_ hW ?_;rotate_left 2
    (go_simp;first | with_reducible rfl | (refine⟨?_,?_⟩ <;> with_reducible rfl))
    intro w7 vx Ci
    replace hW:=Ci
    clear Ci
    have Hc7:Hid (w7.cell? ⟨W'.heap.size,0,none⟩=some (.int .i64 y)):=by show _=_;rw[vx];simp
    have aa6:Hid (W'.heap.size<w7.heap.size):=by show _<_;rw[vx];simp
    clear vx hb
    (try simp only[zA])
    simp only[bh];have Gp:=zh (ab.trans te.out hW);have Gn:=zh (Own.since vN.out hW);clear hW wV ci4
    go_wp2_with (at_builtin;refine c_ rfl _ _ rfl rfl Gn.out W'.heap.size y rfl Hc7.out dz.out Gp.out ?_;intro g cc2 w3 ex jJ)
    have jy:=zh ex;have gZ:Hid (ab w1 w3):=jJ;clear ex jJ;go_wp2;go_roundw
    case rel=>exact⟨k+1,by omega,by first | rfl | go_num,by rw[kG.out];have:=jy.out;simpa using this,gZ.out⟩
    case measure=>simp[intOf];omega
   ·have zq:0<=tw:=Int.not_lt.1 (fun h9=>wj (Ct.1 h9))
    have acf:tw<6:=by
     have h9:=(iD Hn.out Oz.out az).2.2.2.2.2.2;rw[Iu]at h9;exact h9 zq
    have ep:(if li n k<0 then (9:Int) else li n k)=tw:=by rw[Iu];exact if_neg (Int.not_lt.2 zq)
    have Hep:=zh ep;clear ep Iu Ct
    have e0:((k:Int)=(r:Int))=False:=by simp;omega
    have e0b:((k:Int)==(r:Int))=false:=beq_eq_false_iff_ne.2 (by omega)
    have hy:f_ n k=((It*100+d)*10+tw)*2+(cm:Int):=by
     unfold f_;rw[<- Is.out,<- OA.out,YT.out,Hep.out]
     have h1:dH n k=d:=by unfold dH;rw[<- Is.out,Hd.out]
     rw[h1]
    obtain⟨y,zO⟩:∃z,z=((It*100+d)*10+tw)*2+(cm:Int):=⟨_,rfl⟩
    rw[hy,<- zO]at kG;have Xr:=zh zO;clear hy zO;go_upto_region 21 with(fail);clear cp;refine eP (w0:=w4) 17 [false,false,false,false,false,false,false,false,false,false,false,false,true,true,true,true,true] (by kernel_rfl) (by kernel_rfl) (aa _) ?_;simp only[er,dS,zT]
    iterate 3 (apply bv rfl;(intro W hW;go_simp;with_reducible rfl);simp only[zA])
    apply bv rfl;(intro W hW;have k1:=d9 W (ab.trans oA.out hW);go_simp;with_reducible rfl);simp only[zA]
    iterate 2 (apply bv rfl;(intro W hW;go_simp;with_reducible rfl);simp only[zA])
    apply bv rfl;(intro W hW;have k1:=Xs.out W (ab.trans oA.out hW);go_simp;with_reducible rfl);simp only[zA]
    iterate 2 (apply bv rfl;(intro W hW;go_simp;with_reducible rfl);simp only[zA])
    apply bv rfl;(intro W hW;(have k0:=dP W (ab.trans oA.out hW);have k1:=d9 W (ab.trans oA.out hW);have k2:=dV W (ab.trans oA.out hW));go_simp;with_reducible rfl);simp only[zA]
    iterate 2 (apply bv rfl;(intro W hW;go_simp;with_reducible rfl);simp only[zA])
    intro W hW;refine Or.inl ⟨rfl,?_⟩
    go_simp
    (with_reducible refine(sB _ _ _ n r k cP _ W (H.out.keep (ab.after oA.out hW).below) Hn.out sX az (HiP.out.keep hW.below)).mono ?_)
    rintro e W' ⟨rfl,hb⟩;refine⟨_,rfl,hW.after hb,?_⟩
    replace hW:=hW.after hb
    rw[Hcs.out]
    (try simp only[zA])
    refine de (v:=?_) rfl ?_ hW ?_;rotate_left;(go_simp;with_reducible rfl)
    simp only[zA]
    refine iA (v:=?_) (ob:=?_) rfl ?_ hW ?_;rotate_left 2
    (go_simp;first | with_reducible rfl | (refine⟨?_,?_⟩ <;> with_reducible rfl))
    intro w5 kM nf
    replace hW:=nf
    clear nf
    have CR:Hid (aO w5 (.slice (some ⟨W'.heap.size,0,none⟩) 4 4) [It,d,tw,(cm:Int)]):=by show aO _ _ _;rw[kM];exact ya (by simp) (by simp) (by simp) (by simp)
    clear kM hb
    (try simp only[zA])
    refine Or.inl ⟨rfl,?_⟩
    go_simp
    (with_reducible refine(Ft _ It d tw (cm:Int) _ CR.out (by omega) (by omega) IT (by omega) (by omega) (by omega) (by omega) (by omega)).mono ?_)
    rintro e W' ⟨rfl,hb⟩;refine⟨_,rfl,hW.after hb,?_⟩
    replace hW:=hW.after hb
    rw[<- Xr.out]
    (try simp only[zA])
    refine iA (v:=?_) (ob:=?_) rfl ?_ hW ?_;rotate_left 2
    (go_simp;first | with_reducible rfl | (refine⟨?_,?_⟩ <;> with_reducible rfl))
    intro w7 vx Ci
    replace hW:=Ci
    clear Ci
    have Hc7:Hid (w7.cell? ⟨W'.heap.size,0,none⟩=some (.int .i64 y)):=by show _=_;rw[vx];simp
    have aa6:Hid (W'.heap.size<w7.heap.size):=by show _<_;rw[vx];simp
    clear vx hb
    (try simp only[zA])
    simp only[bh];have Gp:=zh (ab.trans te.out hW);have Gn:=zh (Own.since vN.out hW);clear hW wV ci4
    go_wp2_with (at_builtin;refine c_ rfl _ _ rfl rfl Gn.out W'.heap.size y rfl Hc7.out dz.out Gp.out ?_;intro g cc2 w3 ex jJ)
    have jy:=zh ex;have gZ:Hid (ab w1 w3):=jJ;clear ex jJ;go_wp2;go_roundw
    case rel=>exact⟨k+1,by omega,by first | rfl | go_num,by rw[kG.out];have:=jy.out;simpa using this,gZ.out⟩
    case measure=>simp[intOf];omega
  ·obtain rfl:k=n.ends.length:=by omega
   clear hk az;go_wp2;go_ret;exact⟨_,rfl,Ho.out.mono (Nat.le_trans aT.out.size dM.out.below.size),ab.trans aT.out (ab.trans dM.out Hs.out)⟩
end Go.Proofs.YtgmdpppljkmabaaGreat
