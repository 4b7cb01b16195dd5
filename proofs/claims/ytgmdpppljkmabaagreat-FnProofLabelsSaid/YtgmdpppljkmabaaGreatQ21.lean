/- Parts of the proof: walks of functions and plain laws. -/
import Derived.Test.YtgmdpppljkmabaaGreatQ0
import Derived.Test.YtgmdpppljkmabaaGreatQ20
import Derived.Test.YtgmdpppljkmabaaGreatQ1
import Derived.Test.YtgmdpppljkmabaaGreatQ9
import Derived.Test.YtgmdpppljkmabaaGreatQ10
import Derived.Test.YtgmdpppljkmabaaGreatQ6
set_option maxRecDepth 100000
set_option maxHeartbeats 16000000
namespace Go.Proofs.YtgmdpppljkmabaaGreat
open Go Go.RowKit
theorem Jz {n:ak} (hn:al n=true) {keep:Nat->Nat->Bool} {a j:Nat} {f:Int×Int} (hp:bv n a j f) (hk:keep a j=true):((f.1.toNat:Nat):Int)∈eh (gW n keep) (a:Int):=by
 have h1:=(mI hn keep (v:=a) (m:=iD keep a j)).2 ⟨j,f,hp,hk,rfl,rfl⟩;have h2:=df hn hp;refine jv.2 ⟨_,_,h1,?_⟩;show f.1=_
 omega
theorem JA (n:ak) (keep:Nat->Nat->Bool):(gW n keep).ends.length=n.ends.length:=by simp[gW]
theorem G_ {n:ak} (hn:al n=true) {keep:Nat->Nat->Bool} {r:Nat} (hr:r<n.ends.length) (K:Int) (hk:∀(y j x:Nat) (f:Int×Int),bv n y j f->f.1.toNat=x->aw n r x<=K->aw n r y+1=aw n r x->keep y j=true):
  ∀(g x:Nat),f6 n r x->aw n r x<=K->(aw n r x).toNat<=g->f6 (gW n keep) r x
 | g,x,hx,hK,hg=>by
  have hd:=qc hn hr
  by_cases e:x=r
  ·subst e;exact f6.refl
  ·obtain⟨y,h1,h2,h3⟩:=hd.par x hx e;have h3:aw n r y+1=aw n r x:=h3;have h4:0<=aw n r y:=hd.pos y h1
   cases g with
   | zero=>omega
   | succ g=>
    have ih:=G_ hn hr K hk g y h1 (by omega) (by omega);obtain⟨j,f,hp,hf⟩:=jv.1 h2
    have:=Jz hn hp (hk y j x f hp (by omega) hK h3)
    rw[show f.1.toNat=x by omega]at this
    exact ih.step this
theorem yh {p:Int->Bool}:∀ {xs:List Int} {i:Nat} {x:Int},xs[i]?=some x->p x=true->(∀(j:Nat) (y:Int),xs[j]?=some y->p y=true->j=i)->xs.countP p=1
 | [],i,x,h,_,_=>by simp at h
 | a::xs,i,x,h,hp,hu=>by
  rw[List.countP_cons]
  cases i with
  | zero=>
   simp at h
   subst h;rw[hp]
   have:xs.countP p=0:=List.countP_eq_zero.2 fun y hy hpy=>by
    obtain⟨j,hj⟩:=List.getElem?_of_mem hy
    have:=hu (j+1) y (by simpa using hj) hpy
    omega
   simp[this]
  | succ i=>
   have ha:p a=false:=by
    rw[Bool.eq_false_iff];intro hpa
    have:=hu 0 a (by simp) hpa
    omega
   rw[ha]
   have:=yh (xs:=xs) (i:=i) (x:=x) (by simpa using h) hp fun j y hj hpy=>by
    have:=hu (j+1) y (by simpa using hj) hpy
    omega
   simp[this]
theorem yj {p q:Int->Bool}:∀ {xs:List Int},(∀x∈xs,q x = !p x)->xs.countP q+xs.countP p=xs.length
 | [],_=>rfl
 | a::xs,h=>by
  have ih:=yj (xs:=xs) fun x hx=>h x (List.mem_cons_of_mem _ hx)
  have ha:=h a (by simp);rw[List.countP_cons,List.countP_cons,List.length_cons,ha]
  cases p a <;> simp <;> omega
theorem Hj {n:ak} (hn:al n=true) (h:sA n=true):dQ n 3 ((List.range n.ends.length).map (dt n)):=by
 unfold sA at h;rw[Bool.and_eq_true,decide_eq_true_eq,rf hn]at h;obtain⟨-,hcut⟩:=h;intro v hv;have qT:=cM hn hv;obtain⟨r,hre⟩:∃r,ai n v=r:=⟨_,rfl⟩
 rw[hre]at qT;have hd:=qc hn qT
 have Ju:f6 n r v:=by rw[<- hre];exact(bu hn hv).1.symm hn hv
 have hD:∀w,w<n.ends.length->f6 n r w->((List.range n.ends.length).map (dt n)).getD w 0=aw n r w:=fun w hw ec=>by
  rw[nd hw];unfold dt
  rw[<- fk hn qT ec,show ai n r=r by rw[<- hre];exact nD hn hv]
 have aW:∀i,i<(n.ends.getD v []).length->aV n v i<n.ends.length/\f6 n r (aV n v i)/\f6 n v (aV n v i)/\((aV n v i:Nat):Int)∈eh n (v:Int):=fun i hi=>by
  have lM:=(getD_in (d:=(0,0)) hi).1;have dB:=ig hn lM;have hs:=lF lM dB.2.1
  exact⟨by unfold aV;omega,Ju.step hs,f6.refl.step hs,hs⟩
 have hA:∀i,i<(n.ends.getD v []).length->aw n r (aV n v i)≠aw n r v:=fun i hi he=>by
  obtain⟨f1,f2,f3,f4⟩:=aW i hi;have hp:bv n v i ((n.ends.getD v []).getD i (0,0)):=(getD_in hi).2;have SN:=df hn hp
  have ox:∀x,f6 n r x->f6 (gW n (et v i ((n.ends.getD v []).getD i (0,0)))) r x:=fun x hx=>
   G_ hn qT (aw n r x) (fun y j x' f CG hf _ yG=>by
    unfold et;rw[Bool.not_eq_true',Bool.or_eq_false_iff,Bool.and_eq_false_iff,Bool.and_eq_false_iff,beq_eq_false_iff_ne,beq_eq_false_iff_ne,beq_eq_false_iff_ne,beq_eq_false_iff_ne];constructor
    ·by_cases e1:y=v
     ·right
      intro e2;subst e1 e2;unfold bv at hp CG;rw[hp]at CG;have e3:=Option.some.inj CG
      have e4:aV n y j=x':=by unfold aV;rw[e3];exact hf
      rw[e4]at he;omega
     ·exact .inl e1
    ·by_cases e1:y=aV n v i
     ·right
      intro e2;have h5:=SN.2.2.2.2;rw[<- e2,show((n.ends.getD v []).getD i (0,0)).1.toNat=y from e1.symm]at h5
      unfold bv at h5 CG;rw[CG]at h5;have e3:=Option.some.inj h5
      have e4:x'=v:=by rw[<- hf,e3];simp
      rw[e4]at yG;rw[<- e1]at he;omega
     ·exact .inl e1) _ x hx (Int.le_refl _) (Nat.le_refl _)
  have O5:=re hn _ (j9 hn hp)
  exact hcut v i _ hp (((ox v Ju).symm O5 (by rw[JA];exact qT)).trans (ox _ f2))
 have hB:∀i j,i<(n.ends.getD v []).length->j<(n.ends.getD v []).length->aw n r (aV n v i)=aw n r v-1->aw n r (aV n v j)=aw n r v-1->i=j:=fun i j hi hj di dj=>by
  refine Decidable.byContradiction fun gM=>?_
  obtain⟨f1,f2,f3,f4⟩:=aW i hi;obtain⟨g1,g2,g3,g4⟩:=aW j hj;have hp:bv n v i ((n.ends.getD v []).getD i (0,0)):=(getD_in hi).2;have hq:bv n v j ((n.ends.getD v []).getD j (0,0)):=(getD_in hj).2;have SN:=df hn hp
  have ox:∀x,f6 n r x->aw n r x<=aw n r v-1->f6 (gW n (et v i ((n.ends.getD v []).getD i (0,0)))) r x:=fun x hx hxd=>
   G_ hn qT (aw n r v-1) (fun y j x' f CG hf hK yG=>by
    unfold et;rw[Bool.not_eq_true',Bool.or_eq_false_iff,Bool.and_eq_false_iff,Bool.and_eq_false_iff,beq_eq_false_iff_ne,beq_eq_false_iff_ne,beq_eq_false_iff_ne,beq_eq_false_iff_ne];constructor
    ·left
     rintro rfl;omega
    ·by_cases e1:y=aV n v i
     ·right
      intro e2;have h5:=SN.2.2.2.2;rw[<- e2,show((n.ends.getD v []).getD i (0,0)).1.toNat=y from e1.symm]at h5
      unfold bv at h5 CG;rw[CG]at h5;have e3:=Option.some.inj h5
      have e4:x'=v:=by rw[<- hf,e3];simp
      rw[e4]at hK;omega
     ·exact .inl e1) _ x hx hxd (Nat.le_refl _)
  have O5:=re hn _ (j9 hn hp)
  have hs:=Jz hn (keep:=et v i ((n.ends.getD v []).getD i (0,0))) hq (by
   unfold et;rw[Bool.not_eq_true',Bool.or_eq_false_iff,Bool.and_eq_false_iff,Bool.and_eq_false_iff,beq_eq_false_iff_ne,beq_eq_false_iff_ne,beq_eq_false_iff_ne,beq_eq_false_iff_ne];refine⟨.inr (Ne.symm gM),.inl fun e=>?_⟩
   have e:v=aV n v i:=e;rw[<- e]at di
   omega)
  have hs:f6 (gW n (et v i ((n.ends.getD v []).getD i (0,0)))) v (aV n v j):=f6.refl.step hs
  exact hcut v i _ hp (hs.trans (((ox _ g2 (by omega)).symm O5 (by rw[JA];exact qT)).trans (ox (aV n v i) f2 (by omega))))
 have hC:∀i,i<(n.ends.getD v []).length->aw n r (aV n v i)=aw n r v-1\/aw n r (aV n v i)=aw n r v+1:=fun i hi=>by
  obtain⟨f1,f2,f3,f4⟩:=aW i hi;have a1:aw n r (aV n v i)<=aw n r v+1:=hd.nb _ _ Ju f4;have a2:aw n r v<=aw n r (aV n v i)+1:=hd.nb _ _ f2 (vO hn hv f4);have a3:=hA i hi;omega
 have yg:∀i,i<(n.ends.getD v []).length->(bt ((List.range n.ends.length).map (dt n)) (n.ends.getD v []))[i]?=some (aw n r (aV n v i)):=fun i hi=>by
  obtain⟨f1,f2,-,-⟩:=aW i hi;rw[wj hi,hD _ f1 f2]
 unfold fR gX
 rw[if_neg (by decide),if_neg (by decide),if_pos rfl,hD v hv Ju];unfold xp
 by_cases e:aw n r v=0
 ·rw[if_pos e,beq_iff_eq,List.countP_eq_length];intro x hx;obtain⟨i,hi⟩:=List.getElem?_of_mem hx;have yE:=an hi;rw[sX]at yE;rw[yg i yE]at hi;have hi:=Option.some.inj hi;have h1:0<=aw n r (aV n v i):=hd.pos _ (aW i yE).2.1;rcases hC i yE with h2 | h2
  ·omega
  ·rw[beq_iff_eq];omega
 ·have gM:v≠r:=fun e2=>e (by rw[e2];exact hd.zero)
  obtain⟨-,w,w1,w2⟩:=O6 hn qT Ju gM;obtain⟨i,hi,hw⟩:=nQ.1 w1
  have ef:aV n v i=w:=by unfold aV;rw[hw];simp
  have c1:(bt ((List.range n.ends.length).map (dt n)) (n.ends.getD v [])).countP (fun x=>x==aw n r v-1)=1:=by
   refine yh (yg i hi) (by rw[ef,beq_iff_eq];exact w2) fun j y hj hy=>?_
   have yF:=an hj;rw[sX]at yF;rw[yg j yF]at hj;have hj:=Option.some.inj hj
   exact hB j i yF hi (by rw[hj];exact eq_of_beq hy) (by rw[ef];exact w2)
  have c2:=yj (p:=fun x=>x==aw n r v-1) (q:=fun x=>x==aw n r v+1) (xs:=bt ((List.range n.ends.length).map (dt n)) (n.ends.getD v [])) fun x hx=>by
   obtain⟨j,hj⟩:=List.getElem?_of_mem hx;have yF:=an hj;rw[sX]at yF;rw[yg j yF]at hj;have hj:=Option.some.inj hj;rw[<- hj];rcases hC j yF with h2 | h2
   ·rw[h2]
    have:(aw n r v-1==aw n r v+1)=false:=by rw[beq_eq_false_iff_ne];omega
    simp[this]
   ·rw[h2]
    have:(aw n r v+1==aw n r v-1)=false:=by rw[beq_eq_false_iff_ne];omega
    simp[this]
  rw[if_neg e,Bool.and_eq_true,beq_iff_eq,beq_iff_eq];exact⟨c1,by omega⟩
structure Kids (n:ak) (dep:Nat->Int) (par:Nat->Option Nat) (Cc:Nat->Nat->Bool):Prop where
 aeL:∀v i,i<(n.ends.getD v []).length->Cc v i=true->par (aV n v i)=some v/\dep (aV n v i)=dep v+1/\aV n v i<n.ends.length
 of_:∀v c,c<n.ends.length->par c=some v->∃i,i<(n.ends.getD v []).length/\Cc v i=true/\aV n v i=c
 one:∀v i j,i<(n.ends.getD v []).length->j<(n.ends.getD v []).length->Cc v i=true->Cc v j=true->aV n v i=aV n v j->i=j
def fA (n:ak) (dep:Nat->Int) (par:Nat->Option Nat) (Cc:Nat->Nat->Bool) (v j w:Nat):Bool:=(List.range j).any fun i=>Cc v i&&oL dep par w (aV n v i)
theorem Kids.step {n:ak} {dep:Nat->Int} {par:Nat->Option Nat} {Cc:Nat->Nat->Bool} (hT:Tr n.ends.length dep par) (h:Kids n dep par Cc) {v j:Nat} (hj:j<(n.ends.getD v []).length):
  (List.range n.ends.length).countP (fA n dep par Cc v (j+1))=(List.range n.ends.length).countP (fA n dep par Cc v j)+(if Cc v j=true then jK n.ends.length dep par (aV n v j) else 0):=by
 have gJ:∀w,fA n dep par Cc v (j+1) w=(fA n dep par Cc v j w||(Cc v j&&oL dep par w (aV n v j))):=fun w=>by
  unfold fA;rw[List.range_succ,List.any_append];simp
 by_cases hk:Cc v j=true
 ·rw[if_pos hk];unfold jK;refine kX (fun w _=>by rw[gJ,hk,Bool.true_and]) fun w hw hb=>?_
  have rC:=List.mem_range.1 hw;rw[Bool.eq_false_iff];intro ha;unfold fA at hb;rw[List.any_eq_true]at hb;obtain⟨i,hi,hb⟩:=hb;have hi:=List.mem_range.1 hi;rw[Bool.and_eq_true]at hb;have q1:=(h.aeL v i (by omega) hb.1).2.1;have q2:=(h.aeL v j hj hk).2.1
  have:=v_ hT _ w _ _ rC (Nat.le_refl _) hb.2 ha (by omega)
  have:=h.one v i j (by omega) hj hb.1 hk this
  omega
 ·rw[if_neg hk,Nat.add_zero]
  exact List.countP_congr fun w _=>by rw[gJ,Bool.eq_false_iff.2 hk];simp
theorem Kids.sub {n:ak} {dep:Nat->Int} {par:Nat->Option Nat} {Cc:Nat->Nat->Bool} (hT:Tr n.ends.length dep par) (h:Kids n dep par Cc) {v:Nat} (hv:v<n.ends.length):jK n.ends.length dep par v=1+(List.range n.ends.length).countP (fA n dep par Cc v (n.ends.getD v []).length):=by
 unfold jK
 have h1:(List.range n.ends.length).countP (fun w=>w==v)=1:=by
  have h2:(List.range n.ends.length).count v=1:=by rw[List.Nodup.count List.nodup_range,if_pos (List.mem_range.2 hv)]
  rw[<- h2];rfl
 have h2:=kX (p:=fun w=>w==v) (q:=fA n dep par Cc v (n.ends.getD v []).length) (r:=fun w=>oL dep par w v) (l:=List.range n.ends.length) (fun w hw=>?_) (fun w hw hb=>?_)
 ·rw[h2,h1]
 ·have rC:=List.mem_range.1 hw;rw[Bool.eq_iff_iff,Bool.or_eq_true,beq_iff_eq];constructor
  ·intro ha
   by_cases e:w=v
   ·exact .inl e
   ·obtain⟨c,hc,c1,c2⟩:=p_ hT _ w v rC (Nat.le_refl _) ha e;obtain⟨i,i1,i2,i3⟩:=h.of_ v c hc c1
    right
    unfold fA;rw[List.any_eq_true]
    exact⟨i,List.mem_range.2 i1,by rw[i2,i3,c2];rfl⟩
  ·rintro(rfl | hb)
   ·exact jD hT rC
   ·unfold fA at hb;rw[List.any_eq_true]at hb;obtain⟨i,hi,hb⟩:=hb;rw[Bool.and_eq_true]at hb;exact B9 hT _ w _ v rC (Nat.le_refl _) hb.2 (h.aeL v i (List.mem_range.1 hi) hb.1).1
 ·have e:=eq_of_beq hb;subst e;rw[Bool.eq_false_iff];intro hb;unfold fA at hb;rw[List.any_eq_true]at hb;obtain⟨i,hi,hb⟩:=hb;rw[Bool.and_eq_true]at hb;have h3:=(h.aeL _ i (List.mem_range.1 hi) hb.1).2.1;have h4:=(p9 hT _ w _ hv (Nat.le_refl _) hb.2).2;rcases h4 with h4 | h4
  ·rw[h4]at h3;omega
  ·omega
def Cd (n:ak) (v i:Nat):Bool:=decide (((n.ends.getD v []).getD i (0,0)).2=jl n (aV n v i))&&decide (dt n (aV n v i)=dt n v+1)
theorem RT {n:ak} (hn:al n=true) {c v:Nat} (hc:c<n.ends.length) (hp:jb n c=some v):∃q:Nat,jl n c=(q:Int)/\q<(n.ends.getD c []).length/\aV n c q=v/\dt n v+1=dt n c:=by
 have hT:=(Md hn).some_ c v hc hp;unfold jb at hp
 by_cases h:0<=jl n c
 ·rw[if_pos h]at hp;have hp:=Option.some.inj hp;obtain⟨-,-,-,-,-,h6⟩:=fi hn (cM hn hc) (r:=ai n c) (v:=c) h;refine⟨(jl n c).toNat,by omega,h6,?_,hT.2⟩
  unfold eB at hp;exact hp
 ·rw[if_neg h]at hp;cases hp
theorem RU {n:ak} (hn:al n=true):Kids n (dt n) (jb n) (Cd n):=by
 refine⟨fun v i hi hk=>?_,fun v c hc hp=>?_,fun v i j hi hj ki kj he=>?_⟩
 ·unfold Cd at hk;rw[Bool.and_eq_true,decide_eq_true_eq,decide_eq_true_eq]at hk;obtain⟨h1,h2,h3,j,h4,h5,h6⟩:=iP hn hi;refine⟨?_,hk.2,h1⟩;unfold jb;rw[<- hk.1,h4,if_pos (by omega)];unfold eB;rw[Int.toNat_natCast,h6];simp
 ·obtain⟨q,h1,h2,h3,h4⟩:=RT hn hc hp;obtain⟨g1,g2,g3,j,g4,g5,g6⟩:=iP hn h2;rw[h3]at g5 g6
  have ef:aV n v j=c:=by unfold aV;rw[g6];simp
  refine⟨j,g5,?_,ef⟩;unfold Cd;rw[ef,g6,Bool.and_eq_true,decide_eq_true_eq,decide_eq_true_eq];exact⟨h1.symm,by omega⟩
 ·obtain⟨-,-,-,a,a4,a5,a6⟩:=iP hn hi;obtain⟨-,-,-,b,b4,b5,b6⟩:=iP hn hj;unfold Cd at ki kj;rw[Bool.and_eq_true,decide_eq_true_eq,decide_eq_true_eq]at ki kj;rw[a4]at ki;rw[b4,<- he]at kj;have te:a=b:=by omega
  subst te;rw[<- he,a6]at b6
  have:=congrArg Prod.snd b6
  simp only at this
  omega
theorem ii {n:ak} (hn:al n=true) (h0:n.ids.length≠0) {v:Nat} (hv:v<n.ends.length):
  vT (fF n v)=n.ids.getD (ai n v) 0/\kS (fF n v)=dt n v/\tD (fF n v)=(if jl n v<0 then 9 else jl n v)/\vt (fF n v)=((jK n.ends.length (dt n) (jb n) v%2:Nat):Int)/\0<=fF n v/\fF n v<=2000000000/\(0<=jl n v->jl n v<6):=by
 have hl:=cM hn hv;have hN:=aE hn;have h1:=(pL hn h0).2 _ hl;have h2:0<=dt n v:=(Md hn).pos v hv;have h3:dt n v<n.ends.length:=(pM hn hl hv).2
 have h4:0<=jl n v->jl n v<6:=fun h=>by
  obtain⟨a,-,-,-,-,b⟩:=fi hn hl (r:=ai n v) (v:=v) h
  have h5:n.ends[v]?=some (n.ends.getD v []):=by rw[zDd,List.getElem?_eq_getElem hv];rfl
  have h6:=(bX hn h5).1;have h7:(jl n v).toNat<(n.ends.getD v []).length:=b;omega
 obtain⟨q,hq⟩:∃q,(if jl n v<0 then 9 else jl n v)=q:=⟨_,rfl⟩
 have hqb:0<=q/\q<=9:=by
  rw[<- hq]
  split
  ·omega
  ·have:=h4 (by omega);omega
 obtain⟨b,hb⟩:∃b:Int,((jK n.ends.length (dt n) (jb n) v%2:Nat):Int)=b:=⟨_,rfl⟩
 have td:0<=b/\b<=1:=by omega
 unfold fF vT kS tD vt
 rw[hq,hb];refine⟨by omega,by omega,by omega,by omega,by omega,by omega,h4⟩
theorem O8 {n:ak} (hn:al n=true) {r:Nat} (hr:r<n.ends.length) (h:ai n r=r):jK n.ends.length (dt n) (jb n) r=jz n r:=by
 have hT:=Md hn
 have rJ:∀(f w:Nat),w<n.ends.length->(dt n w).toNat<=f->ai n w=r->oL (dt n) (jb n) w r=true:=by
  intro f
  induction f with
  | zero=>
   intro w hw hf he;have h1:=hT.pos w hw
   by_cases e:w=r
   ·rw[e];exact jD hT hr
   ·have h2:=pH hn hw;have h3:¬jl n w<0:=fun h=>e (by rw[h2.1 h,he])
    obtain⟨-,-,h4,-⟩:=fi hn (cM hn hw) (r:=ai n w) (v:=w) (by unfold jl at h3;omega)
    have:dt n w=aw n (ai n w) w:=rfl
    omega
  | succ f ih=>
   intro w hw hf he;have h1:=hT.pos w hw
   by_cases e:w=r
   ·rw[e];exact jD hT hr
   ·have h2:=pH hn hw;have h3:¬jl n w<0:=fun h=>e (by rw[h2.1 h,he])
    have hp:jb n w=some (eB n w (jl n w)):=if_pos (by omega);obtain⟨p1,p2⟩:=hT.some_ w _ hw hp
    obtain⟨-,-,-,-,h5,-⟩:=fi hn (cM hn hw) (r:=ai n w) (v:=w) (by unfold jl at h3;omega)
    have h5:f6 n w (eB n w (jl n w)):=h5;rw[ie hT hw,hp,Bool.or_eq_true]
    exact .inr (ih _ p1 (by omega) (by rw[<- fk hn hw h5];exact he))
 unfold jK jz jU
 rw[<- List.countP_eq_length_filter];refine List.countP_congr fun w hw=>?_
 have rC:=List.mem_range.1 hw;rw[decide_eq_true_eq];constructor
 ·intro ha;rw[tR hn _ w r rC (Nat.le_refl _) ha,h]
 ·intro he;exact rJ _ w rC (Nat.le_refl _) he
theorem O9 {n:ak} (hn:al n=true) (h0:n.ids.length≠0) (h:iT n=true):dQ n 5 ((List.range n.ends.length).map (fF n)):=by
 intro v hv;have hT:=Md hn;have hK:=RU hn;obtain⟨p0,p1,p2,p3,p4,p5,p6⟩:=ii hn h0 hv
 have aW:∀i,i<(n.ends.getD v []).length->aV n v i<n.ends.length/\nm ((List.range n.ends.length).map (fF n)) ((n.ends.getD v []).getD i (0,0))=fF n (aV n v i)/\ai n (aV n v i)=ai n v:=fun i hi=>by
  have lM:=(getD_in (d:=(0,0)) hi).1;have dB:=ig hn lM;have hs:=lF lM dB.2.1
  have hl:aV n v i<n.ends.length:=by unfold aV;omega
  exact⟨hl,nd hl,(fk hn hv (f6.refl.step hs)).symm⟩
 unfold fR gX
 rw[if_neg (by decide),if_neg (by decide),if_neg (by decide),if_neg (by decide),Bool.and_eq_true,decide_eq_true_eq,nd hv];refine⟨h0,?_⟩
 have acC:∀j,j<=(n.ends.getD v []).length->jg ((List.range n.ends.length).map (fF n)) (fF n v) (n.ends.getD v []) j%2=(1+(((List.range n.ends.length).countP (fA n (dt n) (jb n) (Cd n) v j):Nat):Int))%2:=by
  intro j
  induction j with
  | zero=>
   intro _
   have:(List.range n.ends.length).countP (fA n (dt n) (jb n) (Cd n) v 0)=0:=List.countP_eq_zero.2 fun w _=>by simp[fA]
   rw[this];simp[jg]
  | succ j ih=>
   intro hj;have ih:=ih (by omega);have yF:j<(n.ends.getD v []).length:=by omega
   obtain⟨f1,f2,f3⟩:=aW j yF;obtain⟨q0,q1,q2,q3,q4,q5,q6⟩:=ii hn h0 f1
   have hk:mK (fF n v) ((n.ends.getD v []).getD j (0,0)) (nm ((List.range n.ends.length).map (fF n)) ((n.ends.getD v []).getD j (0,0)))=Cd n v j:=by
    rw[f2,Bool.eq_iff_iff]
    unfold mK Cd
    rw[Bool.and_eq_true,Bool.and_eq_true,beq_iff_eq,beq_iff_eq,decide_eq_true_eq,decide_eq_true_eq,p1,q1,q2];obtain⟨g1,g2,g3,q,g4,g5,g6⟩:=iP hn yF
    have h5:n.ends[aV n v j]?=some (n.ends.getD (aV n v j) []):=by rw[zDd,List.getElem?_eq_getElem f1];rfl
    have h6:=(bX hn h5).1;constructor
    ·rintro⟨a,b⟩;refine⟨?_,b⟩
     split at a
     ·rw[g4]at a;omega
     ·exact a
    ·rintro⟨a,b⟩;refine⟨?_,b⟩
     rw[if_neg (by rw[<- a,g4];omega)]
     exact a
   unfold jg;rw[hk,hK.step hT yF,f2]
   by_cases FZ:Cd n v j=true
   ·rw[if_pos FZ,if_pos FZ,q3];omega
   ·rw[if_neg FZ,if_neg FZ];simpa using ih
 unfold kJ qJ qI
 rw[Bool.and_eq_true,Bool.and_eq_true,List.all_eq_true,Bool.or_eq_true,beq_iff_eq,p0,p1,p2,p3];refine⟨⟨fun i hi=>?_,?_⟩,?_⟩
 ·obtain⟨f1,f2,f3⟩:=aW i (List.mem_range.1 hi);rw[f2,(ii hn h0 f1).1,f3];simp
 ·rw[acC _ (Nat.le_refl _),hK.sub hT hv];omega
 ·by_cases e:v=ai n v
  ·left
   have hr:ai n v<n.ends.length:=cM hn hv;have Je:jl n v<0:=(pH hn hv).2 e
   have hz:dt n v=0:=by
    unfold dt
    have:=yf hn hr
    rw[<- e]at this ⊢;exact this
   have Mf:=List.all_eq_true.1 h v (List.mem_range.2 hv);unfold mp at Mf;rw[Bool.not_eq_true',beq_eq_false_iff_ne,<- e]at Mf;rw[hz,if_pos Je,O8 hn hv e.symm,<- e]
   have:jz n v%2=0:=by omega
   rw[this];simp
  ·right
   have Je:¬jl n v<0:=fun hc=>e ((pH hn hv).1 hc)
   obtain⟨s1,s2,s3,s4,s5,s6⟩:=fi hn (cM hn hv) (r:=ai n v) (v:=v) (by unfold jl at Je;omega)
   have s7:dt n v=aw n (ai n v) v:=rfl;rw[Bool.and_eq_true,decide_eq_true_eq,List.any_eq_true];refine⟨by omega,(jl n v).toNat,List.mem_range.2 s6,?_⟩;have s6:(jl n v).toNat<(n.ends.getD v []).length:=s6;obtain⟨f1,f2,f3⟩:=aW _ s6;rw[if_neg Je,f2,(ii hn h0 f1).2.1,Bool.and_eq_true,beq_iff_eq,beq_iff_eq];refine⟨by omega,?_⟩;have e2:aV n v (jl n v).toNat=eB n v (fX n (ai n v) v):=rfl
   have e3:dt n (aV n v (jl n v).toNat)=aw n (ai n v) (aV n v (jl n v).toNat):=by unfold dt;rw[f3]
   rw[e3,e2,s4,s7]
theorem RX {n:ak} {s:Int} {ls:List Int} (hl:dY n s ls=true) (h:dQ n s ls) (hk:lq n s=true):e_ n s=true:=by
 obtain⟨hn,hs,-,-⟩:=iv.1 hl;unfold e_
 by_cases e1:s=1
 ·subst e1;rw[if_pos rfl];exact RQ hl h
 ·rw[if_neg e1]
  by_cases e2:s=2
  ·subst e2;rw[if_pos rfl];have h1:=Ew hn (aE hn).1 (Le hl h);unfold lq at hk;rw[if_pos rfl]at hk
   cases hR:fE n with
   | none=>rw[hR]at hk;cases hk
   | some R=>
    cases R with
    | none=>exact absurd hR h1
    | some l=>rfl
  ·rw[if_neg e2]
   by_cases e3:s=3
   ·subst e3;rw[if_pos rfl];exact G9 hl h
   ·rw[if_neg e3]
    by_cases e4:s=4
    ·subst e4;obtain⟨a,b⟩:=O1 hl h
     rw[if_neg a,if_pos rfl];exact b
    ·obtain rfl:s=5:=by omega
     obtain⟨a,b⟩:=O3 hl h
     rw[if_neg a,if_neg e4];exact b
structure acD (n:ak) (s:Int):Prop where
 len:(oh n s).length=n.ends.length
 acc:dQ n s (oh n s)
 rng:∀x∈oh n s,0<=x/\x<=2000000000/\(s=1->x<=1)/\(s=2->x<=2)
theorem j4 {N:Nat} {f:Nat->Int} {P:Int->Prop} (h:∀v,v<N->P (f v)):∀x∈(List.range N).map f,P x:=fun x hx=>by
 obtain⟨v,hv,rfl⟩:=List.mem_map.1 hx;exact h v (List.mem_range.1 hv)
theorem TR {n:ak} {s:Int} (hn:al n=true) (hs:1<=s/\s<=5) (h:e_ n s=true):acD n s:=by
 have hN:=aE hn;unfold e_ at h
 by_cases e1:s=1
 ·subst e1;rw[if_pos rfl]at h
  have e:oh n 1=ml n:=by unfold oh;rw[if_pos rfl,if_pos h]
  refine⟨by rw[e];exact Nc n,by rw[e];exact RS hn h,?_⟩
  rw[e];unfold ml
  exact j4 fun v _=>by unfold f_;omega
 ·rw[if_neg e1]at h
  by_cases e2:s=2
  ·subst e2;rw[if_pos rfl]at h
   cases hR:fE n with
   | none=>rw[hR]at h;cases h
   | some R=>
    cases R with
    | none=>rw[hR]at h;cases h
    | some l=>
     have e:oh n 2=l:=by unfold oh;rw[if_neg e1,if_pos rfl,hR]
     obtain⟨a,b⟩:=G7 hn hR
     refine⟨by rw[e];exact b,by rw[e];exact Li a,?_⟩
     rw[e];intro x hx;obtain⟨k,hk⟩:=List.getElem?_of_mem hx;have mh:=an hk
     have:=(a k (by omega)).1
     rw[au hk]at this;omega
  ·rw[if_neg e2]at h
   by_cases e3:s=3
   ·subst e3;rw[if_pos rfl]at h
    have e:oh n 3=(List.range n.ends.length).map (dt n):=by unfold oh;rw[if_neg e1,if_neg e2,if_pos rfl]
    refine⟨by rw[e];simp,by rw[e];exact Hj hn h,?_⟩
    rw[e]
    exact j4 fun v hv=>by
     have h1:=(Md hn).pos v hv;have h2:dt n v<n.ends.length:=(pM hn (cM hn hv) hv).2;omega
   ·rw[if_neg e3]at h
    by_cases e0:n.ids.length=0
    ·rw[if_pos e0]at h;cases h
    ·rw[if_neg e0]at h
     by_cases e4:s=4
     ·subst e4;rw[if_pos rfl]at h
      have e:oh n 4=(List.range n.ends.length).map (ko n):=by unfold oh;rw[if_neg e1,if_neg e2,if_neg e3,if_pos rfl]
      refine⟨by rw[e];simp,by rw[e];exact O7 hn e0 h,?_⟩
      rw[e]
      exact j4 fun v hv=>by
       obtain⟨r,hr,qT,-,-,-,Ju⟩:=ne hn h hv;have h1:=(pL hn e0).2 r qT;have h2:=(na hn qT hv).2 Ju;have h3:=(pM hn qT hv).2;unfold ko;rw[hr,Int.toNat_natCast];omega
     ·obtain rfl:s=5:=by omega
      rw[if_neg e4]at h
      have e:oh n 5=(List.range n.ends.length).map (fF n):=by unfold oh;rw[if_neg e1,if_neg e2,if_neg e3,if_neg e4]
      refine⟨by rw[e];simp,by rw[e];exact O9 hn e0 h,?_⟩
      rw[e]
      exact j4 fun v hv=>by
       have:=ii hn e0 hv
       omega
def nf (l:List Int) (c:Int) (xs:List Int):Nat:=(xs.filter fun w=>l.getD w.toNat 0==c).length
theorem HH {l:List Int} {c:Int} {xs:List Int} {k:Nat} {y:Int} (h:xs[k]?=some y):nf l c (xs.take (k+1))=nf l c (xs.take k)+(if l.getD y.toNat 0==c then 1 else 0):=by
 unfold nf;rw[bh h,List.filter_append,List.length_append];congr 1
 cases hh:(l.getD y.toNat 0==c) <;> simp only[List.filter_cons,List.filter_nil,hh] <;> rfl
theorem EA (l:List Int) (c:Int) (xs:List Int):nf l c xs<=xs.length:=List.length_filter_le _ _
theorem HK (l:List Int) (c:Int) (es:List (Int×Int)):(nf l c (es.map (·.1))=0)↔iB (bt l es) c=false:=by
 unfold nf iB bt
 rw[List.length_eq_zero_iff,List.filter_eq_nil_iff];rw[Bool.eq_false_iff,ne_eq,List.contains_iff_mem];constructor
 ·intro h hm;obtain⟨e,he,h2⟩:=List.mem_map.1 hm
  exact h e.1 (List.mem_map_of_mem he) (by rw[h2];exact beq_self_eq_true c)
 ·intro h x hx h2;obtain⟨e,he,rfl⟩:=List.mem_map.1 hx;exact h (List.mem_map.2 ⟨e,he,by simpa using h2⟩)
theorem HZ (ve vi vn vl:Value) (n:ak) (l:List Int) (k:Nat) (Mg:Int) (es:List (Int×Int)) (w:World) (h:aQ w ve vi vn n) (hl:aY w vl l) (bW:n.ends[k]?=some es) (rK:es.length<=1000) (eU:∀e∈es,0<=e.1/\e.1<l.length):
  Calls Tryz.prog 209 #[.agg #[ve,vi,vn],vl,.int .i64 k,.int .i64 Mg] w fun e w'=>e=.returned (.int .i64 (nf l Mg (es.map (·.1))))/\Below w.heap.size w w':=by
 obtain⟨w0,A,c,A2,c2,A3,c3,rfl,rfl,rfl,eV,hm,fJ,fB,HA,bK,aT,H,dL,dR,dU⟩:=zB h;clear h
 have HL:=zh (hl.keep aT.out);obtain⟨AL,cL,rfl,yX,nz,_⟩:=hl;unfold maxLen at nz;have rL:=zh eU;have kw:=zh bW;clear eU bW;have bB:aa w0 w0:=ad _;obtain⟨xs,hxs⟩:∃xs,xs=es.map (·.1):=⟨_,rfl⟩
 have vh:xs.length=es.length:=by rw[hxs,List.length_map]
 rw[<- hxs];have Hxs:=zh hxs
 go_enter Tryz.func209,Tryz.ntmps209
 go_upto_region 1 with(fail);rw[<- bK.out];go_wp2_with fail;refine(iZ _ _ _ n k es w0 H.out kw.out (by omega)).mono ?_;rw[<- hxs];rintro e w1 ⟨u,rfl,ho,ay⟩;obtain⟨AX,cX,rfl,hXl,hXm,_⟩:=id ho.ints;have HX:=zh ho.ints;unfold maxLen at hXm;have cY:aa w0 w1:=bB.trans ay;have dC:=zh cY;have hz:aa w1 w1:=ad _;clear ho ay bB hxs cY;go_wp2
 go_loopw [9,16] (fun uc ui wr=>∃j:Nat,j<=xs.length/\ui=.int .i64 j/\uc=.int .i64 (nf l Mg (xs.take j):Nat)/\aa w1 wr) (fun _ ui _=>xs.length-(intOf ui).toNat)
 case atStart=>exact⟨0,Nat.zero_le _,rfl,rfl,hz⟩
 case round=>
  obtain⟨j,hj,rfl,rfl,bA⟩:=hrel
  by_cases hlt:j<xs.length
  ·obtain⟨y,hy⟩:=aM xs j hlt
   have hym:0<=y/\y<l.length:=by
    have hm:=List.mem_of_getElem? hy;rw[Hxs.out]at hm;obtain⟨e,he,rfl⟩:=List.mem_map.1 hm;exact rL.out e he
   obtain⟨q,rfl⟩:=Int.eq_ofNat_of_zero_le hym.1;have hq:q<l.length:=by omega
   obtain⟨z,hzz⟩:=aM l q hq
   obtain⟨b1,oZ,g_,dS⟩:=(by
    obtain⟨A',c',e',_,_,hA⟩:=HX.out;cases e'
    exact hA j _ hy:∃b off,AX=some ⟨b,off,none⟩/\w1.cell? ⟨b,off+j,none⟩=some (.int .i64 (q:Int)))
   obtain⟨b2,XF,hA2,ks⟩:=(by
    obtain⟨A',c',e',_,_,hA⟩:=HL.out;cases e'
    exact hA q _ hzz:∃b off,AL=some ⟨b,off,none⟩/\w0.cell? ⟨b,off+q,none⟩=some (.int .i64 z))
   subst g_ hA2;have q1:=bA.cell dS;have q2:=(dC.out.after bA).cell ks;have Z2:=zh (HH (l:=l) (c:=Mg) hy)
   have acE:nf l Mg (xs.take j)<=1000:=by have:=EA l Mg (xs.take j);rw[List.length_take]at this;omega
   obtain⟨ct,NU⟩:∃ct,ct=nf l Mg (xs.take j):=⟨_,rfl⟩
   rw[<- NU]at acE Z2 ⊢
   have Hz:Hid (l.getD (q:Int).toNat 0=z):=by show _=_;rw[Int.toNat_natCast,au hzz]
   have mw:IntKind.i64.wrap ((ct:Int)+1)=(ct:Int)+1:=aF _ (by omega) (by omega);have HS:=zh bA;clear hy hym hzz dS ks NU hz bA;cases hb:(z==Mg)
   ·have hn:Hid (nf l Mg (xs.take (j+1))=ct):=by show _=_;rw[Z2.out,Hz.out,hb];simp
    have bj:(z=Mg)=False:=by simpa using hb
    go_wp2;go_roundw
    case rel=>exact⟨j+1,by omega,by go_num,by rw[hn.out],HS.out⟩
    case measure=>simp[intOf];omega
   ·have hn:Hid (nf l Mg (xs.take (j+1))=ct+1):=by show _=_;rw[Z2.out,Hz.out,hb];simp
    have bj:(z=Mg)=True:=by simpa using hb
    go_wp2;go_roundw
    case rel=>exact⟨j+1,by omega,by go_num,by rw[hn.out];go_num,HS.out⟩
    case measure=>simp[intOf];omega
  ·obtain rfl:j=xs.length:=by omega
   have HS:=zh bA;clear bA hz;go_wp2;go_ret
   exact⟨by rw[List.take_length];rfl,aa.after aT.out (dC.out.after HS.out)⟩
theorem uX (ve vi vn:Value) (n:ak) (w:World) (h:aQ w ve vi vn n) (hn:al n=true):
  Calls Tryz.prog 163 #[.agg #[ve,vi,vn]] w fun e w'=>∃U,e=.returned (.tuple #[U,.bool (I2 (fE n)),.bool (fE n).isSome])/\(∀l,fE n=some (some l)->Own w' w.heap.size U l)/\Below w.heap.size w w':=by
 have lN:=aE hn;have kz:=lN.1;have np:=lN.2;clear lN;have yZ:Hid (∀(k:Nat) (es:List (Int×Int)),n.ends[k]?=some es->es.length<=6/\∀e∈es,0<=e.1/\e.1<n.ends.length):=fun (k:Nat) (es:List (Int×Int)) he=>bX hn he
 clear hn;obtain⟨R,hR⟩:∃R,R=fE n:=⟨_,rfl⟩
 rw[<- hR];have HR:=zh hR;clear hR
 obtain⟨w0,A,c,A2,c2,A3,c3,rfl,rfl,rfl,eV,hm,fJ,fB,HA,bK,aT,H,dL,dR,dU⟩:=zB h;clear h
 obtain⟨cA,Ya⟩:∃x,x=c:=⟨_,rfl⟩
 subst Ya;have bB:aa w0 w0:=ad _
 go_enter Tryz.func163,Tryz.ntmps163
 go_upto_region 1 with(fail);rw[<- bK.out]
 go_wp2_with (at_make;refine jp _ rfl _ _ rfl _ _ n.ends.length rfl rfl rfl rfl (by omega) ?_;intro w1 dT ay dV)
 obtain⟨g,hg⟩:∃g,g=w0.heap.size:=⟨_,rfl⟩
 rw[<- hg]at dT dV ⊢;have Hg:=zh hg;clear hg dV;go_wp2
 go_loopw [15] (fun i wr=>∃k:Nat,k<=n.ends.length/\i=.int .i64 k/\Own wr w0.heap.size (.slice (some ⟨g,0,none⟩) n.ends.length n.ends.length) (List.replicate k (-1)++List.replicate (n.ends.length-k) 0)/\aa w0 wr) (fun i _=>n.ends.length-(intOf i).toNat)
 case atStart=>exact⟨0,Nat.zero_le _,rfl,by have:=dT;simpa[Hg.out]using this,ay⟩
 case round=>
  obtain⟨k,hk,rfl,ho,hs⟩:=hrel;have Ho:=zh ho;have Hs:=zh hs;clear dT ay ho hs bB
  by_cases hlt:k<n.ends.length
  ·obtain⟨y,hy⟩:=aM (List.replicate k (-1:Int)++List.replicate (n.ends.length-k) 0) k (by simp;omega)
   have cz:=Ho.out.cell hy;have fz:=Ho.out.free k;clear hy;go_wp2;go_roundw
   case rel=>
    refine⟨k+1,by omega,by go_num,?_,Below.setCell Hs.out (by show w0.heap.size<=g;rw[Hg.out];exact Nat.le_refl _) _⟩
    have:=Ho.out.set (k:=k) (-1)
    have e:(List.replicate k (-1:Int)++List.replicate (n.ends.length-k) 0).set k (-1)=List.replicate (k+1) (-1)++List.replicate (n.ends.length-(k+1)) 0:=by
     rw[List.set_append_right _ _ (by simp),List.length_replicate,Nat.sub_self,show n.ends.length-k=(n.ends.length-(k+1))+1 by omega,List.replicate_succ,List.set_cons_zero,List.replicate_succ',List.append_assoc]
     rfl
    rwa [e]at this
   case measure=>simp[intOf];omega
  ·obtain rfl:k=n.ends.length:=by omega
   have eX:Hid (Own wr w0.heap.size (.slice (some ⟨g,0,none⟩) n.ends.length n.ends.length) (List.replicate n.ends.length (-1))):=by
    have:=Ho.out
    rwa [Nat.sub_self,List.replicate_zero,List.append_nil]at this
   have SW:Hid (w0.heap.size<=g):=by rw[Hg.out];exact Nat.le_refl _
   clear hk hlt;obtain⟨wS,hwS⟩:∃wS,wS=wr:=⟨_,rfl⟩
   rw[<- hwS]at eX Hs ⊢;clear hwS Ho;go_wp2
   go_loopw [7,8] (fun us uv wr=>∃(l:List Int) (v:Int) (s f:Nat),us=.int .i64 (s:Int)/\uv=.int .i64 v/\Own wr w0.heap.size (.slice (some ⟨g,0,none⟩) n.ends.length n.ends.length) l/\vo n l v s f/\gh n f l v s=R/\aa w0 wr) (fun us uv _=>oB (intOf uv) (intOf us).toNat)
   case atStart=>exact⟨_,0,0,400002,rfl,rfl,eX.out,xn,HR.out.symm,Hs.out⟩
   case round=>
    obtain⟨l,v,s,f,rfl,rfl,ho,jd,dH,bA⟩:=hrel;have Ho:=zh ho;have mn:=zh jd;have mM:=zh dH;have hlen:=jd.len;have Ny:=jd.lo;have Af:=jd.hi;have I3:=jd.st;clear ho dH jd
    by_cases hv:(n.ends.length:Int)<=v
    ·have hr:Hid (R=some (some l)):=by show _=_;rw[<- mM.out];exact BC mn.out hv
     have HS:=zh bA;obtain rfl:v=(n.ends.length:Int):=by omega
     clear bA hv Ny Af I3;go_wp2
     first | go_ret3 | fail
     exact⟨_,by rw[hr.out];rfl,by intro l' Fc;rw[hr.out]at Fc;cases Fc;exact Ho.out.mono aT.out.size,aa.after aT.out HS.out⟩
    ·by_cases C3:v<0
     ·have hr:Hid (R=some none):=by show _=_;rw[<- mM.out];exact BE mn.out (by omega) C3
      have HS:=zh bA;have hvl:v<(n.ends.length:Int):=by omega
      clear bA hv Ny Af I3;go_wp2
      first | go_ret3 | fail
      exact⟨_,by rw[hr.out];rfl,fun l' Fc=>by(rw[hr.out]at Fc;cases Fc),aa.after aT.out HS.out⟩
     ·obtain⟨k,rfl⟩:=Int.eq_ofNat_of_zero_le (show 0<=v by omega)
      have hk:k<n.ends.length:=by omega
      obtain⟨x,hx⟩:=aM l k (by omega);have sk:=mn.out.rng x (List.mem_of_getElem? hx);obtain⟨f',rfl⟩:=BH mn.out;have cz:=Ho.out.cell hx;have fz:=Ho.out.free k;have Hx:=zh hx;have m1:IntKind.i64.wrap ((k:Int)-1)=(k:Int)-1:=aF _ (by omega) (by omega);have m2:IntKind.i64.wrap (x+1)=x+1:=aF _ (by omega) (by omega);have m3:IntKind.i64.wrap ((s:Int)+1)=(s:Int)+1:=aF _ (by omega) (by omega);have m4:IntKind.i64.wrap ((k:Int)+1)=(k:Int)+1:=aF _ (by omega) (by omega);clear hx hv C3 Ny Af
      by_cases h2:x=2
      ·subst h2;have Hb:=zh (BF mn.out hk Hx.out);clear m2 m3 m4 sk;go_wp2;go_roundw
       case rel=>exact⟨l.set k (-1),(k:Int)-1,s,f',rfl,by first | rfl | go_num,Ho.out.set (k:=k) (-1),Hb.out.2,by rw[<- Hb.out.1];exact mM.out,bA.setCell SW.out _⟩
       case measure=>(simp[intOf,oB];try omega)
      ·have h2':(x=2)=False:=by simp[h2]
       have h2b:(x==2)=false:=by simp[h2]
       by_cases hs:s=200000
       ·have hr:Hid (R=none):=by show _=_;rw[<- mM.out];subst hs;exact BG mn.out hk Hx.out h2
        have HS:=zh bA
        have cY:((s:Int)=200000)=True:=by simp;omega
        have d_:(s=200000)=True:=by simp[hs]
        have hZ:((s:Int)==200000)=true:=by simp;omega
        clear bA m1 m2 m3 m4 sk h2 hs I3;go_wp2
        first | go_ret3 | fail
        exact⟨_,by rw[hr.out];rfl,fun l' Fc=>by(rw[hr.out]at Fc;cases Fc),aa.after aT.out HS.out⟩
       ·have MZ:((s:Int)=200000)=False:=by simp;omega
        have d_:(s=200000)=False:=by simp[hs]
        have hZ:((s:Int)==200000)=false:=by simp;omega
        have Hg:=zh (Nd mn.out hk Hx.out h2 hs);have Hs:=zh hs;clear h2 hs sk;obtain⟨es,bW⟩:=aM n.ends k hk;obtain⟨r1,r2⟩:=yZ.out k es bW;have kw:=zh bW;have qL:=zh r1;have yJ:=zh r2;clear bW r1 r2;go_upto_region 19 with(fail);obtain⟨l2,lL⟩:∃l2,l2=l.set k (x+1):=⟨_,rfl⟩
        rw[<- lL]at Hg;obtain⟨W0,CH⟩:∃W0,W0=wr.setCell ⟨g,k,none⟩ (.int .i64 (x+1)):=⟨_,rfl⟩
        rw[<- CH]
        have eX:Hid (Own W0 w0.heap.size (.slice (some ⟨g,0,none⟩) n.ends.length n.ends.length) l2):=by show Own _ _ _ _;rw[CH,lL];exact Ho.out.set (k:=k) (x+1)
        have DE:l2.length=n.ends.length:=by rw[lL,List.length_set];exact hlen
        have oQ:l2[k]?=some (x+1):=by rw[lL,List.getElem?_set_self (by omega)]
        have lp:Hid (aa w0 W0):=by show aa _ _;rw[CH];exact bA.setCell SW.out _
        have qz2:=ae (eX.out.cell oQ)
        have YF:=zh (show ∀X,aa W0 X->aY X (.slice (some ⟨g,0,none⟩) n.ends.length n.ends.length) l2 from fun X hX=>by have:=(Own.since eX.out hX).ints;exact this)
        have t0:=ah dL lp.out;have t1:=ah dR lp.out;have t2:=ah dU lp.out;have hz:aa W0 W0:=ad _;have Nz:=zh DE;have Hx2:=zh oQ
        have iL:=zh (show fQ n l2 k = !(iB (bt l2 es) (x+1))by unfold fQ iB;rw[au kw.out,au oQ])
        have HP:=zh (And.intro dL (And.intro dR dU));clear CH lL DE oQ bA cz fz dL dR dU;have Hzz:=zh (HK l2 (x+1) es);have rK:=EA l2 (x+1) (es.map (·.1));rw[List.length_map]at rK;have Hle:=zh rK;obtain⟨ct,NU⟩:∃ct,ct=nf l2 (x+1) (es.map (·.1)):=⟨_,rfl⟩
        rw[<- NU]at Hzz Hle;have Hct:=zh NU
        have HRS:Hid (∀W,aa W0 W->Calls Tryz.prog 209 #[.agg #[.slice A n.ends.length cA,.slice A2 n.ids.length c2,.slice A3 n.aea.length c3],.slice (some ⟨g,0,none⟩) n.ends.length n.ends.length,.int .i64 k,.int .i64 (x+1)] W fun e w'=>e=.returned (.int .i64 ct)/\Below W.heap.size W w'):=by
         intro W hW
         have:=HZ _ _ _ _ n l2 k (x+1) es W (H.out.keep (lp.out.after hW).below) (YF.out W hW) kw.out (by have:=qL.out;omega) (by rw[Nz.out];exact yJ.out)
         rw[<- NU]at this;exact this
        clear rK NU;refine ar 9 (aa W0) (by kernel_rfl) (by kernel_rfl) (by simp) (aj (ad _)) ?_;simp only[zT]
        iterate 7 (refine bU rfl ?_;simp only[zA])
        refine fI ?_ rfl ?_ ?_;rotate_left;(intro W hW;unfold dr;go_simp;(with_reducible refine(HRS.out W hW).mono ?_);rintro e W' ⟨rfl,bN⟩;first | (refine⟨?_,aa.trans hW bN⟩;with_reducible rfl) | (subst bN;refine⟨?_,hW⟩;with_reducible rfl))
        simp only[zA]
        refine bU rfl ?_;simp only[zA]
        intro W' hW;have i8:=zh (Own.since eX.out hW);have NA:=zh (lp.out.after hW);obtain⟨dL,dR,dU⟩:=HP.out
        by_cases hb:ct=0
        ·have Kv:fQ n l2 k=true:=by rw[iL.out,Hzz.out.1 hb];rfl
         rw[Kv]at Hg;have e1:((ct:Int)==0)=true:=by simp[hb]
         have e2:((ct:Int)=0)=True:=by simp[hb]
         have e3:(ct=0)=True:=by simp[hb]
         clear hW hz t0 t1 t2 qz2 hb m1 m2 m3;go_wp2;go_roundw
         case rel=>exact⟨l2,(k:Int)+1,s+1,f',by go_num,by first | rfl | go_num,i8.out,by have:=Hg.out.2;simpa using this,by have:=Hg.out.1;simp at this;rw[<- this];exact mM.out,NA.out⟩
         case measure=>(have:=Hs.out;have:=mn.out.st;simp[intOf,oB];try omega)
        ·have Kv:fQ n l2 k=false:=by
          rw[iL.out];cases hq:iB (bt l2 es) (x+1)
          ·exact absurd (Hzz.out.2 hq) hb
          ·rfl
         rw[Kv]at Hg;have e1:((ct:Int)==0)=false:=by simp[hb]
         have e2:((ct:Int)=0)=False:=by simp[hb]
         have e3:(ct=0)=False:=by simp[hb]
         clear hW hz t0 t1 t2 qz2 hb m1 m2 m3;go_wp2;go_roundw
         case rel=>exact⟨l2,(k:Int),s+1,f',by go_num,by first | rfl | go_num,i8.out,by have:=Hg.out.2;simpa using this,by have:=Hg.out.1;simp at this;rw[<- this];exact mM.out,NA.out⟩
         case measure=>(have:=Hs.out;have:=mn.out.st;simp[intOf,oB];try omega)
theorem sY {f:Nat->Int} (k:Nat):(List.range (k+1)).map f=(List.range k).map f++[f k]:=by rw[List.range_succ,List.map_append];rfl
theorem sZ {n:ak} {w:World} {v:Value} (h:aY w v n.ids) {r:Nat} (hr:r<n.ids.length):∃b off c,v=.slice (some ⟨b,off,none⟩) n.ids.length c/\∀W,aa w W->W.cell? ⟨b,off+r,none⟩=some (.int .i64 (n.ids.getD r 0)):=by
 obtain⟨A',c',e,_,_,hA⟩:=h
 obtain⟨b,off,e',hc⟩:=hA r (n.ids.getD r 0) (by rw[zDd,List.getElem?_eq_getElem hr];rfl)
 subst e';exact⟨b,off,c',e,fun W hW=>ae hc W hW⟩
theorem ik {N:Nat} {w:World} {A:Option Addr} {c:Nat} {xs:List Int} (h:aY w (.slice A N c) xs) (hl:xs.length=N) (h0:0<N):∃b off,A=some ⟨b,off,none⟩/\∀k x,xs[k]?=some x->∀W,aa w W->W.cell? ⟨b,off+k,none⟩=some (.int .i64 x):=by
 obtain⟨A',c',e,_,_,hA⟩:=h;rw[hl]at e;cases e;obtain⟨b,off,e,-⟩:=hA 0 xs[0] (List.getElem?_eq_getElem (by omega));refine⟨b,off,e,fun k x hx W hW=>?_⟩
 obtain⟨b',oY,e',hc⟩:=hA k x hx;rw[e]at e';cases e';exact ae hc W hW
theorem O_ (ve vi vn:Value) (n:ak) (w:World) (h:aQ w ve vi vn n) (hn:al n=true):
  Calls Tryz.prog 104 #[.agg #[ve,vi,vn],.int .i64 3] w fun e w'=>∃u,e=.returned u/\Own w' w.heap.size u ((List.range n.ends.length).map (dt n))/\Below w.heap.size w w':=by
 have eS:=aE hn;have kz:=eS.1;have np:=eS.2;have Hn:=zh hn;clear eS hn
 obtain⟨w0,A,c,A2,c2,A3,c3,rfl,rfl,rfl,eV,hm,fJ,fB,HA,bK,aT,H,dL,dR,dU⟩:=zB h;clear h
 go_enter Tryz.func104,Tryz.ntmps104
 go_upto_region 1 with(fail);rw[<- bK.out];have bB:aa w0 w0:=ad _;go_wp2_with fail;refine(jh _ _ _ n w0 H.out Hn.out).mono ?_;rintro e w1 ⟨uR,rfl,vE,ay⟩;have cY:aa w0 w1:=ay;clear ay;obtain⟨AR,cR,rfl,-,-,-⟩:=id vE.ints;have uY:(bn n).length=n.ends.length:=by exact mN n
 rw[uY]at vE;obtain⟨bR,oR,rfl,JB⟩:=ik vE.ints uY (by omega);have RY:=zh JB;have dC:=zh cY;have RZ:=zh uY;clear vE JB uY bB;rw[RZ.out];go_wp2
 go_loopw [11,46] (fun u i wr=>∃k:Nat,k<=n.ends.length/\i=.int .i64 k/\Own wr w1.heap.size u ((List.range k).map (dt n))/\aa w1 wr) (fun _ i _=>n.ends.length-(intOf i).toNat)
 case atStart=>exact⟨0,Nat.zero_le _,rfl,by simpa using bH _ w1.heap.size,ad _⟩
 case round=>
  obtain⟨k,hk,rfl,ho,bA⟩:=hrel;have Ho:=zh ho;have Hs:=zh bA;clear ho bA cY
  by_cases hlt:k<n.ends.length
  ·have m3:IntKind.i64.wrap ((k:Int)+1)=(k:Int)+1:=aF _ (by omega) (by omega)
   have cJ:Hid (((List.range k).map (dt n)).length+1<=17592186044416):=by show _<=_;simp;omega
   have jm:=zh (sY (f:=dt n) k)
   obtain⟨r,hr,rF,TS⟩:∃r:Nat,(bn n)[k]?=some (r:Int)/\r<n.ends.length/\r=ai n k:=by
    exact⟨ai n k,by unfold bn;rw[List.getElem?_map,List.getElem?_range hlt];rfl,cM Hn.out hlt,rfl⟩
   have c0:=RY.out k _ hr wr Hs.out;have Lj:=zh TS;clear hr TS;have kh:aa w0 wr:=aa.trans dC.out Hs.out;have lE:=zh kh;go_wp2_with fail;refine(i9 _ _ _ n r wr (H.out.keep lE.out.below) Hn.out rF).mono ?_;rintro e w2 ⟨uF,rfl,qd,bj⟩;obtain⟨AF,cF,rfl,-,-,-⟩:=id qd.ints;rw[fw Hn.out rF]at qd;obtain⟨bF,oF,rfl,EB⟩:=jX Hn.out rF qd.ints;rw[fw Hn.out rF];have b_:=zh (aa.after Hs.out bj);have mr:=zh (aa.after lE.out bj);have eX:=zh (Own.since Ho.out bj);have cd:=EB k hlt w2 (ad _);have Me:=nP Hn.out rF hlt;obtain⟨d,hd⟩:∃z,z=aw n r k:=⟨_,rfl⟩
   rw[<- hd]at cd Me;have Hd:=zh hd;clear hd qd EB bj c0 kh;have qo:=mr.out
   have hy:dt n k=d:=by unfold dt;rw[<- Lj.out,Hd.out]
   rw[hy]at jm;clear hy
   go_wp2_with (at_builtin;refine dy rfl _ _ rfl rfl (eX.out.since (ag _ (ad _))) w2.heap.size d rfl (by simp[go_sem]) cJ.out (ag _ b_.out) ?_;intro g cc w3 eH hZ)
   have i8:=zh eH;have ew:Hid (aa w1 w3):=hZ;clear eH hZ;go_wp2;go_roundw
   case rel=>exact⟨k+1,by omega,by first | rfl | go_num,by rw[jm.out];have:=i8.out;simpa using this,ew.out⟩
   case measure=>simp[intOf];omega
  ·obtain rfl:k=n.ends.length:=by omega
   clear hk hlt;go_wp2;go_ret;exact⟨_,rfl,Ho.out.mono (Nat.le_trans aT.out.size dC.out.below.size),aa.trans aT.out (aa.trans dC.out Hs.out)⟩
theorem Pa {w:World} {b:Nat} {x y:Int} (h:w.cell? ⟨b,0,none⟩=some (.int .i64 x)) (h':w.cell? ⟨b,1,none⟩=some (.int .i64 y)):aY w (.slice (some ⟨b,0,none⟩) 2 2) [x,y]:=
 ⟨some ⟨b,0,none⟩,2,rfl,Nat.le_refl _,by unfold maxLen;omega,fun k z hk=>by
  match k,hk with
  | 0,hk=>simp at hk;subst hk;exact⟨b,0,rfl,h⟩
  | 1,hk=>simp at hk;subst hk;exact⟨b,0,rfl,h'⟩
  | k+2,hk=>simp at hk⟩
theorem AJ {w:World} {b:Nat} {x y z t:Int} (h0:w.cell? ⟨b,0,none⟩=some (.int .i64 x)) (h1:w.cell? ⟨b,1,none⟩=some (.int .i64 y)) (h2:w.cell? ⟨b,2,none⟩=some (.int .i64 z)) (h3:w.cell? ⟨b,3,none⟩=some (.int .i64 t)):aY w (.slice (some ⟨b,0,none⟩) 4 4) [x,y,z,t]:=
 ⟨some ⟨b,0,none⟩,4,rfl,Nat.le_refl _,by unfold maxLen;omega,fun k q hk=>by
  match k,hk with
  | 0,hk=>simp at hk;subst hk;exact⟨b,0,rfl,h0⟩
  | 1,hk=>simp at hk;subst hk;exact⟨b,0,rfl,h1⟩
  | 2,hk=>simp at hk;subst hk;exact⟨b,0,rfl,h2⟩
  | 3,hk=>simp at hk;subst hk;exact⟨b,0,rfl,h3⟩
  | k+4,hk=>simp at hk⟩
theorem Pb (ve vi vn:Value) (n:ak) (w:World) (h:aQ w ve vi vn n) (hn:al n=true) (hid:n.ids.length≠0) (Q6:eL n=true):
  Calls Tryz.prog 104 #[.agg #[ve,vi,vn],.int .i64 4] w fun e w'=>∃u,e=.returned u/\Own w' w.heap.size u ((List.range n.ends.length).map (ko n))/\Below w.heap.size w w':=by
 have eS:=aE hn;have kz:=eS.1;have np:=eS.2;have Hn:=zh hn;have SZ:=zh Q6;have zr:=zh hid;clear eS hn Q6 hid
 obtain⟨w0,A,c,A2,c2,A3,c3,rfl,rfl,rfl,eV,hm,fJ,fB,HA,bK,aT,H,dL,dR,dU⟩:=zB h;clear h
 go_enter Tryz.func104,Tryz.ntmps104
 go_upto_region 1 with(fail);rw[<- bK.out];have bB:aa w0 w0:=ad _;go_wp2_with fail;refine(jh _ _ _ n w0 H.out Hn.out).mono ?_;rintro e wp ⟨uP,rfl,Mh,nu⟩;have hsp:aa w0 wp:=nu;obtain⟨AP,cP,rfl,-,-,-⟩:=id Mh.ints;have Hsp:=zh hsp;clear Mh nu;go_wp2_with fail;refine(xA _ _ _ n wp (H.out.keep Hsp.out.below) Hn.out).mono ?_;rintro e w1 ⟨uR,rfl,vE,ay⟩;rw[if_pos SZ.out]at vE;have cY:aa w0 w1:=aa.after Hsp.out ay;clear ay hsp;obtain⟨AR,cR,rfl,-,-,-⟩:=id vE.ints;have uY:(pk n n.ends.length).length=n.ends.length:=by exact Ag n n.ends.length
 rw[uY]at vE;obtain⟨bR,oR,rfl,JB⟩:=ik vE.ints uY (by omega);have RY:=zh JB;have dC:=zh cY;have RZ:=zh uY;clear vE JB uY bB;rw[RZ.out];go_wp2
 go_loopw [11,46] (fun u i wr=>∃k:Nat,k<=n.ends.length/\i=.int .i64 k/\Own wr w1.heap.size u ((List.range k).map (ko n))/\aa w1 wr) (fun _ i _=>n.ends.length-(intOf i).toNat)
 case atStart=>exact⟨0,Nat.zero_le _,rfl,by simpa using bH _ w1.heap.size,ad _⟩
 case round=>
  obtain⟨k,hk,rfl,ho,bA⟩:=hrel;have Ho:=zh ho;have Hs:=zh bA;clear ho bA cY
  by_cases hlt:k<n.ends.length
  ·have m3:IntKind.i64.wrap ((k:Int)+1)=(k:Int)+1:=aF _ (by omega) (by omega)
   have cJ:Hid (((List.range k).map (ko n)).length+1<=17592186044416):=by show _<=_;simp;omega
   have jm:=zh (sY (f:=ko n) k)
   obtain⟨r,hr,rF,TS⟩:∃r:Nat,(pk n n.ends.length)[k]?=some (r:Int)/\r<n.ends.length/\gE n k=(r:Int)/\f6 n r k:=by
    obtain⟨r,q1,q2,-,-,-,q6⟩:=ne Hn.out SZ.out hlt
    exact⟨r,by unfold pk;rw[List.getElem?_map,List.getElem?_range hlt,<- q1];rfl,q2,q1,q6⟩
   have c0:=RY.out k _ hr wr Hs.out;have Lj:=zh TS;clear hr TS;have kh:aa w0 wr:=aa.trans dC.out Hs.out;have lE:=zh kh;go_wp2_with fail;refine(i9 _ _ _ n r wr (H.out.keep lE.out.below) Hn.out rF).mono ?_;rintro e w2 ⟨uF,rfl,qd,bj⟩;obtain⟨AF,cF,rfl,-,-,-⟩:=id qd.ints;rw[fw Hn.out rF]at qd;obtain⟨bF,oF,rfl,EB⟩:=jX Hn.out rF qd.ints;rw[fw Hn.out rF];have b_:=zh (aa.after Hs.out bj);have mr:=zh (aa.after lE.out bj);have eX:=zh (Own.since Ho.out bj);have cd:=EB k hlt w2 (ad _);have Me:=nP Hn.out rF hlt;obtain⟨d,hd⟩:∃z,z=aw n r k:=⟨_,rfl⟩
   rw[<- hd]at cd Me;have Hd:=zh hd;clear hd qd EB bj c0 kh;have qo:=mr.out
   have KF:0<=d:=by rw[Hd.out];exact(na Hn.out rF hlt).2 Lj.out.2
   have Qn:=pL Hn.out zr.out
   have Ce:r<n.ids.length:=by rw[Qn.1];exact rF
   obtain⟨bI,oI,cI,VO,Qo⟩:=sZ H.out.2.1 Ce;have VP:=Qn.2 r rF;have ci:=Qo w2 mr.out;obtain⟨nR,H4⟩:∃z,z=n.ids.getD r 0:=⟨_,rfl⟩
   rw[<- H4]at ci VP;cases VO
   have hy:ko n k=nR*100+d:=by unfold ko;rw[Lj.out.1,Int.toNat_natCast,<- H4,<- Hd.out]
   obtain⟨y,CO⟩:∃z,z=nR*100+d:=⟨_,rfl⟩
   rw[hy,<- CO]at jm;have Hyy:=zh CO;clear hy CO H4 Qo Qn;go_wp2_with fail;refine(QL _ nR d _ (Pa (by simp) (by simp)) (by omega) (by omega) KF (by omega)).mono ?_;rintro e w4 ⟨rfl,tn⟩;have mG:=zh (aa.after (ag _ b_.out) tn);have ut:=zh (Own.since (Own.since eX.out (ag _ (ad _))) tn);clear tn;rw[<- Hyy.out]
   go_wp2_with (at_builtin;refine dy rfl _ _ rfl rfl (ut.out.since (ag _ (ad _))) w4.heap.size y rfl (by simp[go_sem]) cJ.out (ag _ mG.out) ?_;intro g cc w3 eH hZ)
   have i8:=zh eH;have ew:Hid (aa w1 w3):=hZ;clear eH hZ;go_wp2;go_roundw
   case rel=>exact⟨k+1,by omega,by first | rfl | go_num,by rw[jm.out];have:=i8.out;simpa using this,ew.out⟩
   case measure=>simp[intOf];omega
  ·obtain rfl:k=n.ends.length:=by omega
   clear hk hlt;go_wp2;go_ret;exact⟨_,rfl,Ho.out.mono (Nat.le_trans aT.out.size dC.out.below.size),aa.trans aT.out (aa.trans dC.out Hs.out)⟩
theorem Pc (ve vi vn:Value) (n:ak) (w:World) (h:aQ w ve vi vn n) (hn:al n=true) (hid:n.ids.length≠0):
  Calls Tryz.prog 104 #[.agg #[ve,vi,vn],.int .i64 5] w fun e w'=>∃u,e=.returned u/\Own w' w.heap.size u ((List.range n.ends.length).map (fF n))/\Below w.heap.size w w':=by
 have eS:=aE hn;have kz:=eS.1;have np:=eS.2;have Hn:=zh hn;have zr:=zh hid;clear eS hn hid
 obtain⟨w0,A,c,A2,c2,A3,c3,rfl,rfl,rfl,eV,hm,fJ,fB,HA,bK,aT,H,dL,dR,dU⟩:=zB h;clear h
 go_enter Tryz.func104,Tryz.ntmps104
 go_upto_region 1 with(fail);rw[<- bK.out];have bB:aa w0 w0:=ad _;go_wp2_with fail;refine(jh _ _ _ n w0 H.out Hn.out).mono ?_;rintro e w1 ⟨uR,rfl,vE,ay⟩;have cY:aa w0 w1:=ay;clear ay;obtain⟨AR,cR,rfl,-,-,-⟩:=id vE.ints;have uY:(bn n).length=n.ends.length:=by exact mN n
 rw[uY]at vE;obtain⟨bR,oR,rfl,JB⟩:=ik vE.ints uY (by omega);have RY:=zh JB;have dC:=zh cY;have RZ:=zh uY;clear vE JB uY bB;rw[RZ.out];go_wp2
 go_loopw [11,46] (fun u i wr=>∃k:Nat,k<=n.ends.length/\i=.int .i64 k/\Own wr w1.heap.size u ((List.range k).map (fF n))/\aa w1 wr) (fun _ i _=>n.ends.length-(intOf i).toNat)
 case atStart=>exact⟨0,Nat.zero_le _,rfl,by simpa using bH _ w1.heap.size,ad _⟩
 case round=>
  obtain⟨k,hk,rfl,ho,bA⟩:=hrel;have Ho:=zh ho;have Hs:=zh bA;clear ho bA cY
  by_cases hlt:k<n.ends.length
  ·have m3:IntKind.i64.wrap ((k:Int)+1)=(k:Int)+1:=aF _ (by omega) (by omega)
   have cJ:Hid (((List.range k).map (fF n)).length+1<=17592186044416):=by show _<=_;simp;omega
   have jm:=zh (sY (f:=fF n) k)
   obtain⟨r,hr,rF,TS⟩:∃r:Nat,(bn n)[k]?=some (r:Int)/\r<n.ends.length/\r=ai n k:=by
    exact⟨ai n k,by unfold bn;rw[List.getElem?_map,List.getElem?_range hlt];rfl,cM Hn.out hlt,rfl⟩
   have c0:=RY.out k _ hr wr Hs.out;have Lj:=zh TS;clear hr TS;have kh:aa w0 wr:=aa.trans dC.out Hs.out;have lE:=zh kh;go_wp2_with fail;refine(i9 _ _ _ n r wr (H.out.keep lE.out.below) Hn.out rF).mono ?_;rintro e w2 ⟨uF,rfl,qd,bj⟩;obtain⟨AF,cF,rfl,-,-,-⟩:=id qd.ints;rw[fw Hn.out rF]at qd;obtain⟨bF,oF,rfl,EB⟩:=jX Hn.out rF qd.ints;rw[fw Hn.out rF];have b_:=zh (aa.after Hs.out bj);have mr:=zh (aa.after lE.out bj);have eX:=zh (Own.since Ho.out bj);have cd:=EB k hlt w2 (ad _);have Me:=nP Hn.out rF hlt;obtain⟨d,hd⟩:∃z,z=aw n r k:=⟨_,rfl⟩
   rw[<- hd]at cd Me;have Hd:=zh hd;clear hd qd EB bj c0 kh;have qo:=mr.out
   have hrt:dt n k=d:=by unfold dt;rw[<- Lj.out,Hd.out]
   have KF:0<=d:=by rw[<- hrt];exact(Md Hn.out).pos k hlt
   have Qn:=pL Hn.out zr.out
   have Ce:r<n.ids.length:=by rw[Qn.1];exact rF
   obtain⟨bI,oI,cI,VO,Qo⟩:=sZ H.out.2.1 Ce;have VP:=Qn.2 r rF;have ci:=Qo w2 mr.out;have HcI:=zh Qo;obtain⟨nR,H4⟩:∃z,z=n.ids.getD r 0:=⟨_,rfl⟩
   rw[<- H4]at ci VP;cases VO;have R0:=zh H4;clear Qo Qn H4 hrt;go_wp2_with fail;refine(G6 _ _ _ n r w2 (H.out.keep mr.out.below) Hn.out rF).mono ?_;rintro e w4 ⟨uP,rfl,Mh,tn⟩;obtain⟨AP,cP,rfl,-,-,-⟩:=id Mh.ints;have R1:(oe n r).length=n.ends.length:=by simp[oe]
   rw[R1]at Mh;obtain⟨bP,oP,rfl,hcP⟩:=ik Mh.ints R1 (by omega);rw[R1];have cp:=hcP k _ (sT hlt) w4 (ad _);have HiP:=zh Mh.ints;have mG:=zh (aa.after b_.out tn);have oK:=zh (aa.after mr.out tn);have ut:=zh (Own.since eX.out tn);have ci4:=HcI.out w4 oK.out;rw[<- R0.out]at ci4;obtain⟨tw,VK⟩:∃z,z=fX n r k:=⟨_,rfl⟩
   rw[<- VK]at cp;have Htw:=zh VK;clear Mh tn hcP ci cd VK R1
   have Lk:jl n k=tw:=by unfold jl;rw[<- Lj.out,Htw.out]
   have EC:=pH Hn.out hlt;rw[Lk,<- Lj.out]at EC;obtain⟨cc,uy⟩:∃z,z=jK n.ends.length (qs n r) (mx n r) k:=⟨_,rfl⟩
   obtain⟨cm,LM⟩:∃z,z=cc%2:=⟨_,rfl⟩
   have lT:jK n.ends.length (dt n) (jb n) k%2=cm:=by
    rw[LM,uy,<- OY Hn.out hlt,<- Lj.out]
   have Hcm:=zh lT;have Hcs:=zh uy.symm;have ad3:cm<=1:=by omega
   have t1:(cc:Int).tmod 2=(cm:Int):=by rw[Int.tmod_eq_emod_of_nonneg (by omega)];omega
   have t2:(cc:Int)%2=(cm:Int):=by omega
   have t3:IntKind.i64.wrap (cm:Int)=(cm:Int):=aF _ (by omega) (by omega)
   have xR:∀W,aa w0 W->W.cell? ⟨bI,oI+r,none⟩=some (.int .i64 nR):=fun W hW=>by rw[R0.out];exact HcI.out W hW
   have aaE:=zh xR;clear xR uy LM lT
   by_cases Bk:k=r
   ·have lP:=EC.2 Bk
    have ep:(if jl n k<0 then (9:Int) else jl n k)=9:=if_pos (by rw[Lk];exact lP)
    have Hep:=zh ep;clear ep Lk EC;have e0:((k:Int)=(r:Int))=True:=by simp[Bk]
    have e0b:((k:Int)==(r:Int))=true:=by simp[Bk]
    clear Bk
    have hy:fF n k=((nR*100+d)*10+9)*2+(cm:Int):=by
     unfold fF;rw[<- Lj.out,<- R0.out,Hcm.out,Hep.out]
     have h1:dt n k=d:=by unfold dt;rw[<- Lj.out,Hd.out]
     rw[h1]
    obtain⟨y,CO⟩:∃z,z=((nR*100+d)*10+9)*2+(cm:Int):=⟨_,rfl⟩
    rw[hy,<- CO]at jm;have Hyy:=zh CO;clear hy CO;go_upto_region 21 with(fail);clear cp;refine cH (w0:=w4) 17 [false,false,false,false,false,false,false,false,false,false,false,false,true,true,true,true,true] (by kernel_rfl) (by kernel_rfl) (ad _) ?_;simp only[eE,ea,zT]
    iterate 3 (apply aR rfl;(intro W hW;go_simp;with_reducible rfl);simp only[zA])
    apply aR rfl;(intro W hW;have k1:=dR W (aa.trans oK.out hW);go_simp;with_reducible rfl);simp only[zA]
    iterate 2 (apply aR rfl;(intro W hW;go_simp;with_reducible rfl);simp only[zA])
    apply aR rfl;(intro W hW;have k1:=aaE.out W (aa.trans oK.out hW);go_simp;with_reducible rfl);simp only[zA]
    iterate 2 (apply aR rfl;(intro W hW;go_simp;with_reducible rfl);simp only[zA])
    apply aR rfl;(intro W hW;(have k0:=dL W (aa.trans oK.out hW);have k1:=dR W (aa.trans oK.out hW);have k2:=dU W (aa.trans oK.out hW));go_simp;with_reducible rfl);simp only[zA]
    iterate 2 (apply aR rfl;(intro W hW;go_simp;with_reducible rfl);simp only[zA])
    intro W hW;refine Or.inl ⟨rfl,?_⟩
    go_simp
    (with_reducible refine(uV _ _ _ n r k cP _ W (H.out.keep (aa.after oK.out hW).below) Hn.out rF hlt (HiP.out.keep hW.below)).mono ?_)
    rintro e W' ⟨rfl,hb⟩;refine⟨_,rfl,hW.after hb,?_⟩
    replace hW:=hW.after hb
    rw[Hcs.out]
    (try simp only[zA])
    refine dG (v:=?_) rfl ?_ hW ?_;rotate_left;(go_simp;with_reducible rfl)
    simp only[zA]
    refine je (v:=?_) (ob:=?_) rfl ?_ hW ?_;rotate_left 2
    (go_simp;first | with_reducible rfl | (refine⟨?_,?_⟩ <;> with_reducible rfl))
    intro w5 lO pf
    replace hW:=pf
    clear pf
    have E8:Hid (aY w5 (.slice (some ⟨W'.heap.size,0,none⟩) 4 4) [nR,d,9,(cm:Int)]):=by show aY _ _ _;rw[lO];exact AJ (by simp) (by simp) (by simp) (by simp)
    clear lO hb
    (try simp only[zA])
    refine Or.inl ⟨rfl,?_⟩
    go_simp
    (with_reducible refine(IX _ nR d 9 (cm:Int) _ E8.out (by omega) (by omega) KF (by omega) (by omega) (by omega) (by omega) (by omega)).mono ?_)
    rintro e W' ⟨rfl,hb⟩;refine⟨_,rfl,hW.after hb,?_⟩
    replace hW:=hW.after hb
    rw[<- Hyy.out]
    (try simp only[zA])
    refine je (v:=?_) (ob:=?_) rfl ?_ hW ?_;rotate_left 2
    (go_simp;first | with_reducible rfl | (refine⟨?_,?_⟩ <;> with_reducible rfl))
    intro w7 xV Ek
    replace hW:=Ek
    clear Ek
    have Hc7:Hid (w7.cell? ⟨W'.heap.size,0,none⟩=some (.int .i64 y)):=by show _=_;rw[xV];simp
    have acF:Hid (W'.heap.size<w7.heap.size):=by show _<_;rw[xV];simp
    clear xV hb
    (try simp only[zA])
    simp only[bz];have FT:=zh (aa.trans mG.out hW);have J8:=zh (Own.since ut.out hW);clear hW qo ci4
    go_wp2_with (at_builtin;refine dy rfl _ _ rfl rfl J8.out W'.heap.size y rfl Hc7.out cJ.out FT.out ?_;intro g cc2 w3 eH hZ)
    have i8:=zh eH;have ew:Hid (aa w1 w3):=hZ;clear eH hZ;go_wp2;go_roundw
    case rel=>exact⟨k+1,by omega,by first | rfl | go_num,by rw[jm.out];have:=i8.out;simpa using this,ew.out⟩
    case measure=>simp[intOf];omega
   ·have x_:0<=tw:=Int.not_lt.1 (fun h9=>Bk (EC.1 h9))
    have ad4:tw<6:=by
     have h9:=(ii Hn.out zr.out hlt).2.2.2.2.2.2;rw[Lk]at h9;exact h9 x_
    have ep:(if jl n k<0 then (9:Int) else jl n k)=tw:=by rw[Lk];exact if_neg (Int.not_lt.2 x_)
    have Hep:=zh ep;clear ep Lk EC
    have e0:((k:Int)=(r:Int))=False:=by simp;omega
    have e0b:((k:Int)==(r:Int))=false:=beq_eq_false_iff_ne.2 (by omega)
    have hy:fF n k=((nR*100+d)*10+tw)*2+(cm:Int):=by
     unfold fF;rw[<- Lj.out,<- R0.out,Hcm.out,Hep.out]
     have h1:dt n k=d:=by unfold dt;rw[<- Lj.out,Hd.out]
     rw[h1]
    obtain⟨y,CO⟩:∃z,z=((nR*100+d)*10+tw)*2+(cm:Int):=⟨_,rfl⟩
    rw[hy,<- CO]at jm;have Hyy:=zh CO;clear hy CO;go_upto_region 21 with(fail);clear cp;refine cH (w0:=w4) 17 [false,false,false,false,false,false,false,false,false,false,false,false,true,true,true,true,true] (by kernel_rfl) (by kernel_rfl) (ad _) ?_;simp only[eE,ea,zT]
    iterate 3 (apply aR rfl;(intro W hW;go_simp;with_reducible rfl);simp only[zA])
    apply aR rfl;(intro W hW;have k1:=dR W (aa.trans oK.out hW);go_simp;with_reducible rfl);simp only[zA]
    iterate 2 (apply aR rfl;(intro W hW;go_simp;with_reducible rfl);simp only[zA])
    apply aR rfl;(intro W hW;have k1:=aaE.out W (aa.trans oK.out hW);go_simp;with_reducible rfl);simp only[zA]
    iterate 2 (apply aR rfl;(intro W hW;go_simp;with_reducible rfl);simp only[zA])
    apply aR rfl;(intro W hW;(have k0:=dL W (aa.trans oK.out hW);have k1:=dR W (aa.trans oK.out hW);have k2:=dU W (aa.trans oK.out hW));go_simp;with_reducible rfl);simp only[zA]
    iterate 2 (apply aR rfl;(intro W hW;go_simp;with_reducible rfl);simp only[zA])
    intro W hW;refine Or.inl ⟨rfl,?_⟩
    go_simp
    (with_reducible refine(uV _ _ _ n r k cP _ W (H.out.keep (aa.after oK.out hW).below) Hn.out rF hlt (HiP.out.keep hW.below)).mono ?_)
    rintro e W' ⟨rfl,hb⟩;refine⟨_,rfl,hW.after hb,?_⟩
    replace hW:=hW.after hb
    rw[Hcs.out]
    (try simp only[zA])
    refine dG (v:=?_) rfl ?_ hW ?_;rotate_left;(go_simp;with_reducible rfl)
    simp only[zA]
    refine je (v:=?_) (ob:=?_) rfl ?_ hW ?_;rotate_left 2
    (go_simp;first | with_reducible rfl | (refine⟨?_,?_⟩ <;> with_reducible rfl))
    intro w5 lO pf
    replace hW:=pf
    clear pf
    have E8:Hid (aY w5 (.slice (some ⟨W'.heap.size,0,none⟩) 4 4) [nR,d,tw,(cm:Int)]):=by show aY _ _ _;rw[lO];exact AJ (by simp) (by simp) (by simp) (by simp)
    clear lO hb
    (try simp only[zA])
    refine Or.inl ⟨rfl,?_⟩
    go_simp
    (with_reducible refine(IX _ nR d tw (cm:Int) _ E8.out (by omega) (by omega) KF (by omega) (by omega) (by omega) (by omega) (by omega)).mono ?_)
    rintro e W' ⟨rfl,hb⟩;refine⟨_,rfl,hW.after hb,?_⟩
    replace hW:=hW.after hb
    rw[<- Hyy.out]
    (try simp only[zA])
    refine je (v:=?_) (ob:=?_) rfl ?_ hW ?_;rotate_left 2
    (go_simp;first | with_reducible rfl | (refine⟨?_,?_⟩ <;> with_reducible rfl))
    intro w7 xV Ek
    replace hW:=Ek
    clear Ek
    have Hc7:Hid (w7.cell? ⟨W'.heap.size,0,none⟩=some (.int .i64 y)):=by show _=_;rw[xV];simp
    have acF:Hid (W'.heap.size<w7.heap.size):=by show _<_;rw[xV];simp
    clear xV hb
    (try simp only[zA])
    simp only[bz];have FT:=zh (aa.trans mG.out hW);have J8:=zh (Own.since ut.out hW);clear hW qo ci4
    go_wp2_with (at_builtin;refine dy rfl _ _ rfl rfl J8.out W'.heap.size y rfl Hc7.out cJ.out FT.out ?_;intro g cc2 w3 eH hZ)
    have i8:=zh eH;have ew:Hid (aa w1 w3):=hZ;clear eH hZ;go_wp2;go_roundw
    case rel=>exact⟨k+1,by omega,by first | rfl | go_num,by rw[jm.out];have:=i8.out;simpa using this,ew.out⟩
    case measure=>simp[intOf];omega
  ·obtain rfl:k=n.ends.length:=by omega
   clear hk hlt;go_wp2;go_ret;exact⟨_,rfl,Ho.out.mono (Nat.le_trans aT.out.size dC.out.below.size),aa.trans aT.out (aa.trans dC.out Hs.out)⟩
end Go.Proofs.YtgmdpppljkmabaaGreat
