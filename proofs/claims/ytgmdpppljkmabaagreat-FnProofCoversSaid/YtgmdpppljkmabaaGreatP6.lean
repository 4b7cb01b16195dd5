/- Parts of the proof: walks of functions and plain laws. -/
import Derived.Test.YtgmdpppljkmabaaGreatP0
import Derived.Test.YtgmdpppljkmabaaGreatP3
import Derived.Test.YtgmdpppljkmabaaGreatP5
import Derived.Test.YtgmdpppljkmabaaGreatP1
import Derived.Test.YtgmdpppljkmabaaGreatP2
import Derived.LoopN
set_option maxRecDepth 100000
set_option maxHeartbeats 16000000
namespace Go.Proofs.YtgmdpppljkmabaaGreat
open Go Go.RowKit
def JJ (n:aj):List (Nat×Nat):=(cj n).map fun e=>(e.1.toNat,e.2.2.1.toNat)
def aZ (n:aj) (v i:Nat) (f:Int×Int):Prop:=(n.ends.getD v [])[i]?=some f
theorem cY {n:aj} (hn:ak n=true) {v i:Nat} {f:Int×Int} (h:aZ n v i f):v<n.ends.length/\0<=f.1/\f.1<n.ends.length/\0<=f.2/\aZ n f.1.toNat f.2.toNat ((v:Int),(i:Int)):=by
 have hv:v<n.ends.length:=by
  rcases Nat.lt_or_ge v n.ends.length with h1 | h1
  ·exact h1
  ·unfold aZ at h;rw[zDd,List.getElem?_eq_none h1]at h;simp at h
 have hi:=al h
 have hp:bT n.ends (v:Int) (i:Int)=true:=by
  unfold bT;rw[Bool.and_eq_true,bz,bz];simp only[Int.toNat_natCast];omega
 have he:dO n.ends (v:Int) (i:Int)=f:=by
  unfold dO;simp only[Int.toNat_natCast];exact ao h
 obtain⟨h1,h2⟩:=rt hn hp;rw[he]at h1 h2;unfold bT at h1;rw[Bool.and_eq_true,bz,bz]at h1;refine⟨hv,h1.1.1,by omega,h1.2.1,?_⟩
 have hl:f.2.toNat<(n.ends.getD f.1.toNat []).length:=by omega
 obtain⟨y,hy⟩:=aA _ _ hl;unfold dO at h2;rw[ao hy]at h2;unfold aZ;rw[hy,h2]
theorem jz {n:aj} {a b:Nat}:(b:Int)∈dW n (a:Int)↔∃(i:Nat) (f:Int×Int),aZ n a i f/\f.1=(b:Int):=by
 rw[l0];constructor
 ·rintro⟨j,q,h⟩;exact⟨j,_,h,rfl⟩
 ·rintro⟨i,f,h,e⟩;exact⟨i,f.2,by rw[<- e];exact h⟩
theorem bN {n:aj} {e:Ed}:e∈cj n↔∃(v i:Nat) (f:Int×Int),v<n.ends.length/\aZ n v i f/\ja v i f=true/\e=((v:Int),(i:Int),f.1,f.2):=by
 rw[Gr];constructor
 ·rintro⟨v,i,hv,hi,hk,rfl⟩;obtain⟨f,hf⟩:=aA _ _ hi;rw[ao hf]at hk ⊢;exact⟨v,i,f,hv,hf,hk,rfl⟩
 ·rintro⟨v,i,f,hv,hp,hk,rfl⟩;have Dz:(dA n v)[i]?=some f:=hp;refine⟨v,i,hv,al Dz,?_,?_⟩
  ·rw[ao Dz];exact hk
  ·rw[ao Dz]
theorem yC {v i:Nat} {f:Int×Int} (h1:0<=f.1) (h2:0<=f.2) (h:ja v i f=false):ja f.1.toNat f.2.toNat ((v:Int),(i:Int))=true/\ja v i f=false:=by
 refine⟨?_,h⟩
 unfold ja at h ⊢
 simp only[Bool.or_eq_false_iff,Bool.and_eq_false_iff,decide_eq_false_iff_not,beq_eq_false_iff_ne,ne_eq]at h;simp only[Bool.or_eq_true,Bool.and_eq_true,decide_eq_true_eq,beq_iff_eq];rw[Int.toNat_of_nonneg h1,Int.toNat_of_nonneg h2];omega
theorem Gv {v i:Nat} {f:Int×Int} (h1:0<=f.1) (h2:0<=f.2) (h:ja v i f=true) (h':ja f.1.toNat f.2.toNat ((v:Int),(i:Int))=true):f=((v:Int),(i:Int)):=by
 unfold ja at h h';simp only[Bool.or_eq_true,Bool.and_eq_true,decide_eq_true_eq,beq_iff_eq]at h h';rw[Int.toNat_of_nonneg h1,Int.toNat_of_nonneg h2]at h';obtain⟨a,b⟩:=f;simp only at h h' h1 h2
 rw[Prod.mk.injEq];omega
theorem JK {n:aj} (hn:ak n=true) {F:List Ed} (keep:Nat->Nat->Bool) (hF:∀e,e∈F↔e∈cj n/\keep e.1.toNat e.2.1.toNat=true)
  (hk:∀v i f,aZ n v i f->keep v i=keep f.1.toNat f.2.toNat) {a b:Nat} (R:Nat->Nat->Prop) (TX:∀a,R a a) (fw:∀ {a b c:Nat},R a b->(∃i f,aZ n b i f/\keep b i=true/\f.1=(c:Int))->R a c)
  (ZQ:∀ {a b:Nat},R a b->∀(M:Nat->Prop),M a->(∀b c:Nat,M b->(∃i f,aZ n b i f/\keep b i=true/\f.1=(c:Int))->M c)->M b):
  jI (F.map fun e=>(e.1.toNat,e.2.2.1.toNat)) a b↔R a b:=by
 have one:∀ {x y:Nat},(x,y)∈(F.map fun e=>(e.1.toNat,e.2.2.1.toNat))↔∃i f,aZ n x i f/\keep x i=true/\f.1=(y:Int)/\ja x i f=true:=by
  intro x y;rw[List.mem_map];constructor
  ·rintro⟨e,he,CH⟩;obtain⟨h1,h2⟩:=(hF e).1 he;obtain⟨v,i,f,hv,hp,yD,rfl⟩:=bN.1 h1;simp only[Int.toNat_natCast,Prod.mk.injEq]at CH h2;obtain⟨rfl,rfl⟩:=CH;exact⟨i,f,hp,h2,(Int.toNat_of_nonneg (cY hn hp).2.1).symm,yD⟩
  ·rintro⟨i,f,hp,h2,hf,yD⟩;refine⟨((x:Int),(i:Int),f.1,f.2),(hF _).2 ⟨bN.2 ⟨x,i,f,(cY hn hp).1,hp,yD,rfl⟩,by simpa using h2⟩,?_⟩
   simp[hf]
 constructor
 ·intro h
  induction h with
  | refl=>exact TX _
  | @step b c _ hs ih=>
   refine fw ih ?_;rcases hs with hs | hs
   ·obtain⟨i,f,h1,h2,h3,_⟩:=one.1 hs;exact⟨i,f,h1,h2,h3⟩
   ·obtain⟨i,f,h1,h2,h3,_⟩:=one.1 hs;obtain⟨g1,g2,g3,g4,g5⟩:=cY hn h1;rw[h3,Int.toNat_natCast]at g5;refine⟨f.2.toNat,_,g5,?_,rfl⟩
    have:=hk _ _ _ h1
    rw[h3,Int.toNat_natCast]at this
    rw[<- this];exact h2
 ·intro h;refine ZQ h (fun z=>jI _ a z) .refl ?_
  rintro x y hx ⟨i,f,h1,h2,h3⟩;refine hx.step ?_
  by_cases yD:ja x i f=true
  ·exact .inl (one.2 ⟨i,f,h1,h2,h3,yD⟩)
  ·obtain⟨g1,g2,g3,g4,g5⟩:=cY hn h1;have JL:=(yC g2 g4 (by simpa using yD)).1;have DA:=hk _ _ _ h1;rw[h3,Int.toNat_natCast]at g5 JL DA
   exact .inr (one.2 ⟨f.2.toNat,_,g5,by rw[<- DA];exact h2,rfl,JL⟩)
theorem Fq {n:aj} (hn:ak n=true) {a b:Nat}:jI (JJ n) a b↔hZ n a b:=by
 refine JK hn (F:=cj n) (fun _ _=>true) (by simp) (by simp) (hZ n) (fun _=>.refl) ?_ ?_
 ·rintro a b c h ⟨i,f,h1,_,h3⟩;exact h.step (jz.2 ⟨i,f,h1,h3⟩)
 ·intro a b h M h0 hM
  induction h with
  | refl=>exact h0
  | step _ hs ih=>
   obtain⟨i,f,h1,h3⟩:=jz.1 hs;exact hM _ _ ih ⟨i,f,h1,rfl,h3⟩
theorem DB {n:aj} (hn:ak n=true):Dw (JJ n) n.ends.length:=by
 intro e he;obtain⟨x,hx,rfl⟩:=List.mem_map.1 he;obtain⟨v,i,f,hv,hp,_,rfl⟩:=bN.1 hx
 have:=cY hn hp
 simp only[Int.toNat_natCast];omega
def yE (n:aj) (k:Nat):Nat:=(List.range k).countP fun v=>am n v==v
open Classical in
theorem A7 {n:aj} (hn:ak n=true):yE n n.ends.length=jb (JJ n) n.ends.length:=by
 unfold yE jb
 apply List.countP_congr
 intro v hv;have SA:=List.mem_range.1 hv;rw[decide_eq_true_eq];obtain⟨l1,l2,l3⟩:=bA hn SA;constructor
 ·intro h u hu
  have:=l3 u ((Fq hn).1 hu)
  simp only[beq_iff_eq]at h;omega
 ·intro h;have h1:=h _ ((Fq hn).2 l1);have h2:=An hn SA;simp only[beq_iff_eq];omega
theorem A_ (n:aj):(cj n).Nodup:=by
 unfold cj ey
 unfold List.Nodup;rw[List.pairwise_flatMap]
 have one:∀v es k e,e∈my v es k->e.1=(v:Int):=by
  intro v es k e he;unfold my at he;obtain⟨j,_,hj⟩:=List.mem_flatMap.1 he;unfold qu at hj
  split at hj
  ·rw[List.mem_singleton.1 hj]
  ·simp at hj
 constructor
 ·intro v _;unfold my;rw[List.pairwise_flatMap];constructor
  ·intro j _;unfold qu
   split <;> simp
  ·refine List.Pairwise.imp ?_ (List.pairwise_lt_range (n:=(dA n v).length));intro i j Sr x hx y hy e;subst e;unfold qu at hx hy
   split at hx
   ·split at hy
    ·have a:=List.mem_singleton.1 hx;have b:=List.mem_singleton.1 hy;rw[a]at b;simp only[Prod.mk.injEq]at b;omega
    ·simp at hy
   ·simp at hx
 ·refine List.Pairwise.imp ?_ (List.pairwise_lt_range (n:=n.ends.length));intro u v huv x hx y hy e;subst e;have a:=one _ _ _ _ hx;have b:=one _ _ _ _ hy;omega
def h_ (keep:Nat->Nat->Bool) (v k:Nat):Nat:=((List.range k).filter (keep v)).length
def eR (n:aj) (keep:Nat->Nat->Bool) (v k:Nat):List (Int×Int):=((List.range k).filter (keep v)).map fun i=>(((dA n v).getD i (0,0)).1,((h_ keep ((dA n v).getD i (0,0)).1.toNat ((dA n v).getD i (0,0)).2.toNat:Nat):Int))
def jh (n:aj) (keep:Nat->Nat->Bool) (v:Nat):List (Int×Int):=eR n keep v (dA n v).length
def ij (n:aj) (keep:Nat->Nat->Bool):aj:={ n with ends:=(List.range n.ends.length).map (jh n keep) }
theorem nM (keep:Nat->Nat->Bool) (v k:Nat):h_ keep v (k+1)=h_ keep v k+(if keep v k then 1 else 0):=by
 unfold h_;rw[List.range_succ,List.filter_append,List.length_append]
 cases h:keep v k <;> simp[h]
theorem l9 (n:aj) (keep:Nat->Nat->Bool) (v k:Nat):eR n keep v (k+1)=eR n keep v k++(if keep v k then [(((dA n v).getD k (0,0)).1,((h_ keep ((dA n v).getD k (0,0)).1.toNat ((dA n v).getD k (0,0)).2.toNat:Nat):Int))] else []):=by
 unfold eR;rw[List.range_succ,List.filter_append,List.map_append]
 cases h:keep v k <;> simp[h]
theorem iw (n:aj) (keep:Nat->Nat->Bool) (v k:Nat):(eR n keep v k).length=h_ keep v k:=by simp[eR,h_]
theorem Gw (keep:Nat->Nat->Bool) (v:Nat) {j k:Nat} (h:j<=k):h_ keep v j<=h_ keep v k:=by
 induction k with
 | zero => obtain rfl : j = 0 := by omega
           exact Nat.le_refl _
 | succ k ih=>
  rcases Nat.lt_or_ge k j with h1 | h1
  ·obtain rfl:j=k+1:=by omega
   exact Nat.le_refl _
  ·rw[nM];have:=ih h1;omega
theorem MN (keep:Nat->Nat->Bool) (v:Nat) {j k:Nat} (h:j<k) (hk:keep v j=true):h_ keep v j<h_ keep v k:=by
 have h1:=Gw keep v (j:=j+1) (k:=k) (by omega);rw[nM,hk]at h1;simp at h1
 omega
theorem yF (keep:Nat->Nat->Bool) (v k:Nat):h_ keep v k<=k:=by
 unfold h_
 have:=List.length_filter_le (keep v) (List.range k)
 simpa using this
theorem Gx (n:aj) (keep:Nat->Nat->Bool) (v:Nat):∀(k j:Nat),j<k->keep v j=true->(eR n keep v k)[h_ keep v j]?=some (((dA n v).getD j (0,0)).1,((h_ keep ((dA n v).getD j (0,0)).1.toNat ((dA n v).getD j (0,0)).2.toNat:Nat):Int)):=by
 intro k
 induction k with
 | zero=>intro j hj;omega
 | succ k ih=>
  intro j hj hk;rw[l9];rcases Nat.lt_or_ge j k with h | h
  ·rw[List.getElem?_append_left (by rw[iw];exact MN keep v h hk)]
   exact ih j h hk
  ·obtain rfl:j=k:=by omega
   rw[List.getElem?_append_right (by rw[iw];exact Nat.le_refl _),iw,hk]
   simp
theorem DC (n:aj) (keep:Nat->Nat->Bool) (v:Nat):∀(k m:Nat) (f:Int×Int),(eR n keep v k)[m]?=some f->∃j,j<k/\keep v j=true/\m=h_ keep v j/\f=(((dA n v).getD j (0,0)).1,((h_ keep ((dA n v).getD j (0,0)).1.toNat ((dA n v).getD j (0,0)).2.toNat:Nat):Int)):=by
 intro k
 induction k with
 | zero=>intro m f h;simp[eR]at h
 | succ k ih=>
  intro m f h;rw[l9]at h;rcases Nat.lt_or_ge m (eR n keep v k).length with hm | hm
  ·rw[List.getElem?_append_left hm]at h;obtain⟨j,a,b⟩:=ih m f h;exact⟨j,by omega,b⟩
  ·rw[List.getElem?_append_right hm]at h
   cases hk:keep v k with
   | false=>rw[hk]at h;simp at h
   | true=>
    rw[hk]at h;simp only[if_true]at h
    have:=al h
    simp only[List.length_cons,List.length_nil]at this;rw[iw]at hm this;have uf:m-h_ keep v k=0:=by omega
    rw[iw,uf]at h;simp only[List.getElem?_cons_zero,Option.some.injEq]at h;exact⟨k,by omega,hk,by omega,h.symm⟩
theorem th (n:aj) (keep:Nat->Nat->Bool) {v:Nat} (hv:v<n.ends.length):(ij n keep).ends.getD v []=jh n keep v:=by
 rw[zDd];simp[ij,hv]
theorem mR {n:aj} (hn:ak n=true) (keep:Nat->Nat->Bool) {v m:Nat} {g:Int×Int}:aZ (ij n keep) v m g↔∃j f,aZ n v j f/\keep v j=true/\m=h_ keep v j/\g=(f.1,((h_ keep f.1.toNat f.2.toNat:Nat):Int)):=by
 constructor
 ·intro h
  have hv:v<n.ends.length:=by
   rcases Nat.lt_or_ge v n.ends.length with h1 | h1
   ·exact h1
   ·unfold aZ at h;have hl:(ij n keep).ends.length=n.ends.length:=by simp[ij]
    rw[zDd,List.getElem?_eq_none (l:=(ij n keep).ends) (by rw[hl];exact h1)]at h
    simp at h
  unfold aZ at h;rw[th n keep hv]at h;obtain⟨j,h1,h2,h3,h4⟩:=DC n keep v _ m g h;obtain⟨f,hf⟩:=aA _ _ h1;rw[ao hf]at h4;exact⟨j,f,hf,h2,h3,h4⟩
 ·rintro⟨j,f,hp,hk,rfl,rfl⟩;have hv:=(cY hn hp).1;have Dz:(dA n v)[j]?=some f:=hp;unfold aZ;rw[th n keep hv]
  have:=Gx n keep v (dA n v).length j (al Dz) hk
  rw[ao Dz]at this;exact this
theorem rE {n:aj} (hn:ak n=true) (keep:Nat->Nat->Bool) (hk:∀v i f,aZ n v i f->keep v i=keep f.1.toNat f.2.toNat):ak (ij n keep)=true:=by
 have hl:(ij n keep).ends.length=n.ends.length:=by simp[ij]
 have OW:=hn
 unfold ak at hn ⊢
 rw[hl];simp only[Bool.and_eq_true]at hn ⊢
 refine⟨hn.1,?_⟩;rw[List.all_eq_true];intro v hv;have SA:=List.mem_range.1 hv;have h0:=List.all_eq_true.1 hn.2 v hv
 unfold fZ at h0 ⊢
 rw[th n keep SA];simp only[Bool.and_eq_true,decide_eq_true_eq]at h0 ⊢
 constructor
 ·unfold jh;rw[iw]
  have:=yF keep v (dA n v).length
  have h1:=h0.1
  unfold dA at this ⊢
  omega
 ·rw[List.all_eq_true];intro m hm;have Yg:=List.mem_range.1 hm;obtain⟨g,hg⟩:=aA _ _ Yg;rw[ao hg]
  have hpg:aZ (ij n keep) v m g:=by unfold aZ;rw[th n keep SA];exact hg
  obtain⟨j,f,hp,hkj,rfl,rfl⟩:=(mR OW keep).1 hpg;obtain⟨g1,g2,g3,g4,g5⟩:=cY OW hp
  have TY:keep f.1.toNat f.2.toNat=true:=by rw[<- hk v j f hp];exact hkj
  have oG:aZ (ij n keep) f.1.toNat (h_ keep f.1.toNat f.2.toNat) ((v:Int),((h_ keep v j:Nat):Int)):=(mR OW keep).2 ⟨f.2.toNat,_,g5,TY,rfl,by simp⟩
  have az:=al oG
  unfold iM bT pZ
  simp only[Int.toNat_natCast,Bool.and_eq_true,bz,decide_eq_true_eq];rw[hl];exact⟨⟨by omega,by omega⟩,ao oG⟩
theorem MO {n:aj} (hn:ak n=true) (keep:Nat->Nat->Bool) (hk:∀v i f,aZ n v i f->keep v i=keep f.1.toNat f.2.toNat) {F:List Ed} (hF:∀e,e∈F↔e∈cj n/\keep e.1.toNat e.2.1.toNat=true) {a b:Nat}:
  jI (F.map fun e=>(e.1.toNat,e.2.2.1.toNat)) a b↔hZ (ij n keep) a b:=by
 refine JK hn keep hF hk (hZ (ij n keep)) (fun _=>.refl) ?_ ?_
 ·rintro a b c h ⟨i,f,h1,h2,h3⟩;exact h.step (jz.2 ⟨_,_,(mR hn keep).2 ⟨i,f,h1,h2,rfl,rfl⟩,h3⟩)
 ·intro a b h M h0 hM
  induction h with
  | refl=>exact h0
  | step _ hs ih=>
   obtain⟨m,g,h1,h3⟩:=jz.1 hs;obtain⟨i,f,k1,k2,k3,k4⟩:=(mR hn keep).1 h1;exact hM _ _ ih ⟨i,f,k1,k2,by rw[<- h3,k4]⟩
def fk (v i:Nat) (f:Int×Int) (x j:Nat):Bool:=!((x==v&&j==i)||(x==f.1.toNat&&j==f.2.toNat))
theorem kc {n:aj} (hn:ak n=true) {v i:Nat} {f:Int×Int} (hp:aZ n v i f):∀x j g,aZ n x j g->fk v i f x j=fk v i f g.1.toNat g.2.toNat:=by
 intro x j g hg;obtain⟨g1,g2,g3,g4,g5⟩:=cY hn hg;obtain⟨f1,f2,f3,f4,f5⟩:=cY hn hp
 have TZ:x=v->j=i->g=f:=by
  rintro rfl rfl;unfold aZ at hg hp;rw[hg]at hp;exact Option.some.inj hp
 have T1:x=f.1.toNat->j=f.2.toNat->g=((v:Int),(i:Int)):=by
  rintro rfl rfl;unfold aZ at hg f5;rw[hg]at f5;exact Option.some.inj f5
 have T6:g.1.toNat=v->g.2.toNat=i->x=f.1.toNat/\j=f.2.toNat:=by
  intro h1 h2;rw[h1,h2]at g5;unfold aZ at g5 hp;rw[g5]at hp
  have:=Option.some.inj hp
  rw[<- this];simp
 have T8:g.1.toNat=f.1.toNat->g.2.toNat=f.2.toNat->x=v/\j=i:=by
  intro h1 h2;rw[h1,h2]at g5;unfold aZ at g5 f5;rw[g5]at f5
  have:=Option.some.inj f5
  simp only[Prod.mk.injEq]at this;omega
 unfold fk;congr 1
 rw[Bool.eq_iff_iff];simp only[Bool.or_eq_true,Bool.and_eq_true,beq_iff_eq];constructor
 ·rintro(⟨h1,h2⟩ | ⟨h1,h2⟩)
  ·rw[TZ h1 h2];exact .inr ⟨rfl,rfl⟩
  ·rw[T1 h1 h2];exact .inl ⟨by simp,by simp⟩
 ·rintro(⟨h1,h2⟩ | ⟨h1,h2⟩)
  ·exact .inr (T6 h1 h2)
  ·exact .inl (T8 h1 h2)
theorem ug {n:aj} (hn:ak n=true):((cj n).length+yE n n.ends.length=n.ends.length)↔∀v i f,aZ n v i f->¬hZ (ij n (fk v i f)) v f.1.toNat:=by
 have h0:=Dy (DB hn);have IL:(JJ n).length=(cj n).length:=by simp[JJ]
 rw[IL,<- A7 hn]at h0;rw[Nat.add_comm,h0]
 have Qs:∀(k:Nat) (e:Ed),(cj n)[k]?=some e->∀x,x∈(cj n).eraseIdx k↔x∈cj n/\x≠e:=by
  intro k e he x;have hnd:=A_ n;have h1:=oM he;obtain⟨hl,hee⟩:=List.getElem?_eq_some_iff.1 he
  have h2:e∉(cj n).eraseIdx k:=by
   rw[List.eraseIdx_eq_take_drop_succ];have e1:cj n=(cj n).take k++e::(cj n).drop (k+1):=by rw[<- hee,<- List.drop_eq_getElem_cons hl,List.take_append_drop]
   rw[e1]at hnd;have h3:=List.nodup_append.1 hnd;have h4:=List.nodup_cons.1 h3.2.1;intro hm;rcases List.mem_append.1 hm with hm | hm
   ·exact h3.2.2 e hm e (by simp) rfl
   ·exact h4.1 hm
  constructor
  ·intro hx;exact⟨(h1 x).2 (List.mem_cons_of_mem _ hx),fun e2=>h2 (e2 ▸ hx)⟩
  ·rintro⟨hx,iJ⟩;rcases List.mem_cons.1 ((h1 x).1 hx)with e2 | e2
   ·exact absurd e2 iJ
   ·exact e2
 have tG:∀(k v i:Nat) (f:Int×Int),aZ n v i f->ja v i f=true->(cj n)[k]?=some ((v:Int),(i:Int),f.1,f.2)->∀a b,jI ((JJ n).eraseIdx k) a b↔hZ (ij n (fk v i f)) a b:=by
  intro k v i f hp yD he a b
  have:(JJ n).eraseIdx k=((cj n).eraseIdx k).map fun e=>(e.1.toNat,e.2.2.1.toNat):=by
   unfold JJ;rw[List.eraseIdx_eq_take_drop_succ,List.eraseIdx_eq_take_drop_succ,List.map_append,List.map_take,List.map_drop]
  rw[this];refine MO hn _ (kc hn hp) ?_;intro e;rw[Qs k _ he e];apply and_congr_right
  intro hm;obtain⟨x,j,g,hx,zV,ZR,rfl⟩:=bN.1 hm;obtain⟨f1,f2,f3,f4,f5⟩:=cY hn hp;simp only[Int.toNat_natCast,fk,Bool.not_eq_true',Bool.or_eq_false_iff,Bool.and_eq_false_iff,beq_eq_false_iff_ne,ne_eq,Prod.mk.injEq];constructor
  ·intro iJ;constructor
   ·rcases Nat.lt_trichotomy x v with h | h | h
    ·exact .inl (by omega)
    ·subst h;refine .inr fun nH=>?_
     subst nH;unfold aZ at zV hp;rw[zV]at hp;have hgf:=Option.some.inj hp;subst hgf;exact iJ ⟨rfl,rfl,rfl,rfl⟩
    ·exact .inl (by omega)
   ·by_cases h1:x=f.1.toNat
    ·refine .inr fun h2=>?_
     subst h1 h2;unfold aZ at zV f5;rw[zV]at f5;have hg:=Option.some.inj f5;subst hg;have hff:=Gv f2 f4 yD ZR;subst hff;simp at iJ
    ·exact .inl h1
  ·rintro⟨h1,_⟩ ⟨q1,q2,_⟩
   rcases h1 with h1 | h1 <;> omega
 constructor
 ·intro hb v i f hp hr;obtain⟨f1,f2,f3,f4,f5⟩:=cY hn hp
  by_cases yD:ja v i f=true
  ·obtain⟨k,hk⟩:=List.mem_iff_getElem?.1 (bN.2 ⟨v,i,f,f1,hp,yD,rfl⟩);refine hb k (v,f.1.toNat) ?_ ((tG k v i f hp yD hk _ _).2 hr);unfold JJ;rw[List.getElem?_map,hk];simp
  ·have JL:=(yC f2 f4 (by simpa using yD)).1;obtain⟨k,hk⟩:=List.mem_iff_getElem?.1 (bN.2 ⟨f.1.toNat,f.2.toNat,_,by omega,f5,JL,rfl⟩)
   refine hb k (f.1.toNat,v) ?_ ((tG k _ _ _ f5 JL hk _ _).2 ?_)
   ·unfold JJ;rw[List.getElem?_map,hk];simp only[Option.map_some,Int.toNat_natCast]
   ·have hx:fk f.1.toNat f.2.toNat ((v:Int),(i:Int))=fk v i f:=by
     funext x j
     unfold fk;simp only[Int.toNat_natCast];rw[Bool.or_comm]
    rw[hx];exact hZ.symm (rE hn _ (kc hn hp)) (by simpa[ij]using f1) hr
 ·intro hb k e he hc;unfold JJ at he;rw[List.getElem?_map]at he
  cases hk:(cj n)[k]? with
  | none=>rw[hk]at he;simp at he
  | some x=>
   rw[hk]at he;obtain⟨v,i,f,hv,hp,yD,rfl⟩:=bN.1 (List.mem_of_getElem? hk);simp only[Option.map_some,Option.some.injEq,Int.toNat_natCast]at he;subst he;exact hb v i f hp ((tG k v i f hp yD hk _ _).1 hc)
def eK (n:aj) (v:Nat) (r:Int) (k:Nat):List Int:=((List.range k).filter fun w=>fF 0 r ((bC n v).getD w 0)).map Int.ofNat
theorem sc {n:aj} {v:Nat} {r:Int} {k:Nat} {d:Int} (h:(bC n v)[k]?=some d):eK n v r (k+1)=if fF 0 r d then eK n v r k++[(k:Int)] else eK n v r k:=by
 unfold eK;rw[List.range_succ,List.filter_append,List.map_append];have e:(bC n v).getD k 0=d:=ao h
 cases hb:fF 0 r d <;> simp only[List.filter_cons,List.filter_nil,e,hb] <;> simp
theorem uh (n:aj) (v:Nat) (r:Int) (k:Nat):(eK n v r k).length<=k:=by
 unfold eK;rw[List.length_map];exact Nat.le_trans (List.length_filter_le _ _) (by simp)
theorem qx {n:aj} (hn:ak n=true) {v w:Nat} (hv:v<n.ends.length) (hw:w<n.ends.length) : -1<=(bC n v).getD w 0/\(bC n v).getD w 0<n.ends.length:=by
 have hl:(bC n v).length=n.ends.length:=j2 hn _ _ _ (BI.start hv);refine Jn hn (n.ends.length+1) _ 0 (BI.start hv) _ ?_;show(bC n v).getD w 0∈bC n v
 rw[zDd,List.getElem?_eq_getElem (by omega)];exact List.getElem_mem _
theorem uj {n:aj} (hn:ak n=true) {v:Nat} (hv:v<n.ends.length):(eK n v 40 n.ends.length)[0]?=some (am n v:Int):=by
 have e:((List.range n.ends.length).filter fun w=>fF 0 40 ((bC n v).getD w 0))=(List.range n.ends.length).filter fun w=>decide (0<=(bC n v).getD w 0):=by
  apply List.filter_congr
  intro w hw
  have:=qx hn hv (List.mem_range.1 hw)
  have:=(aB hn).2
  rw[Bool.eq_iff_iff,bz,decide_eq_true_eq];omega
 have hs:=bA hn hv;unfold eK;rw[e,List.getElem?_map]
 have:((List.range n.ends.length).filter fun w=>decide (0<=(bC n v).getD w 0))[0]?=some (am n v):=by
  rw[<- List.head?_eq_getElem?,List.head?_filter];unfold am
  cases h:(List.range n.ends.length).find? fun w=>decide (0<=(bC n v).getD w 0) with
  | none=>
   have:=List.find?_eq_none.1 h v (List.mem_range.2 hv)
   exact absurd (decide_eq_true ((gH hn hv hv).2 hZ.refl)) this
  | some u=>rfl
 rw[this];rfl
theorem DD (ve vi vn:Value) (n:aj) (v:Nat) (r:Int) (w:World) (h:aC w ve vi vn n) (hn:ak n=true) (hv:v<n.ends.length):
  Calls Tryz.prog 210 #[.agg #[ve,vi,vn],.int .i64 v,.int .i64 r] w fun e w'=>∃u,e=.returned u/\Own w' w.heap.size u (eK n v r n.ends.length)/\Below w.heap.size w w':=by
 have gT:=aB hn;have ul:=gT.1;have uq:=gT.2;have Hn:=zh hn
 obtain⟨w0,A,c,A2,c2,A3,c3,rfl,rfl,rfl,fg,hm,f8,fP,HA,bS,aT,H,dP,d9,dV⟩:=zB h;clear h
 have aU:ab w0 w0:=aa _;clear hn gT
 go_enter Tryz.func210,Tryz.ntmps210
 go_upto_region 1 with(fail);rw[<- bS.out];go_wp2_with fail;refine(iv _ _ _ n v w0 H.out Hn.out hv).mono ?_;obtain⟨ds,xF⟩:∃ds,ds=bC n v:=⟨_,rfl⟩
 rw[<- xF];rintro e w2 ⟨u2,rfl,cZ,bx⟩
 have zF:ds.length=n.ends.length:=by rw[xF];exact j2 Hn.out _ _ _ (BI.start hv)
 obtain⟨gd,cd,rfl⟩:∃gd cd,u2=.slice (some ⟨gd,0,none⟩) n.ends.length cd:=by
  rcases cZ.cases with⟨-,e1⟩ | ⟨gd,cd,rfl,kE,l7⟩
  ·have:=congrArg List.length e1;rw[List.length_nil]at this;omega
  ·exact⟨gd,cd,by rw[zF]⟩
 have fG:=zh cZ;have cW:=zh (aU.trans bx);have T_:=zh xF;have Qt:=zh zF;clear cZ bx xF zF aU;go_wp2
 go_loopw [7,14] (fun u i wr=>∃k:Nat,k<=n.ends.length/\i=.int .i64 k/\Own wr w2.heap.size u (eK n v r k)/\ab w2 wr) (fun _ i _=>n.ends.length-(intOf i).toNat)
 case atStart=>exact⟨0,Nat.zero_le _,rfl,by simpa[eK]using bU _ w2.heap.size,aa _⟩
 case round=>
  obtain⟨k,hk,rfl,ho,bG⟩:=hrel;have Ho:=zh ho;have Hs:=zh bG;clear ho bG
  by_cases az:k<n.ends.length
  ·have m3:IntKind.i64.wrap ((k:Int)+1)=(k:Int)+1:=aH _ (by omega) (by omega)
   obtain⟨d,hd⟩:=aA ds k (by rw[Qt.out];exact az)
   have JM:=(fG.out.since Hs.out).cell hd
   have kG:=zh (sc (r:=r) (show(bC n v)[k]?=some d by rw[<- T_.out];exact hd))
   have dz:Hid ((eK n v r k).length+1<=17592186044416):=by show _<=_;have:=uh n v r k;omega
   clear hd;go_upto_region 5 with(fail);go_wp2_with fail;refine(jK _ _ _ _).mono ?_;rintro e w' ⟨rfl,rfl⟩;cases hb:fF 0 r d
   ·rw[hb]at kG;clear JM;go_wp2;go_roundw
    case rel=>exact⟨k+1,by omega,by first | rfl | go_num,by rw[kG.out];exact Ho.out,Hs.out⟩
    case measure=>simp[intOf];omega
   ·rw[hb]at kG;clear JM
    go_wp2_with (at_builtin;refine c_ rfl _ _ rfl rfl (Ho.out.since (ad _ (aa _))) wr.heap.size k rfl (by simp[go_sem]) dz.out (ad _ Hs.out) ?_;intro g cc w3 ex jJ)
    have jy:=zh ex;have gZ:=zh jJ;clear ex jJ;go_wp2;go_roundw
    case rel=>exact⟨k+1,by omega,by first | rfl | go_num,by rw[kG.out,if_pos trivial];exact jy.out,gZ.out⟩
    case measure=>simp[intOf];omega
  ·obtain rfl:k=n.ends.length:=by omega
   clear hk az;go_wp2;go_ret;exact⟨_,rfl,Ho.out.mono (Nat.le_trans aT.out.size cW.out.below.size),ab.after aT.out (cW.out.after Hs.out)⟩
def fC (n:aj) (v:Nat):Int:=(bC n (am n v)).getD v 0%2
def lf (n:aj):List Int:=(List.range n.ends.length).map (fC n)
theorem Ba (n:aj):(lf n).length=n.ends.length:=by simp[lf]
theorem mS {n:aj} {v:Nat} (hv:v<n.ends.length):(lf n)[v]?=some (fC n v):=by
 unfold lf;rw[List.getElem?_map,List.getElem?_range hv];rfl
theorem Gy (n:aj) (k:Nat):(List.range (k+1)).map (fC n)=(List.range k).map (fC n)++[fC n k]:=by rw[List.range_succ,List.map_append];rfl
theorem dX {n:aj} (hn:ak n=true) {v:Nat} (hv:v<n.ends.length):am n v<n.ends.length:=(bA hn hv).2.1
theorem ut {n:aj} (hn:ak n=true) {v:Nat} (hv:v<n.ends.length):0<=(bC n (am n v)).getD v 0/\(bC n (am n v)).getD v 0<n.ends.length:=
 ⟨(gH hn (dX hn hv) hv).2 ((rx hn (dX hn hv) hv (l4 hn hv)).2 rfl),(qx hn (dX hn hv) hv).2⟩
theorem Fr {n:aj} (hn:ak n=true) {v:Nat} (hv:v<n.ends.length) {d:Int} (hd:(bC n (am n v))[v]?=some d):Int.tmod d 2=fC n v:=by
 have h:=ut hn hv;unfold fC;rw[ao hd]at h ⊢;exact Int.tmod_eq_emod_of_nonneg h.1
def l_ (n:aj):Ed->Bool:=fun e=>(lf n).getD e.1.toNat 0==(lf n).getD e.2.2.1.toNat 0
def ke (n:aj) (v:Nat):Int->Bool:=fun w=>fC n v==(lf n).getD w.toNat 0
def kK (n:aj):Bool:=!(cj n).any (l_ n)
theorem fm {n:aj} {v:Nat} (hv:v<n.ends.length):(lf n).getD v 0=fC n v:=ao (mS hv)
theorem nN {n:aj} (hn:ak n=true):kK n=(List.range n.ends.length).all fun v => !(dW n (v:Int)).any (ke n v):=by
 unfold kK;rw[Bool.eq_iff_iff];simp only[Bool.not_eq_true',List.any_eq_false,List.all_eq_true,List.mem_range];constructor
 ·intro h v hv x hx hc
  rw[show x=((x.toNat:Nat):Int)by have:=lZ hn (cur:=(v:Int)) (by omega) x hx;omega]at hx
  obtain⟨i,f,hp,hf⟩:=jz.1 hx;obtain⟨p1,p2,p3,p4,p5⟩:=cY hn hp;have hxf:x.toNat=f.1.toNat:=by omega
  unfold ke at hc;rw[hxf,fm (by omega)]at hc
  by_cases hk:ja v i f=true
  ·refine h _ (bN.2 ⟨v,i,f,hv,hp,hk,rfl⟩) ?_;unfold l_;simp only[Int.toNat_natCast];rw[fm hv,fm (by omega)];exact hc
  ·have nO:=(yC p2 p4 (by simpa using hk)).1;refine h _ (bN.2 ⟨f.1.toNat,f.2.toNat,((v:Int),(i:Int)),by omega,p5,nO,rfl⟩) ?_
   unfold l_;simp only[Int.toNat_natCast];rw[fm hv,fm (by omega)];simp only[beq_iff_eq]at hc ⊢
   exact hc.symm
 ·intro h e he hc;obtain⟨v,i,f,hv,hp,_,rfl⟩:=bN.1 he;obtain⟨p1,p2,p3,p4,p5⟩:=cY hn hp;refine h v hv f.1 ?_ ?_
  ·rw[show f.1=((f.1.toNat:Nat):Int)by omega]
   exact jz.2 ⟨i,f,hp,by omega⟩
  ·unfold ke;unfold l_ at hc;simp only[Int.toNat_natCast]at hc;rw[fm hv]at hc;exact hc
def kg (n:aj) (l:List Int) (v:Nat):Bool:=!((aR l (n.ends.getD v [])).contains (l.getD v 0))
def ik (n:aj):Nat->List Int->Int->Nat->Option (Option (List Int))
 | 0,_,_,_=>none
 | f+1,l,v,s=>
  if (l.length:Int)<=v then some (some l)
  else if v<0 then some none
  else if l.getD v.toNat 0=2 then ik n f (l.set v.toNat (-1)) (v-1) s
  else if s=200000 then none
  else ik n f (l.set v.toNat (l.getD v.toNat 0+1)) (if kg n (l.set v.toNat (l.getD v.toNat 0+1)) v.toNat then v+1 else v) (s+1)
def wk (v:Int) (s:Nat):Nat:=(200000-s)*2+(v+1).toNat
structure wl (n:aj) (l:List Int) (v:Int) (s:Nat) (f:Nat):Prop where
 len:l.length=n.ends.length
 rng:∀x∈l,-1<=x/\x<=2
 lo : -1<=v
 hi:v<=(n.ends.length:Int)
 st:s<=200000
 fu:wk v s<f
theorem Fs {l:List Int} {k:Nat} {y:Int} (h:∀x∈l,-1<=x/\x<=2) (hy : -1<=y/\y<=2):∀x∈l.set k y,-1<=x/\x<=2:=fun x hx=>by
 rcases List.mem_or_eq_of_mem_set hx with hx | rfl
 ·exact h x hx
 ·exact hy
theorem MP {n:aj} {l:List Int} {v:Int} {s f:Nat} (h:wl n l v s f) (hv:(n.ends.length:Int)<=v):ik n f l v s=some (some l):=by
 obtain⟨g,rfl⟩:∃g,f=g+1:=⟨f-1,by have:=h.fu;omega⟩
 unfold ik
 rw[if_pos (by rw[h.len];exact hv)]
theorem MQ {n:aj} {l:List Int} {v:Int} {s f:Nat} (h:wl n l v s f) (hl:v<(n.ends.length:Int)) (hv:v<0):ik n f l v s=some none:=by
 obtain⟨g,rfl⟩:∃g,f=g+1:=⟨f-1,by have:=h.fu;omega⟩
 unfold ik
 rw[if_neg (by rw[h.len];omega),if_pos hv]
theorem MR {n:aj} {l:List Int} {k s f:Nat} (h:wl n l (k:Int) s (f+1)) (hl:k<n.ends.length) (hx:l[k]?=some 2):ik n (f+1) l (k:Int) s=ik n f (l.set k (-1)) ((k:Int)-1) s/\wl n (l.set k (-1)) ((k:Int)-1) s f:=by
 constructor
 ·conv=>lhs;unfold ik
  rw[if_neg (by rw[h.len];omega),if_neg (by omega),Int.toNat_natCast,ao hx,if_pos rfl]
 ·have h1:=h.fu;unfold wk at h1
  exact⟨by rw[List.length_set];exact h.len,Fs h.rng (by omega),by omega,by omega,h.st,by unfold wk;omega⟩
theorem MS {n:aj} {l:List Int} {k f:Nat} {x:Int} (h:wl n l (k:Int) 200000 (f+1)) (hl:k<n.ends.length) (hx:l[k]?=some x) (h2:x≠2):ik n (f+1) l (k:Int) 200000=none:=by
 unfold ik
 rw[if_neg (by rw[h.len];omega),if_neg (by omega),Int.toNat_natCast,ao hx,if_neg h2,if_pos rfl]
theorem Ua {n:aj} {l:List Int} {k s f:Nat} {x:Int} (h:wl n l (k:Int) s (f+1)) (hl:k<n.ends.length) (hx:l[k]?=some x) (h2:x≠2) (hs:s≠200000):
  ik n (f+1) l (k:Int) s=ik n f (l.set k (x+1)) (if kg n (l.set k (x+1)) k then (k:Int)+1 else (k:Int)) (s+1)/\wl n (l.set k (x+1)) (if kg n (l.set k (x+1)) k then (k:Int)+1 else (k:Int)) (s+1) f:=by
 have hr:=h.rng x (List.mem_of_getElem? hx);constructor
 ·conv=>lhs;unfold ik
  rw[if_neg (by rw[h.len];omega),if_neg (by omega),Int.toNat_natCast,ao hx,if_neg h2,if_neg hs]
 ·have h1:=h.fu;have h3:=h.st;unfold wk at h1
  refine⟨by rw[List.length_set];exact h.len,Fs h.rng (by omega),?_,?_,by omega,?_⟩
  ·split <;> omega
  ·split <;> omega
  ·unfold wk;split <;> omega
theorem JN {n:aj}:wl n (List.replicate n.ends.length (-1)) 0 0 400002:=⟨by simp,fun x hx=>by have:=(List.mem_replicate.1 hx).2;omega,by omega,by omega,by omega,by unfold wk;omega⟩
theorem MT {n:aj} {l:List Int} {v:Int} {s f:Nat} (h:wl n l v s f):∃g,f=g+1:=⟨f-1,by have:=h.fu;omega⟩
def Qu (acK:List Int->Nat->Bool) (aJ MU:Int):Nat->List Int->Nat->Int->List Int×Int×Int
 | 0,_,_,made=>([],0,made)
 | f+1,ls,v,made=>
  if v<ls.length then
   if ls.getD v 0=aJ then (if v=0 then ([],2,made) else Qu acK aJ MU f (ls.set v (-1)) (v-1) made)
   else if made=MU then ([],3,made)
   else Qu acK aJ MU f (ls.set v (ls.getD v 0+1)) (if acK (ls.set v (ls.getD v 0+1)) v then v+1 else v) (made+1)
  else (ls,1,made)
theorem mT (ls:List Int) (v j:Nat) (x:Int) (hj:j<ls.length):(ls.set v x).getD j 0=if v=j then x else ls.getD j 0:=by
 simp only[zDd,List.getElem?_set]
 split
 ·rename_i e;subst e;simp[hj]
 ·rfl
structure St (N:Nat) (aJ:Int) (ls:List Int) (v:Nat):Prop where
 len:ls.length=N
 lo:∀j,j<v->j<N->0<=ls.getD j 0/\ls.getD j 0<=aJ
 at_:v<N -> -1<=ls.getD v 0/\ls.getD v 0<=aJ
 hi:∀j,v<j->j<N->ls.getD j 0 = -1
structure Up (N:Nat) (aJ:Int) (ls:List Int) (v:Nat):Prop where
 len:ls.length=N
 lo:∀j,j<=v->j<N->0<=ls.getD j 0/\ls.getD j 0<=aJ
 hi:∀j,v<j->j<N->ls.getD j 0 = -1
theorem St.start (N:Nat) (aJ:Int) (hm:0<=aJ):St N aJ (List.replicate N (-1)) 0 where
 len:=by simp
 lo:=fun j hj=>by omega
 at_:=fun h=>by simp[zDd,List.getElem?_replicate,h];omega
 hi:=fun j _ h=>by simp[zDd,List.getElem?_replicate,h]
theorem St.back {N:Nat} {aJ:Int} {ls:List Int} {v:Nat} (h:St N aJ ls v) (h0:¬v=0):St N aJ (ls.set v (-1)) (v-1) where
 len:=by simp[h.len]
 lo:=fun j hj hn=>by rw[mT _ _ _ _ (by rw[h.len];exact hn),if_neg (by omega)];exact h.lo j (by omega) hn
 at_:=fun hn=>by rw[mT _ _ _ _ (by rw[h.len];exact hn),if_neg (by omega)];have:=h.lo (v-1) (by omega) hn;omega
 hi:=fun j hj hn=>by
  rw[mT _ _ _ _ (by rw[h.len];exact hn)]
  split
  ·rfl
  ·exact h.hi j (by omega) hn
theorem St.up {N:Nat} {aJ:Int} {ls:List Int} {v:Nat} (h:St N aJ ls v) (hv:v<N) (hm:¬ls.getD v 0=aJ):Up N aJ (ls.set v (ls.getD v 0+1)) v where
 len:=by simp[h.len]
 lo:=fun j hj hn=>by
  rw[mT _ _ _ _ (by rw[h.len];exact hn)]
  have:=h.at_ hv
  split
  ·omega
  ·exact h.lo j (by omega) hn
 hi:=fun j hj hn=>by rw[mT _ _ _ _ (by rw[h.len];exact hn),if_neg (by omega)];exact h.hi j hj hn
theorem Up.stay {N:Nat} {aJ:Int} {ls:List Int} {v:Nat} (h:Up N aJ ls v):St N aJ ls v where
 len:=h.len
 lo:=fun j hj hn=>h.lo j (by omega) hn
 at_:=fun hn=>by have:=h.lo v (Nat.le_refl _) hn;omega
 hi:=h.hi
theorem Up.on {N:Nat} {aJ:Int} {ls:List Int} {v:Nat} (h:Up N aJ ls v) (hm:0<=aJ):St N aJ ls (v+1) where
 len:=h.len
 lo:=fun j hj hn=>h.lo j (by omega) hn
 at_:=fun hn=>by have:=h.hi (v+1) (by omega) hn;omega
 hi:=fun j hj hn=>h.hi j (by omega) hn
def Ub (MU made:Int) (N v:Nat):Nat:=(MU-made).toNat*(N+2)+v+1
def Qv (n:aj) (w:Int) (v:Nat):Bool:=decide (w<=v)&&((n.ends.getD w.toNat []).map fun e=>e.1).all (fF 0 v)
def Uc (n:aj) (v:Nat):List Int:=((n.ends.getD v []).map fun e=>e.1)++[(v:Int)]
def Ud (n:aj) (acc:List Int->Nat->Bool) (ls:List Int) (v:Nat):Bool:=(Uc n v).all fun w => !Qv n w v||acc ls w.toNat
def aF (s:Int):List Int:=if s=4 then [100] else if s=5 then [100,10,2] else []
theorem eS (s:Int) (w:World):
  Calls Tryz.prog 180 #[.int .i64 s] w fun e w'=>∃u,e=.returned u/\Own w' w.heap.size u (aF s)/\Below w.heap.size w w':=by
 unfold aF
 by_cases h4:s=4
 ·subst h4
  go_enter Tryz.func180,Tryz.ntmps180
  go_wp2;go_ret;exact⟨_,rfl,fD w [100] (by simp[maxLen]),ai _ _⟩
 ·by_cases h5:s=5
  ·subst h5
   go_enter Tryz.func180,Tryz.ntmps180
   go_wp2;go_ret;exact⟨_,rfl,fD w [100,10,2] (by simp[maxLen]),ai _ _⟩
  ·have h4':(s==4)=false:=by simpa using h4
   have tK:(s==5)=false:=by simpa using h5
   rw[if_neg h4,if_neg h5];clear h4 h5
   go_enter Tryz.func180,Tryz.ntmps180
   go_wp2;go_ret;exact⟨_,rfl,bU _ _,Below.refl _ _⟩
theorem yG (s:Int) (w:World):
  Calls Tryz.prog 111 #[.int .i64 s] w fun e w'=>∃u,e=.returned u/\Own w' w.heap.size u (aF s)/\Below w.heap.size w w':=by
 unfold aF
 by_cases h4:s=4
 ·subst h4
  go_enter Tryz.func111,Tryz.ntmps111
  go_wp2;go_ret;exact⟨_,rfl,fD w [100] (by simp[maxLen]),ai _ _⟩
 ·by_cases h5:s=5
  ·subst h5
   go_enter Tryz.func111,Tryz.ntmps111
   go_wp2;go_ret;exact⟨_,rfl,fD w [100,10,2] (by simp[maxLen]),ai _ _⟩
  ·have h4':(s==4)=false:=by simpa using h4
   have tK:(s==5)=false:=by simpa using h5
   rw[if_neg h4,if_neg h5];clear h4 h5
   go_enter Tryz.func111,Tryz.ntmps111
   go_wp2;go_ret;exact⟨_,rfl,bU _ _,Below.refl _ _⟩
theorem Own.lit {w:World} {base:Nat} {v:Value} {x:Int} {xs:List Int} (h:Own w base v (x::xs)):∃g c,v=.slice (some ⟨g,0,none⟩) (xs.length+1) c/\base<=g/\g<w.heap.size/\xs.length+1<=c/\∀k y,(x::xs)[k]?=some y->w.cell? ⟨g,k,none⟩=some (.int .i64 y):=by
 rcases h.2 with⟨rfl,h0⟩ | ⟨g,cap,cur,rfl,hb,hg,s8,hm,pX,tA⟩
 ·simp at h0
 ·exact⟨g,cap,rfl,hb,(Array.getElem?_eq_some_iff.1 hg).1,s8,fun k y hy=>Own.cell h hy⟩
theorem Own.ac4 {w:World} {base:Nat} {v:Value} (h:Own w base v []):∃A c,v=.slice A 0 c:=by
 rcases h.2 with⟨rfl,h0⟩ | ⟨g,cap,cur,rfl,_⟩
 ·exact⟨_,_,rfl⟩
 ·exact⟨_,_,rfl⟩
theorem aO.lit {w:World} {v:Value} {x:Int} {xs:List Int} (h:aO w v (x::xs)):∃b off c,v=.slice (some ⟨b,off,none⟩) (xs.length+1) c/\b<w.heap.size/\∀k y,(x::xs)[k]?=some y->w.cell? ⟨b,off+k,none⟩=some (.int .i64 y):=by
 obtain⟨A,c,rfl,fg,hm,hA⟩:=h;obtain⟨b,off,rfl,h0⟩:=hA 0 x rfl;refine⟨b,off,c,rfl,World.block_lt_of_cell? w _ h0,fun k y hy=>?_⟩
 obtain⟨b',n7,he,hc⟩:=hA k y hy
 injection he with he
 injection he with h1 h2
 subst h1 h2;exact hc
theorem Ft (v:Value) (a b c d:Int) (w:World) (h:aO w v [a,b,c,d]) (ha:0<=a) (ha':a<=999999999999) (hb:0<=b) (hb':b<=99) (hc:0<=c) (Bb:c<=9) (hd:0<=d) (SB:d<=1):
  Calls Tryz.prog 167 #[.int .i64 5,v] w fun e w'=>e=.returned (.int .i64 (((a*100+b)*10+c)*2+d))/\Below w.heap.size w w':=by
 obtain⟨B,off,cp,rfl,hB,eG⟩:=h.lit;have c0:=eG 0 a rfl;have c1:=eG 1 b rfl;have c2:=eG 2 c rfl;have c3:=eG 3 d rfl;clear eG h;simp only[Nat.add_zero]at c0
 go_enter Tryz.func167,Tryz.ntmps167
 go_wp2_with fail;refine(eS _ _).mono ?_;rintro e w1 ⟨u,rfl,ho,aN⟩;obtain⟨g,cc,rfl,hg,l7,xG,eG⟩:=Own.lit (show Own w1 _ u (100::[10,2])from ho);have r0:=eG 0 100 rfl;have r1:=eG 1 10 rfl;have r2:=eG 2 2 rfl;clear eG;have d0:=(aN.cell (p:=⟨B,off,none⟩) hB).trans c0;have d1:=(aN.cell (p:=⟨B,off+1,none⟩) hB).trans c1;have d2:=(aN.cell (p:=⟨B,off+2,none⟩) hB).trans c2;have d3:=(aN.cell (p:=⟨B,off+3,none⟩) hB).trans c3;have gO:=zh aN;clear ho aN c0 c1 c2 c3;go_wp2;refine wp_loop_rounds 4 ?_
 iterate 4
  rw[rounds_succ];go_wp2
 go_ret;exact⟨rfl,gO.out⟩
theorem MV (v:Value) (a b:Int) (w:World) (h:aO w v [a,b]) (ha:0<=a) (ha':a<=999999999999) (hb:0<=b) (hb':b<=99):
  Calls Tryz.prog 167 #[.int .i64 4,v] w fun e w'=>e=.returned (.int .i64 (a*100+b))/\Below w.heap.size w w':=by
 obtain⟨B,off,cp,rfl,hB,eG⟩:=h.lit;have c0:=eG 0 a rfl;have c1:=eG 1 b rfl;clear eG h;simp only[Nat.add_zero]at c0
 go_enter Tryz.func167,Tryz.ntmps167
 go_wp2_with fail;refine(eS _ _).mono ?_;rintro e w1 ⟨u,rfl,ho,aN⟩;obtain⟨g,cc,rfl,hg,l7,xG,eG⟩:=Own.lit (show Own w1 _ u (100::[])from ho);have r0:=eG 0 100 rfl;clear eG;have d0:=(aN.cell (p:=⟨B,off,none⟩) hB).trans c0;have d1:=(aN.cell (p:=⟨B,off+1,none⟩) hB).trans c1;have gO:=zh aN;clear ho aN c0 c1;go_wp2;refine wp_loop_rounds 2 ?_
 iterate 2
  rw[rounds_succ];go_wp2
 go_ret;exact⟨rfl,gO.out⟩
end Go.Proofs.YtgmdpppljkmabaaGreat
