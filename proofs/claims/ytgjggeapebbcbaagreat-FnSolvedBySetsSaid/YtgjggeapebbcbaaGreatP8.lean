/- Parts of the proof: walks of functions and plain laws. -/
import Derived.Test.YtgjggeapebbcbaaGreatP0
import Derived.Test.YtgjggeapebbcbaaGreatP7
import Derived.Test.YtgjggeapebbcbaaGreatP2
import Derived.Test.YtgjggeapebbcbaaGreatP3
import Derived.Test.YtgjggeapebbcbaaGreatP4
import Derived.Test.YtgjggeapebbcbaaGreatP1
import Derived.Test.YtgjggeapebbcbaaGreatP5
set_option maxRecDepth 100000
set_option maxHeartbeats 16000000
namespace Go.Proofs.YtgjggeapebbcbaaGreat
open Go Go.RowKit
def aE (l:List (List Int)) (v i:Nat):Int:=(l.getD v []).getD i 0
def bZ (l:List (List Int)) (v i:Nat):Prop:=i<(l.getD v []).length
def bi (l s:List (List Int)):Prop:=l.length=s.length/\∀v,(l.getD v []).length=(s.getD v []).length
theorem bi.refl (l:List (List Int)):bi l l:=⟨rfl,fun _=>rfl⟩
theorem bi.symm {l s:List (List Int)} (h:bi l s):bi s l:=⟨h.1.symm,fun v=>(h.2 v).symm⟩
theorem bi.trans {l s t:List (List Int)} (h:bi l s) (k:bi s t):bi l t:=⟨h.1.trans k.1,fun v=>(h.2 v).trans (k.2 v)⟩
theorem bZ.lt {l:List (List Int)} {v i:Nat} (h:bZ l v i):v<l.length:=by
 unfold bZ at h;rcases Nat.lt_or_ge v l.length with h1 | h1
 ·exact h1
 ·rw[zDd,List.getElem?_eq_none h1]at h;simp at h
theorem bZ.same {l s:List (List Int)} {v i:Nat} (hs:bi l s) (h:bZ l v i):bZ s v i:=by unfold bZ at h ⊢;rw[<- hs.2 v];exact h
theorem dq (l:List (List Int)) (v i:Nat) (x:Int):bi l (bH l ((v:Int),(i:Int)) x):=by
 unfold bH;simp only[Int.toNat_natCast];refine⟨by rw[List.length_set],fun u=>?_⟩
 rw[zDd,zDd,List.getElem?_set]
 by_cases e:v=u
 ·subst e;rw[if_pos rfl]
  split
  ·simp
  ·rename_i h1
   rw[List.getElem?_eq_none (by omega)]
 ·rw[if_neg e]
theorem eL {l:List (List Int)} {v i:Nat} (h:bZ l v i) (x:Int) (u j:Nat):aE (bH l ((v:Int),(i:Int)) x) u j=if u=v/\j=i then x else aE l u j:=by
 have hv:=h.lt;unfold bZ at h
 unfold aE bH
 simp only[Int.toNat_natCast];rw[zDd,zDd,List.getElem?_set]
 by_cases e:v=u
 ·subst e;rw[if_pos rfl,if_pos hv];show((l.getD v []).set i x)[j]?.getD 0=_
  rw[List.getElem?_set]
  by_cases e2:i=j
  ·subst e2;rw[if_pos rfl,if_pos h,if_pos ⟨rfl,rfl⟩];rfl
  ·rw[if_neg e2,if_neg (fun h=>e2 h.2.symm)]
   simp only[zDd]
 ·rw[if_neg e,if_neg (fun h=>e h.1.symm),zDd,zDd]
theorem gy (l:List (List Int)) (v i:Nat):bj l ((v:Int),(i:Int))=aE l v i:=by unfold bj aE;simp only[Int.toNat_natCast]
theorem Bj {a b:Int} {c:List Int} (h:a<=b):(c.dropWhile fun x=>decide (x<a)).count b=c.count b:=by
 induction c with
 | nil=>rfl
 | cons x c ih=>
  by_cases hx:x<a
  ·rw[List.dropWhile_cons_of_pos (by simpa using hx),ih,List.count_cons_of_ne (by omega)]
  ·rw[List.dropWhile_cons_of_neg (by simpa using hx)]
theorem kR {c l:List Int} (hc:c.Pairwise (· <= ·)) (hl:l.Pairwise (· <= ·)):dB c l=true↔∀a,l.count a<=c.count a:=by
 induction l generalizing c with
 | nil=>simp[dB]
 | cons a l ih=>
  have Jp:=List.pairwise_cons.1 hl;have hd:=hc.sublist (List.dropWhile_sublist (fun x=>decide (x<a)))
  have Bk:=fun b (h:a<=b)=>Bj (c:=c) h
  have P5:∀x r,(c.dropWhile fun x=>decide (x<a))=x::r->a<=x:=fun x r he=>by
   have h1:=List.head?_dropWhile_not (fun x=>decide (x<a)) c
   rw[he]at h1;simp at h1
   omega
  unfold dB
  cases Jq:c.dropWhile (fun x=>decide (x<a)) with
  | nil=>
   simp only
   constructor
   ·intro h;cases h
   ·intro h;have h1:=h a;have h2:=Bk a (Int.le_refl _);rw[Jq]at h2;rw[List.count_cons_self]at h1;rw[List.count_nil]at h2;omega
  | cons x r=>
   rw[Jq]at hd Bk;have GZ:=List.pairwise_cons.1 hd;have hax:=P5 x r Jq;simp only[Bool.and_eq_true,beq_iff_eq];constructor
   ·rintro⟨rfl,h2⟩ b;have h3:=(ih GZ.2 Jp.2).1 h2 b
    by_cases hb:x<=b
    ·rw[<- Bk b hb,List.count_cons,List.count_cons];omega
    ·rw[List.count_eq_zero.2 (fun hm=>?_)]
     ·omega
     ·rcases List.mem_cons.1 hm with rfl | hm
      ·omega
      ·have:=Jp.1 b hm;omega
   ·intro h
    have xz:x=a:=by
     have h1:=h a;rw[<- Bk a (Int.le_refl _),List.count_cons_self]at h1
     by_cases e:x=a
     ·exact e
     ·exfalso
      have:(x::r).count a=0:=List.count_eq_zero.2 fun hm=>by
       rcases List.mem_cons.1 hm with h2 | hm
       ·exact e h2.symm
       ·have:=GZ.1 a hm;omega
      omega
    subst xz;refine⟨rfl,(ih GZ.2 Jp.2).2 fun b=>?_⟩
    by_cases hb:x<=b
    ·have h1:=h b;rw[<- Bk b hb,List.count_cons,List.count_cons]at h1;omega
    ·rw[List.count_eq_zero.2 (fun hm=>by have:=Jp.1 b hm;omega)]
     omega
theorem Bl {c l:List Int} (h:dB c l=true):l.Sublist c:=by
 induction l generalizing c with
 | nil=>exact List.nil_sublist _
 | cons a l ih=>
  unfold dB at h;have hs:=List.dropWhile_sublist (l:=c) (fun x=>decide (x<a))
  cases Jq:c.dropWhile (fun x=>decide (x<a)) with
  | nil=>rw[Jq]at h;cases h
  | cons x r=>
   rw[Jq]at h hs;simp only[Bool.and_eq_true,beq_iff_eq]at h;obtain⟨rfl,h2⟩:=h;exact((ih h2).cons_cons x).trans hs
theorem vL {c:List Int} (h:ik c=true):c.Pairwise (· <= ·):=by
 have h:=jM.1 h
 have mM:∀(k i:Nat),i+k<c.length->c.getD i 0<=c.getD (i+k) 0:=fun k=>by
  induction k with
  | zero=>intro i _;exact Int.le_refl _
  | succ k ih=>intro i hi;exact Int.le_trans (ih i (by omega)) (h (i+k) (by omega))
 rw[List.pairwise_iff_getElem];intro i j hi hj Gk;have h1:=mM (j-i) i (by omega);rw[show i+(j-i)=j by omega,zDd,zDd,List.getElem?_eq_getElem hi,List.getElem?_eq_getElem hj]at h1
 exact h1
theorem kp {p:aN} (hp:eA p=true) {c:List Int} (hc:c∈p.nodes):(c.length:Int)=p.degree/\c.Pairwise (· <= ·)/\∀x∈c,0<=x/\x<=p.labels-1:=by
 unfold eA at hp;simp only[Bool.and_eq_true,aC]at hp;obtain⟨i,hi⟩:=List.getElem?_of_mem hc;have h1:=Ab hp.2.2.1 hi;unfold Dy at h1;simp only[Bool.and_eq_true,beq_iff_eq]at h1;refine⟨h1.1,vL h1.2.1,fun x hx=>?_⟩
 have h2:=h1.2.2;unfold jb at h2;exact aC.1 (List.all_eq_true.1 h2 x hx)
theorem ni {row:List Int} {a:Int} (h:0<=a):(dT row).count a=row.count a:=by
 unfold dT;rw[List.count_filter (by simpa using h)]
theorem rL {row:List Int} {a:Int} (h:a<0):(dT row).count a=0:=by
 unfold dT;rw[List.count_eq_zero];intro hm
 have:=(List.mem_filter.1 hm).2
 simp at this
 omega
theorem nj:∀(row cK:List Int),cK.length=row.length->(∀i,i<row.length->cK.getD i 0=row.getD i 0\/cK.getD i 0<0)->∀a,0<=a->cK.count a<=row.count a
 | [],[],_,_,_,_=>Nat.le_refl _
 | [],_::_,h,_,_,_=>by simp at h
 | _::_,[],h,_,_,_=>by simp at h
 | x::row,y::cK,h,hr,a,ha=>by
  have ih:=nj row cK (by simpa using h) (fun i hi=>by
   have:=hr (i+1) (by simpa using hi)
   simpa using this) a ha
  have h0:=hr 0 (by simp);simp only[List.getD_cons_zero]at h0;rw[List.count_cons,List.count_cons];rcases h0 with rfl | h0
  ·omega
  ·have:(y==a)=false:=by rw[beq_eq_false_iff_ne];omega
   rw[this];simp
   omega
theorem nk (xs:List Int) (a:Int):(db xs).count a=xs.count a:=(jc xs).count_eq a
theorem ts {p:aN} (hp:eA p=true) (row:List Int):dk p row=true↔((row.length:Int)=p.degree->∃c∈p.nodes,∀a,(dT row).count a<=c.count a):=by
 unfold dk;rw[Bool.or_eq_true,Bool.not_eq_true',beq_eq_false_iff_ne,List.any_eq_true];constructor
 ·intro h hl;rcases h with h | ⟨c,hc,h⟩
  ·exact absurd hl h
  ·refine⟨c,hc,fun a=>?_⟩
   rw[<- nk];exact(kR (kp hp hc).2.1 (fp _)).1 h a
 ·intro h
  by_cases hl:(row.length:Int)=p.degree
  ·obtain⟨c,hc,h⟩:=h hl;refine .inr ⟨c,hc,(kR (kp hp hc).2.1 (fp _)).2 fun a=>?_⟩
   rw[nk];exact h a
  ·exact .inl hl
theorem vM {p:aN} (hp:eA p=true) {row cK:List Int} (hl:cK.length=row.length) (hr:∀i,i<row.length->cK.getD i 0=row.getD i 0\/cK.getD i 0<0) (h:dk p row=true):dk p cK=true:=by
 refine(ts hp cK).2 fun hd=>?_
 obtain⟨c,hc,h⟩:=(ts hp row).1 h (by omega);refine⟨c,hc,fun a=>Nat.le_trans ?_ (h a)⟩
 by_cases ha:0<=a
 ·rw[ni ha,ni ha];exact nj row cK hl hr a ha
 ·rw[rL (by omega)];exact Nat.zero_le _
def vN (p:aN) (row:List Int):Bool:=!((row.length:Int)==p.degree)||p.nodes.contains (db row)
theorem mC {p:aN} (hp:eA p=true) {row:List Int} (h0:∀x∈row,0<=x):dk p row=vN p row:=by
 unfold dk vN
 by_cases hl:(row.length:Int)=p.degree
 ·rw[beq_iff_eq.2 hl];simp only[Bool.not_true,Bool.false_or];have hk:dT row=row:=List.filter_eq_self.2 fun a ha=>by simpa using h0 a ha
  rw[hk,Bool.eq_iff_iff,List.any_eq_true,List.contains_iff_mem];constructor
  ·rintro⟨c,hc,h⟩;have h1:=(kp hp hc).1
   have h2:=(Bl h).eq_of_length (by rw[(jc row).length_eq];omega)
   rw[h2];exact hc
  ·intro h;exact⟨_,h,(kR (kp hp h).2.1 (fp _)).2 fun _=>Nat.le_refl _⟩
 ·rw[beq_eq_false_iff_ne.2 hl];rfl
def cT (n:am) (v i:Nat):Nat×Nat:=(((n.ends.getD v []).getD i (0,0)).1.toNat,((n.ends.getD v []).getD i (0,0)).2.toNat)
def jk (n:am) (l:List (List Int)):Prop:=l.length=n.ends.length/\∀v,(l.getD v []).length=(n.ends.getD v []).length
theorem jk.of {n:am} {l:List (List Int)} (h:ju n.ends l):jk n l:=by
 refine⟨h.1,fun v=>?_⟩
 by_cases hv:v<l.length
 ·obtain⟨row,hr⟩:=ax l v hv
  obtain⟨es,he⟩:=ax n.ends v (by rw[<- h.1];exact hv)
  rw[ag hr,ag he];exact h.2 v es row he hr
 ·rw[zDd,zDd,List.getElem?_eq_none (by omega),List.getElem?_eq_none (by rw[<- h.1];omega)]
  rfl
theorem jk.same {n:am} {l s:List (List Int)} (h:jk n l) (hs:bi l s):jk n s:=⟨hs.1.symm.trans h.1,fun v=>(hs.2 v).symm.trans (h.2 v)⟩
theorem kq {n:am} (hn:aw n=true) {l:List (List Int)} (hs:jk n l) {v i:Nat} (h:bZ l v i):bZ l (cT n v i).1 (cT n v i).2/\cT n (cT n v i).1 (cT n v i).2=(v,i)/\(n.ends.getD v []).getD i (0,0)=(((cT n v i).1:Int),((cT n v i).2:Int)):=by
 unfold bZ at h;rw[hs.2 v]at h;obtain⟨f,hf⟩:=ax (n.ends.getD v []) i h;have hp:=fA hn (v:=v) (i:=i) (f:=f) hf;obtain⟨h1,h2,h3,h4,h5⟩:=hp
 have hm:cT n v i=(f.1.toNat,f.2.toNat):=by unfold cT;rw[ag hf]
 have lx:(n.ends.getD f.1.toNat [])[f.2.toNat]?=some ((v:Int),(i:Int)):=h5;rw[hm];refine⟨?_,?_,?_⟩
 ·unfold bZ;rw[hs.2];exact ai lx
 ·unfold cT;rw[ag lx];simp
 ·rw[ag hf]
  refine Prod.ext ?_ ?_ <;> simp <;> omega
theorem ph (p:aN) (a b:Int):edgeB p a b=edgeB p b a:=by unfold edgeB;rw[Int.min_comm,Int.max_comm]
def nJ (p:aN) (n:am) (l:List (List Int)) (v i:Nat):Bool:=decide (aE l v i<0)||(decide (aE l (cT n v i).1 (cT n v i).2<0)||edgeB p (aE l v i) (aE l (cT n v i).1 (cT n v i).2))
theorem pi (p:aN) (n:am) (l:List (List Int)) (v i:Nat):fa p n.ends l ((v:Int),(i:Int))=nJ p n l v i:=by
 unfold fa nJ bj aE cT
 simp only[Int.toNat_natCast]
theorem Bn {p:aN} {n:am} {l l':List (List Int)} (hr:∀v i,bZ l v i->aE l' v i=aE l v i\/aE l' v i<0) (hn:aw n=true) (hs:jk n l) {v i:Nat} (hi:bZ l v i) (h:nJ p n l v i=true):nJ p n l' v i=true:=by
 unfold nJ at h ⊢
 rcases hr v i hi with e | e
 ·rcases hr _ _ (kq hn hs hi).1 with e2 | e2
  ·rw[e,e2];exact h
  ·rw[decide_eq_true e2];simp
 ·rw[decide_eq_true e];rfl
theorem iS {p:aN} {n:am} {l:List (List Int)}:dn p n.ends l=true↔∀v,v<l.length->dk p (l.getD v [])=true/\∀i,bZ l v i->nJ p n l v i=true:=by
 unfold dn iI
 rw[List.all_eq_true];simp only[Bool.and_eq_true,List.all_eq_true,List.mem_range,pi];rfl
theorem il {p:aN} {n:am} {l l':List (List Int)} (hp:eA p=true) (hn:aw n=true) (hs:jk n l) (gb:bi l l') (hr:∀v i,bZ l v i->aE l' v i=aE l v i\/aE l' v i<0) (h:dn p n.ends l=true):dn p n.ends l'=true:=by
 rw[iS]at h ⊢;intro v hv
 obtain⟨h1,h2⟩:=h v (by rw[gb.1];exact hv)
 refine⟨vM hp (gb.2 v).symm (fun i hi=>hr v i hi) h1,fun i hi=>?_⟩
 have kd:bZ l v i:=hi.same gb.symm;exact Bn hr hn hs kd (h2 i kd)
theorem vO {p:aN} {n:am} {l l':List (List Int)} {v i:Nat} (hn:aw n=true) (hs:jk n l) (gb:bi l l') (he:∀u j,¬(u=v/\j=i)->aE l' u j=aE l u j)
  (h:dn p n.ends l=true) (bT:dk p (l'.getD v [])=true) (nl:nJ p n l' v i=true) (hi:bZ l v i):dn p n.ends l'=true:=by
 rw[iS]at h ⊢;intro u hu
 obtain⟨h1,h2⟩:=h u (by rw[gb.1];exact hu)
 refine⟨?_,fun j hj=>?_⟩
 ·by_cases e:u=v
  ·rw[e];exact bT
  ·have:l'.getD u []=l.getD u []:=by
    refine List.ext_getElem? fun j=>?_
    by_cases hj:j<(l.getD u []).length
    ·have h3:=he u j (fun h=>e h.1)
     unfold aE at h3
     have nP:j<(l'.getD u []).length:=by rw[<- gb.2 u];exact hj
     rw[zDd (l:=l'.getD u []),zDd (l:=l.getD u []),List.getElem?_eq_getElem hj,List.getElem?_eq_getElem nP]at h3
     rw[List.getElem?_eq_getElem hj,List.getElem?_eq_getElem nP];exact congrArg some h3
    ·rw[List.getElem?_eq_none (by rw[<- gb.2 u];omega),List.getElem?_eq_none (by omega)]
   rw[this];exact h1
 ·have nP:bZ l u j:=hj.same gb.symm;obtain⟨m1,m2,-⟩:=kq hn hs nP
  by_cases e:u=v/\j=i
  ·rw[e.1,e.2];exact nl
  ·by_cases e2:(cT n u j).1=v/\(cT n u j).2=i
   ·have hm:cT n v i=(u,j):=by rw[<- e2.1,<- e2.2];exact m2
    unfold nJ at nl ⊢
    rw[hm]at nl;rw[e2.1,e2.2];cases ha:decide (aE l' u j<0)
    ·cases hb:decide (aE l' v i<0)
     ·rw[ha,hb]at nl;simp only[Bool.false_or]at nl ⊢
      rw[ph];exact nl
     ·rfl
    ·rfl
   ·have h3:=h2 j nP
    unfold nJ at h3 ⊢
    rw[he u j e,he _ _ e2];exact h3
def K6 (n:am) (v:Nat):Int:=(Bf n (gQ n v)).getD v 0%2
def G0 (n:am):List Int:=(List.range n.ends.length).map (K6 n)
def G1 (n:am):Ed->Bool:=fun e=>(G0 n).getD e.1.toNat 0==(G0 n).getD e.2.2.1.toNat 0
def P6 (n:am):Bool:=!(eE n).any (G1 n)
def G2 (n:am) (l:List Int) (v:Nat):Bool:=!((sL l (n.ends.getD v [])).contains (l.getD v 0))
def Bp (n:am):Nat->List Int->Int->Nat->Option (Option (List Int))
 | 0,_,_,_=>none
 | f+1,l,v,s=>
  if (l.length:Int)<=v then some (some l)
  else if v<0 then some none
  else if l.getD v.toNat 0=2 then Bp n f (l.set v.toNat (-1)) (v-1) s
  else if s=200000 then none
  else Bp n f (l.set v.toNat (l.getD v.toNat 0+1)) (if G2 n (l.set v.toNat (l.getD v.toNat 0+1)) v.toNat then v+1 else v) (s+1)
def P7 (v:Int) (s:Nat):Nat:=(200000-s)*2+(v+1).toNat
structure Xj (n:am) (l:List Int) (v:Int) (s:Nat) (f:Nat):Prop where
 len:l.length=n.ends.length
 rng:∀x∈l,-1<=x/\x<=2
 lo : -1<=v
 hi:v<=(n.ends.length:Int)
 st:s<=200000
 fu:P7 v s<f
def G3 (Bq:List Int->Nat->Bool) (most DU:Int):Nat->List Int->Nat->Int->List Int×Int×Int
 | 0,_,_,made=>([],0,made)
 | f+1,ls,v,made=>
  if v<ls.length then
   if ls.getD v 0=most then (if v=0 then ([],2,made) else G3 Bq most DU f (ls.set v (-1)) (v-1) made)
   else if made=DU then ([],3,made)
   else G3 Bq most DU f (ls.set v (ls.getD v 0+1)) (if Bq (ls.set v (ls.getD v 0+1)) v then v+1 else v) (made+1)
  else (ls,1,made)
theorem jV (ls:List Int) (v j:Nat) (x:Int) (hj:j<ls.length):(ls.set v x).getD j 0=if v=j then x else ls.getD j 0:=by
 simp only[zDd,List.getElem?_set]
 split
 ·rename_i e;subst e;simp[hj]
 ·rfl
structure St (N:Nat) (most:Int) (ls:List Int) (v:Nat):Prop where
 len:ls.length=N
 lo:∀j,j<v->j<N->0<=ls.getD j 0/\ls.getD j 0<=most
 at_:v<N -> -1<=ls.getD v 0/\ls.getD v 0<=most
 hi:∀j,v<j->j<N->ls.getD j 0 = -1
structure Up (N:Nat) (most:Int) (ls:List Int) (v:Nat):Prop where
 len:ls.length=N
 lo:∀j,j<=v->j<N->0<=ls.getD j 0/\ls.getD j 0<=most
 hi:∀j,v<j->j<N->ls.getD j 0 = -1
theorem St.back {N:Nat} {most:Int} {ls:List Int} {v:Nat} (h:St N most ls v) (h0:¬v=0):St N most (ls.set v (-1)) (v-1) where
 len:=by simp[h.len]
 lo:=fun j hj hn=>by rw[jV _ _ _ _ (by rw[h.len];exact hn),if_neg (by omega)];exact h.lo j (by omega) hn
 at_:=fun hn=>by rw[jV _ _ _ _ (by rw[h.len];exact hn),if_neg (by omega)];have:=h.lo (v-1) (by omega) hn;omega
 hi:=fun j hj hn=>by
  rw[jV _ _ _ _ (by rw[h.len];exact hn)]
  split
  ·rfl
  ·exact h.hi j (by omega) hn
theorem St.up {N:Nat} {most:Int} {ls:List Int} {v:Nat} (h:St N most ls v) (hv:v<N) (hm:¬ls.getD v 0=most):Up N most (ls.set v (ls.getD v 0+1)) v where
 len:=by simp[h.len]
 lo:=fun j hj hn=>by
  rw[jV _ _ _ _ (by rw[h.len];exact hn)]
  have:=h.at_ hv
  split
  ·omega
  ·exact h.lo j (by omega) hn
 hi:=fun j hj hn=>by rw[jV _ _ _ _ (by rw[h.len];exact hn),if_neg (by omega)];exact h.hi j hj hn
theorem Up.stay {N:Nat} {most:Int} {ls:List Int} {v:Nat} (h:Up N most ls v):St N most ls v where
 len:=h.len
 lo:=fun j hj hn=>h.lo j (by omega) hn
 at_:=fun hn=>by have:=h.lo v (Nat.le_refl _) hn;omega
 hi:=h.hi
theorem Up.on {N:Nat} {most:Int} {ls:List Int} {v:Nat} (h:Up N most ls v) (hm:0<=most):St N most ls (v+1) where
 len:=h.len
 lo:=fun j hj hn=>h.lo j (by omega) hn
 at_:=fun hn=>by have:=h.hi (v+1) (by omega) hn;omega
 hi:=fun j hj hn=>h.hi j (by omega) hn
def K7 (DU made:Int) (N v:Nat):Nat:=(DU-made).toNat*(N+2)+v+1
def G4 (n:am) (w:Int) (v:Nat):Bool:=decide (w<=v)&&((n.ends.getD w.toNat []).map fun e=>e.1).all (dW 0 v)
def K8 (n:am) (v:Nat):List Int:=((n.ends.getD v []).map fun e=>e.1)++[(v:Int)]
def K9 (n:am) (acc:List Int->Nat->Bool) (ls:List Int) (v:Nat):Bool:=(K8 n v).all fun w => !G4 n w v||acc ls w.toNat
def P8 (n:am) (s m:Int) (ls:List Int) (k:Nat):Bool:=if s=0 then O1 m (ls.getD k 0) (sL ls (n.ends.getD k [])) else xL n s ls k
section
variable {W W' : World} {B : Nat} {ve vi vn vl : Value} {s m most DU st : Int}
end
theorem vP (N:Nat) (w:World) (hN:N<=1000000):Calls Tryz.prog 77 #[.int .i64 N] w fun e w'=>∃u,e=.returned u/\Own w' w.heap.size u (List.replicate N (-1))/\Below w.heap.size w w':=by
 go_enter Tryz.func77,Tryz.ntmps77
 go_wp2_with (at_make;refine rr _ rfl _ _ rfl _ _ N rfl rfl rfl rfl (by omega) ?_;intro w1 gu aJ cj)
 obtain⟨g,hg⟩:∃g,g=w.heap.size:=⟨_,rfl⟩
 rw[<- hg]at gu cj ⊢;have Hg:=zh hg;clear hg cj;go_wp2
 go_loopw [9] (fun i wr=>∃k:Nat,k<=N/\i=.int .i64 k/\Own wr w.heap.size (.slice (some ⟨g,0,none⟩) N N) (List.replicate k (-1)++List.replicate (N-k) 0)/\Below w.heap.size w wr) (fun i _=>N-(intOf i).toNat)
 case atStart=>exact⟨0,Nat.zero_le _,rfl,by have:=gu;simpa[Hg.out]using this,aJ⟩
 case round=>
  obtain⟨k,hk,rfl,ho,hb⟩:=hrel;have Ho:=zh ho;have Hb:=zh hb;clear gu aJ ho hb
  by_cases aH:k<N
  ·obtain⟨y,hy⟩:=ax (List.replicate k (-1:Int)++List.replicate (N-k) 0) k (by simp;omega)
   have cz:=Ho.out.cell hy;have fz:=Ho.out.free k;clear hy;go_wp2;go_roundw
   case rel=>
    refine⟨k+1,by omega,by go_num,?_,Hb.out.setCell (by show w.heap.size<=g;rw[Hg.out];exact Nat.le_refl _) _⟩
    have:=Ho.out.set (k:=k) (-1)
    have e:(List.replicate k (-1:Int)++List.replicate (N-k) 0).set k (-1)=List.replicate (k+1) (-1)++List.replicate (N-(k+1)) 0:=by
     rw[List.set_append_right _ _ (by simp),List.length_replicate,Nat.sub_self,show N-k=(N-(k+1))+1 by omega,List.replicate_succ,List.set_cons_zero,List.replicate_succ',List.append_assoc]
     rfl
    rwa [e]at this
   case measure=>simp[intOf];omega
  ·obtain rfl:k=N:=by omega
   go_wp2;go_ret
   exact⟨_,rfl,by have:=Ho.out;rwa [Nat.sub_self,List.replicate_zero,List.append_nil]at this,Hb.out⟩
def FG (n:am) (s m most DU:Int):List Int×Int×Int:=G3 (K9 n (P8 n s m)) most DU (K7 DU 0 n.ends.length 0) (List.replicate n.ends.length (-1)) 0 0
section
variable {W W' : World} {B : Nat} {ve vi vn va vl : Value}
end
theorem pj (ve vi vn:Value) (n:am) (w:World) (h:aI w ve vi vn n) (hN:1<=n.ends.length) (ta:n.ends.length<=1000000):
  Calls Tryz.prog 31 #[.agg #[ve,vi,vn]] w fun e w'=>∃u,e=.returned u/\Own w' w.heap.size u (List.replicate n.ends.length (-1))/\Below w.heap.size w w':=by
 obtain⟨w0,A,c,A2,c2,A3,c3,rfl,rfl,rfl,er,hm,et,fG,HA,bM,aY,H,e8,fh,fi⟩:=zB h;clear h
 go_enter Tryz.func31,Tryz.ntmps31
 go_upto_region 1 with(fail);rw[<- bM.out];go_wp2_with fail;refine(jR w0.heap.size 1 (-1) n.ends.length _ hN ta (by simp)).mono ?_;rintro e w1 ⟨u,rfl,ho,hb⟩;have Ho:=zh ho;have Hb:Hid (aa w0 w1):=aa.after (ae _ (ab _)) hb;clear ho hb;go_wp2;go_ret
 exact⟨_,rfl,Ho.out.mono (by have:=aY.out.size;simp;omega),aa.after aY.out Hb.out⟩
def K_ (n:am):Option (Option (List Int)):=Bp n 400002 (List.replicate n.ends.length (-1)) 0 0
def La (n:am) (p:Nat) (w:Nat):Bool:=decide (gQ n w=p)&&decide (n.aaa.getD w 0=1)
def Bt (n:am) (p k:Nat):List Nat:=(List.range k).filter (La n p)
def Lb (n:am) (p k:Nat):Int:=match Bt n p k with
 | [] => -1
 | w::_=>(w:Int)
def Bv (n:am) (v:Nat):Int:=Lb n (gQ n v) n.ends.length
def G5 (n:am) (p k:Nat):Nat:=((List.range k).filter fun w=>decide (gQ n w=p)).length
structure Tr (N:Nat) (dep:Nat->Int) (sm:Nat->Option Nat):Prop where
 some_:∀v p,v<N->sm v=some p->p<N/\dep p+1=dep v
 bv:∀v,v<N->0<=dep v
def T8 (sm:Nat->Option Nat):Nat->Nat->Nat->Bool
 | 0,w,x=>w==x
 | f+1,w,x=>w==x||(match sm w with | none=>false | some y=>T8 sm f y x)
def T_ (dep:Nat->Int) (sm:Nat->Option Nat) (w x:Nat):Bool:=T8 sm (dep w).toNat w x
def P9 (dep:Nat->Int) (sm:Nat->Option Nat) (D:List Nat) (w x:Nat):Bool:=w==x||D.any (fun c=>(sm c==some x)&&T_ dep sm w c)
def P_ (N:Nat) (dep:Nat->Int) (sm:Nat->Option Nat) (x:Nat):Nat:=(List.range N).countP fun w=>T_ dep sm w x
structure Szs (N:Nat) (dep:Nat->Int) (sm:Nat->Option Nat) (D:List Nat) (s:List Int):Prop where
 len:s.length=N
 val:∀x,x<N->s.getD x 0=((List.range N).countP fun w=>P9 dep sm D w x:Nat)
abbrev DV (st:List Int×List Int) (x:Int):Int:=st.1.getD x.toNat 0
structure BD (n:am) (v:Nat) (st:List Int×List Int) (i:Nat):Prop where
 zero:DV st (v:Int)=0
 sm:∀x∈st.2,x≠(v:Int)->∃y∈st.2,x∈rK n y/\DV st y+1=DV st x
 sorted:∀j k,j<=k->k<st.2.length->DV st (st.2.getD j 0)<=DV st (st.2.getD k 0)
 span:∀k,k<st.2.length->i<st.2.length->DV st (st.2.getD k 0)<=DV st (st.2.getD i 0)+1
 closed:∀k,k<i->k<st.2.length->∀x∈rK n (st.2.getD k 0),x∈st.2/\DV st x<=DV st (st.2.getD k 0)+1
structure Qa (n:am) (v:Nat) (D:Nat->Int):Prop where
 zero:D v=0
 sm:∀x:Nat,FF n v x->x≠v->∃y:Nat,FF n v y/\(x:Int)∈rK n (y:Int)/\D y+1=D x
 nb:∀a b:Nat,FF n v a->(b:Int)∈rK n (a:Int)->D b<=D a+1
 bv:∀x:Nat,FF n v x->0<=D x
def tt (n:am) (r v:Nat):Int:=(Bf n r).getD v 0
def Qb (n:am) (r v:Nat):Int:=match (n.ends.getD v []).findIdx? (fun e=>decide (0<tt n r v)&&decide (tt n r e.1.toNat=tt n r v-1))with | some k=>(k:Int) | none => -1
def NO (n:am) (v:Nat):Int:=Qb n (gQ n v) v
def G6 (n:am) (v:Nat) (q:Int):Nat:=((n.ends.getD v []).getD q.toNat (0,0)).1.toNat
def G7 (n:am) (v:Nat):Int:=tt n (gQ n v) v
def Qc (n:am) (v:Nat):Option Nat:=if 0<=NO n v then some (G6 n v (NO n v)) else none
def Lc (n:am) (v:Nat):Int:=((n.ids.getD (gQ n v) 0*100+G7 n v)*10+(if NO n v<0 then 9 else NO n v))*2+((P_ n.ends.length (G7 n) (Qc n) v%2:Nat):Int)
def Ld (n:am) (v:Nat):Int:=n.ids.getD (Bv n v).toNat 0*100+tt n (Bv n v).toNat v
def Qd (n:am) (s:Int):List Int:=
 if s=1 then (if P6 n=true then G0 n else [])
 else if s=2 then (match K_ n with | some (some l)=>l | _=>[])
 else if s=3 then (List.range n.ends.length).map (G7 n)
 else if s=4 then (List.range n.ends.length).map (Ld n)
 else (List.range n.ends.length).map (Lc n)
def im (N:Nat) (l t:List Int) (v:Nat):Prop:=(∃i,i<=v/\i<N/\(∀j,j<i->t.getD j 0=l.getD j 0)/\l.getD i 0<t.getD i 0)\/(N<=v/\∀j,j<N->t.getD j 0=l.getD j 0)
theorem getD_set_ne {l:List Int} {v j:Nat} {x:Int} (h:j≠v):(l.set v x).getD j 0=l.getD j 0:=by
 rw[zDd,List.getElem?_set_ne (Ne.symm h),<- zDd]
theorem nm {l:List Int} {v:Nat} {x:Int} (h:v<l.length):(l.set v x).getD v 0=x:=by
 rw[zDd,List.getElem?_set_self h];rfl
theorem im.back {N:Nat} {l t:List Int} {v:Nat} (h:im N l t v) (hv:v<N) (hm:t.getD v 0<=l.getD v 0):v≠0/\im N (l.set v (-1)) t (v-1):=by
 rcases h with⟨i,h1,h2,h3,h4⟩ | ⟨h1,-⟩
 ·have oh:i≠v:=fun e=>by subst e;omega
  refine⟨by omega,.inl ⟨i,by omega,h2,fun j hj=>?_,?_⟩⟩
  ·rw[getD_set_ne (by omega)];exact h3 j hj
  ·rw[getD_set_ne oh];exact h4
 ·omega
theorem im.go {N:Nat} {l t:List Int} {v:Nat} (h:im N l t v) (hv:v<N) (hl:l.length=N):im N (l.set v (l.getD v 0+1)) t v\/(∀j,j<=v->t.getD j 0=(l.set v (l.getD v 0+1)).getD j 0):=by
 rcases h with⟨i,h1,h2,h3,h4⟩ | ⟨h1,-⟩
 ·by_cases e:i=v
  ·subst e
   by_cases e2:t.getD i 0=l.getD i 0+1
   ·right
    intro j hj;rcases Nat.lt_or_eq_of_le hj with hj | hj
    ·rw[getD_set_ne (by omega)];exact h3 j hj
    ·subst hj;rw[nm (by omega)];exact e2
   ·left
    refine .inl ⟨i,Nat.le_refl _,h2,fun j hj=>?_,?_⟩
    ·rw[getD_set_ne (by omega)];exact h3 j hj
    ·rw[nm (by omega)];omega
  ·left
   refine .inl ⟨i,h1,h2,fun j hj=>?_,?_⟩
   ·rw[getD_set_ne (by omega)];exact h3 j hj
   ·rw[getD_set_ne e];exact h4
 ·omega
theorem im.up {N:Nat} {l t:List Int} {v:Nat} (h:im N l t v) (hv:v<N):im N l t (v+1):=by
 rcases h with⟨i,h1,h2,h3,h4⟩ | ⟨h1,h2⟩
 ·exact .inl ⟨i,by omega,h2,h3,h4⟩
 ·omega
theorem im.same {N:Nat} {l t:List Int} {v:Nat} (h:∀j,j<=v->t.getD j 0=l.getD j 0) (hl:v+1<N->l.getD (v+1) 0<t.getD (v+1) 0):im N l t (v+1):=by
 by_cases e:v+1<N
 ·exact .inl ⟨v+1,Nat.le_refl _,e,fun j hj=>h j (by omega),hl e⟩
 ·exact .inr ⟨by omega,fun j hj=>h j (by omega)⟩
structure Xk (n:am) (l:List Int) (v:Nat):Prop where
 st:St n.ends.length 2 l v
 Bq:∀a,a<v->a<n.ends.length->∀e∈n.ends.getD a [],e.1.toNat<v->l.getD e.1.toNat 0≠l.getD a 0
structure Le (l0:List (List Int)) (ps:List (Int×Int)):Prop where
 inj:∀(j k:Nat) (e:Int×Int),ps[j]?=some e->ps[k]?=some e->j=k
 in_:∀(k:Nat) (e:Int×Int),ps[k]?=some e->∃v i:Nat,e=((v:Int),(i:Int))/\bZ l0 v i/\aE l0 v i<0
 all:∀v i:Nat,bZ l0 v i->aE l0 v i<0->∃k:Nat,ps[k]?=some ((v:Int),(i:Int))
theorem qY {l:List (List Int)} {e:Int×Int}:e∈fZ l↔∃v i:Nat,e=((v:Int),(i:Int))/\bZ l v i/\aE l v i<0:=by
 unfold fZ gj qK
 simp only[List.mem_flatMap,List.mem_map,List.mem_filter,List.mem_range,decide_eq_true_eq];constructor
 ·rintro⟨v,hv,i,⟨hi,h⟩,rfl⟩;exact⟨v,i,rfl,hi,h⟩
 ·rintro⟨v,i,rfl,hi,h⟩;exact⟨v,bZ.lt hi,i,⟨hi,h⟩,rfl⟩
theorem tu (l:List (List Int)):(fZ l).Nodup:=by
 unfold fZ gj qK
 show List.Pairwise _ _
 rw[List.pairwise_flatMap];refine⟨fun v _=>?_,?_⟩
 ·rw[List.pairwise_map];refine((List.nodup_range (n:=(l.getD v []).length)).filter _).imp fun {a b} oz h=>oz ?_
  have:=congrArg Prod.snd h
  simp at this
  omega
 ·refine(List.nodup_range (n:=l.length)).imp fun {a b} oz x hx y hy h=>oz ?_
  obtain⟨i,-,rfl⟩:=List.mem_map.1 hx;obtain⟨j,-,rfl⟩:=List.mem_map.1 hy
  have:=congrArg Prod.fst h
  simp at this
  omega
theorem gE (l:List (List Int)):Le l (fZ l):=by
 refine⟨fun j k e hj hk=>?_,fun k e hk=>qY.1 (List.mem_of_getElem? hk),fun v i h1 h2=>?_⟩
 ·have h:=List.pairwise_iff_getElem.1 (tu l);obtain⟨l1,e1⟩:=List.getElem?_eq_some_iff.1 hj;obtain⟨l2,e2⟩:=List.getElem?_eq_some_iff.1 hk;rcases Nat.lt_trichotomy j k with h3 | h3 | h3
  ·exact absurd (e1.trans e2.symm) (h j k l1 l2 h3)
  ·exact h3
  ·exact absurd (e2.trans e1.symm) (h k j l2 l1 h3)
 ·obtain⟨k,hk⟩:=List.getElem?_of_mem (qY.2 ⟨v,i,rfl,h1,h2⟩);exact⟨k,hk⟩
def jE (ps:List (Int×Int)) (l:List (List Int)):List Int:=ps.map (bj l)
theorem nY (ps:List (Int×Int)) (l:List (List Int)):(jE ps l).length=ps.length:=by unfold jE;rw[List.length_map]
theorem eU {ps:List (Int×Int)} {l:List (List Int)} {k:Nat} {e:Int×Int} (h:ps[k]?=some e):(jE ps l).getD k 0=bj l e:=by
 unfold jE;rw[zDd,List.getElem?_map,h];rfl
theorem jl {l0 l:List (List Int)} {ps:List (Int×Int)} (hp:Le l0 ps) (hs:bi l0 l) {k:Nat} {e:Int×Int} (hk:ps[k]?=some e) (x:Int):jE ps (bH l e x)=(jE ps l).set k x:=by
 obtain⟨v,i,rfl,hi,-⟩:=hp.in_ k e hk;refine List.ext_getElem? fun j=>?_
 by_cases hj:j<ps.length
 ·obtain⟨f,hf⟩:=ax ps j hj;obtain⟨u,m,rfl,hm,-⟩:=hp.in_ j f hf;rw[List.getElem?_set];unfold jE;rw[List.getElem?_map,List.getElem?_map,hf];show some (bj _ _)=_
  rw[gy,eL (hi.same hs)]
  by_cases e:k=j
  ·subst e;rw[hk]at hf
   have:=Option.some.inj hf
   simp at this
   rw[if_pos rfl,if_pos ⟨by omega,by omega⟩,List.length_map,if_pos hj]
  ·rw[if_neg e,if_neg]
   ·show some (aE l u m)=some (bj _ _)
    rw[gy]
   ·rintro⟨rfl,rfl⟩;exact e (hp.inj k j _ hk hf)
 ·rw[List.getElem?_eq_none (by rw[nY];omega),List.getElem?_eq_none (by rw[List.length_set,nY];omega)]
def nK (ps:List (Int×Int)) (l:List (List Int)) (k:Nat):List (List Int):=match ps[k]? with
 | some e=>bH l e (-1)
 | none=>l
structure gk (p:aN) (n:am) (l0:List (List Int)) (ps:List (Int×Int)) (l:List (List Int)) (k:Nat):Prop where
 shp:bi l0 l
 st:St ps.length (p.labels-1) (jE ps l) k
 off:∀v i,bZ l0 v i->0<=aE l0 v i->aE l v i=aE l0 v i
 held:dn p n.ends (nK ps l k)=true
theorem qZ (ps:List (Int×Int)) {l0 l:List (List Int)} (hp:Le l0 ps) (k:Nat):bi l (nK ps l k):=by
 unfold nK
 cases h:ps[k]? with
 | none=>exact bi.refl _
 | some e=>
  obtain⟨v,i,rfl,-,-⟩:=hp.in_ k e h;exact dq _ _ _ _
theorem Bw {ps:List (Int×Int)} {l0 l:List (List Int)} (hp:Le l0 ps) (hs:bi l0 l) (k v i:Nat):aE (nK ps l k) v i=aE l v i\/aE (nK ps l k) v i<0:=by
 unfold nK
 cases h:ps[k]? with
 | none=>exact .inl rfl
 | some e=>
  obtain⟨u,j,rfl,hj,-⟩:=hp.in_ k e h;show aE (bH l ((u:Int),(j:Int)) (-1)) v i=_\/_
  rw[eL (hj.same hs)]
  split
  ·exact .inr (by omega)
  ·exact .inl rfl
section
variable {p : aN} {n : am} {l0 l : List (List Int)} {ps : List (Int × Int)} {k : Nat} {e : Int × Int} (hp : eA p = true) (hn : aw n = true) (aX : jk n l0) (hP : Le l0 ps)
include hp hn aX hP
theorem vQ (hs:bi l0 l) (h:dn p n.ends l=true) (k:Nat):dn p n.ends (nK ps l k)=true:=
 il hp hn (aX.same hs) (qZ ps hP k) (fun v i _=>Bw hP hs k v i) h
theorem gk.back (h:gk p n l0 ps l k) (hk:ps[k]?=some e) (h0:k≠0):gk p n l0 ps (bH l e (-1)) (k-1):=by
 have hh:=h.held;unfold nK at hh;rw[hk]at hh;obtain⟨v,i,rfl,hi,hc⟩:=hP.in_ k e hk;have gb:bi l0 (bH l ((v:Int),(i:Int)) (-1)):=h.shp.trans (dq _ _ _ _)
 refine⟨gb,by rw[jl hP h.shp hk];exact h.st.back h0,fun u j hu h1=>?_,vQ hp hn aX hP gb hh _⟩
 rw[eL (hi.same h.shp),if_neg (by rintro⟨rfl,rfl⟩;omega)];exact h.off u j hu h1
theorem gk.stay (h:gk p n l0 ps l k) (hk:ps[k]?=some e) (hm:bj l e≠p.labels-1):gk p n l0 ps (bH l e (bj l e+1)) k:=by
 have mZ:=ai hk;have hh:=h.held;unfold nK at hh;rw[hk]at hh;rw[<- eU (l:=l) hk]at hm ⊢;obtain⟨x,hx⟩:∃x,(jE ps l).getD k 0+1=x:=⟨_,rfl⟩
 have oS:=(h.st.up mZ hm).stay;rw[hx]at oS ⊢;obtain⟨v,i,rfl,hi,hc⟩:=hP.in_ k e hk;have gb:bi l0 (bH l ((v:Int),(i:Int)) x):=h.shp.trans (dq _ _ _ _)
 refine⟨gb,by rw[jl hP h.shp hk];exact oS,fun u j hu h1=>?_,?_⟩
 ·rw[eL (hi.same h.shp),if_neg (by rintro⟨rfl,rfl⟩;omega)];exact h.off u j hu h1
 ·refine il hp hn (aX.same (h.shp.trans (dq l v i (-1)))) ((dq l v i (-1)).symm.trans ((dq l v i x).trans (qZ ps hP k))) (fun u j hu=>.inl ?_) hh
  unfold nK;rw[hk];show aE (bH (bH l _ x) _ (-1)) u j=_
  rw[eL (hi.same gb),eL (hi.same h.shp),eL (hi.same h.shp)]
  split <;> rfl
theorem gk.on (h:gk p n l0 ps l k) (hk:ps[k]?=some e) (hm:bj l e≠p.labels-1) (hg:(dk p ((bH l e (bj l e+1)).getD e.1.toNat [])&&fa p n.ends (bH l e (bj l e+1)) e)=true):gk p n l0 ps (bH l e (bj l e+1)) (k+1):=by
 have h2:=h.stay hp hn aX hP hk hm;have mZ:=ai hk;have hh:=h.held;unfold nK at hh;rw[hk]at hh;rw[<- eU (l:=l) hk]at hm
 have jC:0<=p.labels-1:=by
  unfold eA at hp;rw[Bool.and_eq_true,aC]at hp;omega
 have eK:=(h.st.up mZ hm).on jC;rw[<- jl hP h.shp hk,eU hk]at eK;rw[Bool.and_eq_true]at hg;obtain⟨x,hx⟩:∃x,bj l e+1=x:=⟨_,rfl⟩
 rw[hx]at h2 eK hg ⊢;refine⟨h2.shp,eK,h2.off,vQ hp hn aX hP h2.shp ?_ _⟩;obtain⟨v,i,rfl,hi,hc⟩:=hP.in_ k e hk;refine vO (v:=v) (i:=i) hn (aX.same (h.shp.trans (dq l v i (-1)))) ((dq l v i (-1)).symm.trans (dq l v i x)) (fun u j Ua=>?_) hh ?_ ?_ ((hi.same h.shp).same (dq l v i (-1)))
 ·rw[eL (hi.same h.shp),eL (hi.same h.shp),if_neg Ua,if_neg Ua]
 ·simpa using hg.1
 ·rw[<- pi];exact hg.2
structure tv (p:aN) (n:am) (l0 s:List (List Int)):Prop where
 shp:bi l0 s
 rng:∀v i,bZ l0 v i->0<=aE s v i/\aE s v i<=p.labels-1
 off:∀v i,bZ l0 v i->0<=aE l0 v i->aE s v i=aE l0 v i
 held:dn p n.ends s=true
omit hp hn aX in
theorem gk.sol (h:gk p n l0 ps l ps.length) (dY:DL (p.labels-1) l0):tv p n l0 l:=by
 refine⟨h.shp,fun v i hi=>?_,h.off,?_⟩
 ·by_cases hc:0<=aE l0 v i
  ·rw[h.off v i hi hc];refine⟨hc,?_⟩;obtain⟨row,hr⟩:=ax l0 v hi.lt;have kd:=hi;unfold bZ at kd;rw[ag hr]at kd;obtain⟨x,hx⟩:=ax row i kd
   have:=dY v row i x hr hx
   unfold aE;rw[ag hr,ag hx];exact this.2
  ·obtain⟨k,hk⟩:=hP.all v i hi (by omega)
   have:=h.st.lo k (ai hk) (ai hk)
   rw[eU hk,gy]at this;exact this
 ·have hh:=h.held;unfold nK at hh;rw[List.getElem?_eq_none (Nat.le_refl _)]at hh;exact hh
theorem Bx {s:List (List Int)} (hs:tv p n l0 s) (h:gk p n l0 ps l k) (hk:ps[k]?=some e) {x:Int} (Gg:∀j,j<=k->(jE ps s).getD j 0=((jE ps l).set k x).getD j 0):(dk p ((bH l e x).getD e.1.toNat [])&&fa p n.ends (bH l e x) e)=true:=by
 obtain⟨v,i,rfl,hi,hc⟩:=hP.in_ k e hk;have gb:bi l0 (bH l ((v:Int),(i:Int)) x):=h.shp.trans (dq _ _ _ _)
 have bW:∀u j,bZ l0 u j->aE (bH l ((v:Int),(i:Int)) x) u j=aE s u j\/aE (bH l ((v:Int),(i:Int)) x) u j<0:=fun u j hj=>by
  by_cases ke:0<=aE l0 u j
  ·left
   rw[hs.off u j hj ke,eL (hi.same h.shp),if_neg (by rintro⟨rfl,rfl⟩;omega)];exact h.off u j hj ke
  ·obtain⟨m,hm⟩:=hP.all u j hj (by omega);rw[<- gy,<- gy,<- eU (l:=s) hm,<- eU (l:=bH l _ x) hm,jl hP h.shp hk];rcases Nat.lt_or_ge k m with h1 | h1
   ·right
    rw[getD_set_ne (by omega),h.st.hi m h1 (ai hm)];omega
   ·exact .inl (Gg m h1).symm
 have hh:=il hp hn (aX.same hs.shp) (hs.shp.symm.trans gb) (fun u j hu=>bW u j (hu.same hs.shp.symm)) hs.held
 rw[iS]at hh;have kd:bZ (bH l ((v:Int),(i:Int)) x) v i:=hi.same gb;obtain⟨h1,h2⟩:=hh v kd.lt;rw[Bool.and_eq_true,pi];exact⟨by simpa using h1,h2 i kd⟩
omit hp hn aX hP in
theorem go_pos (p:aN) (ends:List (List (Int×Int))) (ps:List (Int×Int)) (most:Int) (f:Nat) (l:List (List Int)) (st:Int):(jd p ends ps most f l (-1) st).1=0\/jd p ends ps most f l (-1) st=(2,l,-1,st):=by
 cases f with
 | zero=>exact .inl rfl
 | succ f=>right;simp[jd]
theorem go_sound {most:Int}:∀(f:Nat) (l:List (List Int)) (k:Nat) (st:Int),gk p n l0 ps l k->k<=ps.length->(jd p n.ends ps most f l k st).1=1->gk p n l0 ps (jd p n.ends ps most f l k st).2.1 ps.length
 | 0,_,_,_,_,_,hr=>by simp[jd]at hr
 | f+1,l,k,st,h,hk,hr=>by
  unfold jd at hr ⊢
  rw[if_neg (by omega)]at hr ⊢
  by_cases h1:k=ps.length
  ·subst h1;rw[if_pos rfl];exact h
  ·rw[if_neg (by omega)]at hr ⊢;obtain⟨e,he⟩:=ax ps k (by omega)
   rw[show(ps.getD (k:Int).toNat (0,0))=e by rw[Int.toNat_natCast];exact ag he]at hr ⊢
   by_cases h2:bj l e=p.labels-1
   ·simp only[h2,if_true]at hr ⊢
    by_cases h0:k=0
    ·subst h0;rw[show((0:Nat):Int)-1 = -1 by rfl]at hr
     rcases go_pos p n.ends ps most f (bH l e (-1)) st with h3 | h3
     ·rw[h3]at hr;cases hr
     ·rw[h3]at hr;cases hr
    ·rw[show(k:Int)-1=((k-1:Nat):Int)by omega]at hr ⊢
     exact go_sound f _ _ _ (h.back hp hn aX hP he h0) (by omega) hr
   ·simp only[if_neg h2]at hr ⊢
    by_cases h3:st=most
    ·rw[if_pos h3]at hr;cases hr
    ·simp only[if_neg h3]at hr ⊢
     cases hg:(dk p ((bH l e (bj l e+1)).getD e.1.toNat [])&&fa p n.ends (bH l e (bj l e+1)) e)
     ·rw[hg,if_neg (by simp)]at hr;rw[if_neg (by simp)];exact go_sound f _ _ _ (h.stay hp hn aX hP he h2) hk hr
     ·rw[hg,if_pos rfl]at hr;rw[if_pos rfl];rw[show(k:Int)+1=((k+1:Nat):Int)by omega]at hr ⊢
      exact go_sound f _ _ _ (h.on hp hn aX hP he h2 hg) (by omega) hr
theorem go_none {most:Int} {s:List (List Int)} (hs:tv p n l0 s):∀(f:Nat) (l:List (List Int)) (k:Nat) (st:Int),gk p n l0 ps l k->k<=ps.length->im ps.length (jE ps l) (jE ps s) k->(jd p n.ends ps most f l k st).1≠2
 | 0,_,_,_,_,_,_=>by simp[jd]
 | f+1,l,k,st,h,hk,hL=>by
  unfold jd;rw[if_neg (by omega)]
  by_cases h1:k=ps.length
  ·subst h1;rw[if_pos rfl];simp
  ·rw[if_neg (by omega)];obtain⟨e,he⟩:=ax ps k (by omega);have mZ:=ai he
   rw[show(ps.getD (k:Int).toNat (0,0))=e by rw[Int.toNat_natCast];exact ag he]
   have dz:∀m,m<ps.length->0<=(jE ps s).getD m 0/\(jE ps s).getD m 0<=p.labels-1:=fun m hm=>by
    obtain⟨g,hg⟩:=ax ps m hm;obtain⟨v,i,rfl,hi,-⟩:=hP.in_ m g hg;rw[eU hg,gy];exact hs.rng v i hi
   by_cases h2:bj l e=p.labels-1
   ·simp only[h2,if_true]
    obtain⟨h0,Ub⟩:=hL.back mZ (by rw[eU he (l:=l),h2];exact(dz k mZ).2)
    rw[show(k:Int)-1=((k-1:Nat):Int)by omega]
    rw[<- jl hP h.shp he]at Ub;exact go_none hs f _ _ _ (h.back hp hn aX hP he h0) (by omega) Ub
   ·simp only[if_neg h2]
    by_cases h3:st=most
    ·rw[if_pos h3];simp
    ·simp only[if_neg h3];have Qe:=hL.go mZ (nY ps l);rw[eU he]at Qe;cases hg:(dk p ((bH l e (bj l e+1)).getD e.1.toNat [])&&fa p n.ends (bH l e (bj l e+1)) e)
     ·rw[if_neg (by simp)];refine go_none hs f _ _ _ (h.stay hp hn aX hP he h2) hk ?_;rcases Qe with h4 | h4
      ·rw[jl hP h.shp he];exact h4
      ·rw[Bx hp hn aX hP hs h he h4]at hg;cases hg
     ·rw[if_pos rfl,show(k:Int)+1=((k+1:Nat):Int)by omega]
      have fY:=h.on hp hn aX hP he h2 hg;refine go_none hs f _ _ _ fY (by omega) ?_;rw[jl hP h.shp he];rcases Qe with h4 | h4
      ·exact h4.up mZ
      ·refine im.same h4 fun aH=>?_
       have h6:=fY.st.at_ aH;have h7:=dz (k+1) aH;have h8:=h.st.hi (k+1) (by omega) aH;rw[getD_set_ne (by omega),h8];omega
theorem mD (dY:DL (p.labels-1) l0) (h:dn p n.ends l0=true):gk p n l0 ps l0 0:=by
 have jC:0<=p.labels-1:=by
  unfold eA at hp;rw[Bool.and_eq_true,aC]at hp;omega
 have bW:∀k,k<ps.length->(jE ps l0).getD k 0 = -1:=fun k hk=>by
  obtain⟨e,he⟩:=ax ps k hk;obtain⟨v,i,rfl,hi,hc⟩:=hP.in_ k e he;rw[eU he,gy];obtain⟨row,hr⟩:=ax l0 v hi.lt;have kd:=hi;unfold bZ at kd;rw[ag hr]at kd;obtain⟨x,hx⟩:=ax row i kd;have h1:=dY v row i x hr hx
  unfold aE at hc ⊢
  rw[ag hr,ag hx]at hc ⊢;omega
 refine⟨bi.refl _,⟨nY _ _,fun j h=>by omega,fun h=>by rw[bW 0 h];omega,fun j _ hj=>bW j hj⟩,fun _ _ _ _=>rfl,vQ hp hn aX hP (bi.refl _) h 0⟩
theorem yU {s:List (List Int)} (hs:tv p n l0 s) (dY:DL (p.labels-1) l0) (h:dn p n.ends l0=true):im ps.length (jE ps l0) (jE ps s) 0:=by
 have fY:=mD hp hn aX hP dY h
 by_cases h0:0<ps.length
 ·refine .inl ⟨0,Nat.le_refl _,h0,fun j hj=>by omega,?_⟩
  obtain⟨e,he⟩:=ax ps 0 h0;obtain⟨v,i,rfl,hi,hc⟩:=hP.in_ 0 e he
  have:=(hs.rng v i hi).1
  rw[eU he,eU he,gy,gy];omega
 ·exact .inr ⟨by omega,fun j hj=>by omega⟩
end
theorem By {p:aN} {n:am} {l:List (List Int)} {most:Int} (h:av p n l most=1):jS p n l most=true/\tv p n l (aD p n l most):=by
 unfold av at h
 split at h
 ·rename_i dR
  refine⟨dR,?_⟩;unfold aD;rw[if_pos dR,if_pos h];unfold jS at dR;simp only[Bool.and_eq_true]at dR;obtain⟨⟨⟨h1,h2⟩,h3⟩,h4⟩:=dR;obtain⟨gb,dY⟩:=pd h3;have hm:=aC.1 h4
  unfold Fy AJ at h ⊢
  split at h
  ·rename_i hh
   rw[if_pos hh];have hA:=sO vB p n.ends (fZ l) most (aP most 0 0) (aP most 0 0) () l 0 0 hm.1 (by omega) (by omega) (Nat.le_refl _) (Nat.le_refl _);rw[hA]at h ⊢;simp only[vB]at h ⊢
   by_cases hr:(jd p n.ends (fZ l) most (aP most 0 0) l 0 0).1=1
   ·simp only[hr,if_true]at h ⊢
    exact(go_sound h1 h2 (jk.of gb) (gE l) _ l 0 0 (mD h1 h2 (jk.of gb) (gE l) dY hh) (Nat.zero_le _) hr).sol (gE l) dY
   ·simp only[if_neg hr]at h;exact absurd h hr
  ·cases h
 ·cases h
theorem DW {p:aN} {n:am} {l s:List (List Int)} {most:Int} (hs:tv p n l s) (dR:jS p n l most=true):av p n l most=1\/av p n l most=3:=by
 unfold av;rw[if_pos dR];unfold jS at dR;simp only[Bool.and_eq_true]at dR;obtain⟨⟨⟨h1,h2⟩,h3⟩,h4⟩:=dR;obtain⟨gb,dY⟩:=pd h3;have hm:=aC.1 h4;have hS:=jk.of gb
 have hh:dn p n.ends l=true:=il h1 h2 (hS.same hs.shp) hs.shp.symm (fun v i hi=>by
  have kd:=hi.same hs.shp.symm
  by_cases hc:0<=aE l v i
  ·exact .inl (hs.off v i kd hc).symm
  ·exact .inr (by omega)) hs.held
 unfold Fy AJ
 rw[if_pos hh];have hA:=sO vB p n.ends (fZ l) most (aP most 0 0) (aP most 0 0) () l 0 0 hm.1 (by omega) (by omega) (Nat.le_refl _) (Nat.le_refl _);rw[hA];simp only[vB];have h5:=go_none h1 h2 hS (gE l) (most:=most) hs (aP most 0 0) l 0 0 (mD h1 h2 hS (gE l) dY hh) (Nat.zero_le _) (yU h1 h2 hS (gE l) hs dY hh);have h6:=(Ae p n.ends (fZ l) most (aP most 0 0) l 0 0 hm.1 (by omega) (by omega) (Nat.le_refl _)).2.2.2.2.2.2
 by_cases hr:(jd p n.ends (fZ l) most (aP most 0 0) l 0 0).1=1
 ·rw[if_pos hr]
  left
  first | exact hr | simpa using hr
 ·simp only[if_neg hr];rcases h6 with h6 | h6 | h6
  ·exact absurd h6 hr
  ·exact absurd h6 h5
  ·exact .inr h6
def xN (p:aN) (l:List (List Int)):Bool:=!(l.any fun c => !jb c 0 (p.labels-1))
def di (p:aN) (n:am) (l:List (List Int)):Bool:=gc n l&&xN p l
def kS (n:am) (v i:Nat):Bool:=decide ((v:Int)<((n.ends.getD v []).getD i (0,0)).1)||(decide ((v:Int)=((n.ends.getD v []).getD i (0,0)).1)&&decide ((i:Int)<=((n.ends.getD v []).getD i (0,0)).2))
def nn (p:aN) (n:am) (l:List (List Int)) (v i:Nat):Bool:=!(kS n v i && !edgeB p (aE l v i) (aE l (cT n v i).1 (cT n v i).2))
def tw (p:aN) (n:am) (l:List (List Int)) (v:Nat):Bool:=vN p (l.getD v [])&&(List.range (n.ends.getD v []).length).all (nn p n l v)
def jF (p:aN) (n:am) (l:List (List Int)):Bool:=(List.range l.length).all (tw p n l)
def eo (p:aN) (n:am) (l:List (List Int)):Bool:=eA p&&aw n&&di p n l
theorem jm {p:aN} {n:am} {l:List (List Int)} (h:di p n l=true):jk n l/\∀v i,bZ l v i->0<=aE l v i/\aE l v i<=p.labels-1:=by
 unfold di gc eX xN at h
 simp only[Bool.and_eq_true,decide_eq_true_eq,List.all_eq_true,List.mem_range,Bool.not_eq_true',List.any_eq_false]at h;obtain⟨⟨h1,h2⟩,h3⟩:=h;refine⟨⟨h1,fun v=>?_⟩,fun v i hi=>?_⟩
 ·by_cases hv:v<l.length
  ·exact h2 v hv
  ·rw[zDd,zDd,List.getElem?_eq_none (by omega),List.getElem?_eq_none (by omega)];rfl
 ·obtain⟨row,hr⟩:=ax l v hi.lt;have kd:=hi;unfold bZ at kd;rw[ag hr]at kd;obtain⟨x,hx⟩:=ax row i kd;have h4:jb row 0 (p.labels-1)=true:=by simpa using h3 row (List.mem_of_getElem? hr)
  unfold jb at h4;have h5:=aC.1 (List.all_eq_true.1 h4 x (List.mem_of_getElem? hx));unfold aE;rw[ag hr,ag hx];exact h5
theorem pk {p:aN} {n:am} {l:List (List Int)} (hs:jk n l) (hr:∀v i,bZ l v i->0<=aE l v i/\aE l v i<=p.labels-1):di p n l=true:=by
 unfold di gc eX xN
 simp only[Bool.and_eq_true,decide_eq_true_eq,List.all_eq_true,List.mem_range,Bool.not_eq_true',List.any_eq_false];refine⟨⟨hs.1,fun v _=>hs.2 v⟩,fun row hm=>?_⟩
 suffices h:jb row 0 (p.labels-1)=true by simpa using h
 unfold jb;rw[List.all_eq_true];intro x hx;obtain⟨v,hv⟩:=List.getElem?_of_mem hm;obtain⟨i,hi⟩:=List.getElem?_of_mem hx
 have h1:bZ l v i:=by unfold bZ;rw[ag hv];exact ai hi
 have h2:=hr v i h1;unfold aE at h2;rw[ag hv,ag hi]at h2;exact aC.2 h2
theorem kT {p:aN} {l:List (List Int)} (hr:∀v i,bZ l v i->0<=aE l v i/\aE l v i<=p.labels-1) (v:Nat):∀x∈l.getD v [],0<=x:=by
 intro x hx;obtain⟨i,hi⟩:=List.getElem?_of_mem hx;have h1:bZ l v i:=ai hi;have h2:=hr v i h1;unfold aE at h2;rw[ag hi]at h2;exact h2.1
theorem mE {p:aN} {n:am} {l:List (List Int)} (hp:eA p=true) (hn:aw n=true) (h:di p n l=true):jF p n l=dn p n.ends l:=by
 obtain⟨hs,hr⟩:=jm h;rw[Bool.eq_iff_iff,iS]
 unfold jF tw
 simp only[List.all_eq_true,List.mem_range,Bool.and_eq_true]
 have nl:∀v i,bZ l v i->nJ p n l v i=edgeB p (aE l v i) (aE l (cT n v i).1 (cT n v i).2):=fun v i hi=>by
  have h1:=(hr v i hi).1;have h2:=(hr _ _ (kq hn hs hi).1).1;unfold nJ;rw[decide_eq_false (by omega),decide_eq_false (by omega)];rfl
 constructor
 ·intro ha v hv;obtain⟨h1,-⟩:=ha v hv
  refine⟨by rw[mC hp (kT hr v)];exact h1,fun i hi=>?_⟩
  rw[nl v i hi];obtain⟨m1,m2,m3⟩:=kq hn hs hi;obtain⟨k1,k2,k3⟩:=kq hn hs m1
  have mM:∀u j,bZ l u j->kS n u j=true->edgeB p (aE l u j) (aE l (cT n u j).1 (cT n u j).2)=true:=fun u j hj hf=>by
   have h3:=(ha u hj.lt).2 j (by have:=hj;unfold bZ at this;rw[hs.2 u]at this;exact this)
   unfold nn at h3;rw[hf]at h3;simpa using h3
  by_cases hf:kS n v i=true
  ·exact mM v i hi hf
  ·have xB:kS n (cT n v i).1 (cT n v i).2=true:=by
    unfold kS at hf ⊢
    rw[m3]at hf;rw[k3,m2];simp only[Bool.or_eq_true,Bool.and_eq_true,decide_eq_true_eq,not_or,not_and]at hf ⊢
    omega
   have h4:=mM _ _ m1 xB;rw[m2]at h4;rw[ph];exact h4
 ·intro ha v hv;obtain⟨h1,h2⟩:=ha v hv
  refine⟨by rw[<- mC hp (kT hr v)];exact h1,fun i hi=>?_⟩
  have kd:bZ l v i:=by unfold bZ;rw[hs.2 v];exact hi
  have h3:=h2 i kd;rw[nl v i kd]at h3;unfold nn;rw[h3];simp
theorem Bz {p:aN} {n:am} {l0 s:List (List Int)} (hp:eA p=true) (hn:aw n=true) (aX:jk n l0) (h:tv p n l0 s):eo p n s=true/\jF p n s=true:=by
 have hf:di p n s=true:=pk (aX.same h.shp) fun v i hi=>h.rng v i (hi.same h.shp.symm)
 refine⟨?_,by rw[mE hp hn hf];exact h.held⟩
 unfold eo;rw[hp,hn,hf];rfl
theorem jn (n:am):jk n (dc n):=jk.of vz
theorem q9 {n:am} {v i:Nat} (h:bZ (dc n) v i):aE (dc n) v i = -1:=by
 obtain⟨row,hr⟩:=ax (dc n) v h.lt;unfold bZ at h;unfold aE;rw[ag hr]at h ⊢;unfold dc at hr;rw[List.getElem?_map]at hr;obtain⟨es,-,rfl⟩:=Option.map_eq_some_iff.1 hr;rw[List.length_replicate]at h;rw[zDd,List.getElem?_replicate_of_lt h];rfl
theorem BA {p:aN} {n:am} {s:List (List Int)} (hp:eA p=true) (hn:aw n=true) (hf:di p n s=true) (h:jF p n s=true):tv p n (dc n) s:=by
 obtain⟨hs,hr⟩:=jm hf;have gb:bi (dc n) s:=⟨(jn n).1.trans hs.1.symm,fun v=>((jn n).2 v).trans (hs.2 v).symm⟩
 refine⟨gb,fun v i hi=>hr v i (hi.same gb),fun v i hi h0=>?_,by rw[<- mE hp hn hf];exact h⟩
 rw[q9 hi]at h0;omega
end Go.Proofs.YtgjggeapebbcbaaGreat
