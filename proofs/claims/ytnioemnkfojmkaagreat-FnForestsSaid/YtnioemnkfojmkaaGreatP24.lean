/- Parts of the proof: walks of functions and plain laws. -/
import Derived.Test.YtnioemnkfojmkaaGreatP23
set_option maxRecDepth 100000
set_option maxHeartbeats 16000000
namespace Go.Proofs.YtnioemnkfojmkaaGreat
open Go Go.RowKit
def xg (u j v i:Nat):Prop:=u<v\/(u=v/\j<i)
def TX (s t:List (List Int)) (v i:Nat):Prop:=∀u j,ax s u j->xg u j v i->ak s u j=ak t u j
def TY (s t:List (List Int)) (v i:Nat):Prop:=TX s t v i\/∃u j,xg u j v i/\ax s u j/\TX s t u j/\ak s u j<ak t u j
structure p_ (p:aq) (n:ao) (s:List (List Int)):Prop where
 ok:lR p n s
 low:∀t,lR p n t->TY s t s.length 0
theorem dv.two {n:ao} {s t:List (List Int)} (h:dv n s) (h':dv n t):cO s t:=⟨h.1.trans h'.1.symm,fun v=>(h.2 v).trans (h'.2 v).symm⟩
theorem xh {s t:List (List Int)} (hs:cO s t) (h:∀v i,ax s v i->ak s v i=ak t v i):s=t:=by
 refine Zck fun v=>?_
 by_cases hv:v<s.length
 ·obtain⟨r,hr⟩:=au s v hv
  obtain⟨r',Jt⟩:=au t v (by rw[<- hs.1];exact hv)
  rw[hr,Jt];congr 1
  have hl:r.length=r'.length:=by have:=hs.2 v;rw[ag hr,ag Jt]at this;exact this
  refine Zck fun i=>?_
  by_cases hi:i<r.length
  ·obtain⟨x,hx⟩:=au r i hi;obtain⟨y,hy⟩:=au r' i zO
   have h1:=h v i (by unfold ax;rw[ag hr];exact hi)
   unfold ak at h1;rw[ag hr,ag Jt,ag hx,ag hy]at h1;rw[hx,hy,h1]
  ·rw[Zce zO,Zce zO]
 ·rw[Zce zO,Zce (by rw[<- hs.1];omega)]
theorem y_ {s:List (List Int)} {u j:Nat} (h:ax s u j):xg u j s.length 0:=.inl h.lt
theorem BP {p:aq} {n:ao} {s t:List (List Int)} (h:p_ p n s) (h':p_ p n t):s=t:=by
 have hs:=h.ok.shp.two h'.ok.shp;rcases h.low t h'.ok with h1 | ⟨u,j,h1,h2,h3,h4⟩
 ·exact xh hs fun v i hi=>h1 v i hi (y_ hi)
 ·rcases h'.low s h.ok with k1 | ⟨u',j',k1,k2,k3,k4⟩
  ·have:=k1 u j (h2.same hs) (y_ (h2.same hs))
   omega
  ·exfalso
   rcases Nat.lt_trichotomy u u' with e | e | e
   ·have:=k3 u j (h2.same hs) (.inl e);omega
   ·subst e;rcases Nat.lt_trichotomy j j' with e | e | e
    ·have:=k3 u j (h2.same hs) (.inr ⟨rfl,e⟩);omega
    ·subst e;omega
    ·have:=h3 u j' (k2.same hs.symm) (.inr ⟨rfl,e⟩);omega
   ·have:=h3 u' j' (k2.same hs.symm) (.inl e);omega
structure Gr (p:aq) (n:ao) (l:List (List Int)) (v i:Nat):Prop where
 shp:dv n l
 done:∀u j,ax l u j->xg u j v i->0<=ak l u j/\ak l u j<=p.labels-1
 rest:∀u j,ax l u j->¬xg u j v i->ak l u j = -1
 low:∀t,lR p n t->TY l t v i
theorem Gr.start (p:aq) (n:ao):Gr p n (aX n) 0 0 where
 shp:=aN n
 done:=fun u j _ h=>by unfold xg at h;omega
 rest:=fun u j h _=>fP h
 low:=fun t _=>.inl fun u j _ h=>by unfold xg at h;omega
theorem zd {l:List (List Int)} {u j v i:Nat} (h:ax l u j) (hi:¬ax l v i):xg u j (v+1) 0↔xg u j v i:=by
 unfold xg;unfold ax at h hi;constructor
 ·intro h1
  by_cases e:u=v
  ·subst e;exact .inr ⟨rfl,zO⟩
  ·left;omega
 ·rintro(h1 | ⟨h1,h2⟩) <;> (left;omega)
theorem Gr.row {p:aq} {n:ao} {l:List (List Int)} {v i:Nat} (h:Gr p n l v i) (hi:¬ax l v i):Gr p n l (v+1) 0 where
 shp:=h.shp
 done:=fun u j hj hb=>h.done u j hj ((zd hj hi).1 hb)
 rest:=fun u j hj hb=>h.rest u j hj fun aS=>hb ((zd hj hi).2 aS)
 low:=fun t ht=>by
  rcases h.low t ht with h1 | ⟨u,j,h1,h2,h3,h4⟩
  ·exact .inl fun u j hj hb=>h1 u j hj ((zd hj hi).1 hb)
  ·exact .inr ⟨u,j,(zd h2 hi).2 h1,h2,h3,h4⟩
theorem Gr.ext {p:aq} {n:ao} {l t:List (List Int)} {v i:Nat} (h:Gr p n l v i) (he:TX l t v i):yY l t:=fun u j hj h0=>by
 by_cases hb:xg u j v i
 ·exact(he u j hj hb).symm
 ·have:=h.rest u j hj hb;omega
theorem sO {l:List (List Int)} {v i:Nat} {row:List Int} {y:Int} (hv:l[v]?=some row):cO l (l.set v (row.set i y)):=by
 refine⟨zS,fun u=>?_⟩
 by_cases e:v=u
 ·subst e;rw[ag hv,zDd,Zav (ah hv)];simp
 ·rw[zDd,zDd,Zaw e]
theorem Gr.step {p:aq} {n:ao} {l:List (List Int)} {v i:Nat} {row:List Int} {a:Int} (h:Gr p n l v i) (hv:l[v]?=some row) (hi:i<row.length) (ha:0<=a/\a<=p.labels-1) (LO:∀t,lR p n t->yY l t->a<=ak t v i):Gr p n (l.set v (row.set i a)) v (i+1):=by
 have iR:=sO (i:=i) (y:=a) hv;have hc:=fun u j=>eJ (y:=a) hv hi u j
 have cH:ax l v i:=by unfold ax;rw[ag hv];exact hi
 have aP:∀ {u j:Nat},xg u j v (i+1)->¬(u=v/\j=i)->xg u j v i:=fun {u j} h1 h2=>by unfold xg at h1 ⊢;omega
 have aS:∀ {u j:Nat},xg u j v i->xg u j v (i+1)/\¬(u=v/\j=i):=fun {u j} h1=>by unfold xg at h1 ⊢;omega
 refine⟨h.shp.same iR,fun u j hj hb=>?_,fun u j hj hb=>?_,fun t ht=>?_⟩
 ·rw[hc]
  split
  ·exact ha
  ·rename_i e
   exact h.done u j (hj.same iR.symm) (aP hb e)
 ·rw[hc]
  split
  ·rename_i e
   exact absurd (by unfold xg;omega) hb
  ·exact h.rest u j (hj.same iR.symm) fun afb=>hb (aS afb).1
 ·have eq':∀ {x y:Nat},(xg x y v i\/(x=v/\y=i))->TX l t x y->TX (l.set v (row.set i a)) t x y:=fun {x y} uN he u j hj hb=>by
   rw[hc,if_neg]
   ·exact he u j (hj.same iR.symm) hb
   ·rintro⟨rfl,rfl⟩;unfold xg at hb uN;omega
  rcases h.low t ht with h1 | ⟨u,j,h1,h2,h3,h4⟩
  ·have EB:=LO t ht (h.ext h1)
   by_cases e:a=ak t v i
   ·left
    intro u j hj hb;rw[hc]
    split
    ·rename_i e2
     obtain⟨rfl,rfl⟩:=e2;exact e
    ·rename_i e2
     exact h1 u j (hj.same iR.symm) (aP hb e2)
   ·right
    refine⟨v,i,by unfold xg;omega,cH.same iR,eq' (.inr ⟨rfl,rfl⟩) h1,?_⟩
    rw[hc,if_pos ⟨rfl,rfl⟩];omega
  ·right
   refine⟨u,j,(aS h1).1,h2.same iR,eq' (.inl h1) h3,?_⟩;rw[hc,if_neg (aS h1).2];exact h4
theorem Gr.fin {p:aq} {n:ao} {l s:List (List Int)} {v:Nat} (h:Gr p n l v 0) (hv:n.ends.length<=v) (hs:lR p n s) (he:yY l s):p_ p n l:=by
 have c_:∀u j,ax l u j->xg u j v 0:=fun u j hj=>by
  have:=hj.lt
  have h1:=h.shp.1;exact .inl zO
 have e:l=s:=xh (h.shp.two hs.shp) fun u j hj=>(he u j hj (h.done u j hj (c_ u j hj)).1).symm
 have hb:∀ {u j:Nat},ax l u j->(xg u j l.length 0):=fun hj=>y_ hj
 refine⟨e ▸ hs,fun t ht=>?_⟩
 rcases h.low t ht with h1 | ⟨u,j,h1,h2,h3,h4⟩
 ·exact .inl fun u j hj _=>h1 u j hj (c_ u j hj)
 ·exact .inr ⟨u,j,hb h2,h2,h3,h4⟩
theorem rS {x:Int} (hx:0<=x/\x<256) (h0:x≠0):∃c,c<8/\aO x c=true:=by
 have lw:∀x:Fin 256,x.1≠0->∃c:Fin 8,x.1.testBit c.1=true:=by decide +kernel
 obtain⟨c,hc⟩:=lw ⟨x.toNat,zO⟩ (by simp only;omega)
 exact⟨c.1,c.2,hc⟩
section
variable {p : aq} {n : ao} {l M : List (List Int)} (cC : bV p = true) (hn : ar n = true) (hc : io n) (hR : Xi p n l M)
include cC hn hc hR
theorem adb (jh:∀v i,ax M v i->ak M v i≠0):AC p n M:=by
 have vP:=cC;unfold bV at vP;simp only[Zai,aB]at vP
 refine aaV hn hc hR.ms.shp (fun v i hv hi=>?_) (fun v i c lC hi hb=>hR.fix v i c lC hi (.inl (by rw[<- hR.ms.shp.1];exact hi.lt)) hb) zO
 have cH:ax M v i:=by unfold ax;rw[hR.ms.shp.2];exact hi
 obtain⟨es,aU⟩:=au n.ends v hv
 obtain⟨row,x,h1,h2,h3,h4,h5⟩:=hR.ms.at aU (j:=i) (by rw[ag aU]at hi;exact hi)
 obtain⟨c,c1,c2⟩:=rS h5 (by rw[<- h4];exact jh v i cH)
 rw[<- h4]at c2;exact⟨c,(hR.sub v i c c1 cH c2).1,c2⟩
omit hn hc in
theorem aaX {s:List (List Int)} (hs:lR p n s) (hS:Sub s M) (hl:dv n l):yY l s:=fun v i hi h0=>by
 have vP:=cC;unfold bV at vP;simp only[Zai,aB]at vP;have jS:ax s v i:=hi.same (hl.two hs.shp);have hr:=hs.rng v i jS;have h1:=hR.sub v i _ zO (hi.same (hl.two hR.ms.shp)) (hS v i jS);rcases h1.2 with h2 | h2
 ·omega
 ·omega
theorem LP (hl:dv n l) (jh:∀v i,ax M v i->ak M v i≠0) {v i a:Nat} (hi:ax l v i) (ha:a<8) (hb:aO (ak M v i) a=true):∃s,lR p n s/\yY l s/\ak s v i=(a:Int):=by
 have jS:=hi.same (hl.two hR.ms.shp);obtain⟨s,h1,h2,h3⟩:=uc cC hn hc hR.ms.shp (adb cC hn hc hR jh) jS (hR.sub v i a ha jS hb).1 hb;exact⟨s,h1,aaX cC hR h1 h2 hl,h3⟩
theorem aaY (hl:dv n l) (jh:∀v i,ax M v i->ak M v i≠0):∃s,lR p n s/\yY l s:=by
 by_cases h:∃v i,ax l v i
 ·obtain⟨v,i,hi⟩:=h;have jS:=hi.same (hl.two hR.ms.shp)
  obtain⟨row,aG⟩:=au n.ends v (by rw[<- hl.1];exact hi.lt)
  obtain⟨_,x,_,_,_,h4,h5⟩:=hR.ms.at aG (j:=i) (by unfold ax at hi;rw[hl.2,ag aG]at hi;exact hi)
  obtain⟨c,c1,c2⟩:=rS h5 (by rw[<- h4];exact jh v i jS)
  rw[<- h4]at c2;obtain⟨s,h1,h2,-⟩:=LP cC hn hc hR hl jh hi c1 c2;exact⟨s,h1,h2⟩
 ·have i_:∀v i,¬ax l v i:=fun v i hi=>h ⟨v,i,hi⟩
  refine⟨l,⟨hl,fun v i hi=>absurd hi (i_ v i),?_⟩,fun v i hi=>absurd hi (i_ v i)⟩
  rw[eO];intro v hv;refine⟨(vo cC _).2 fun hd=>?_,fun i hi=>absurd hi (i_ v i)⟩
  have vP:=cC;unfold bV at vP;simp only[Zai,aB]at vP
  have:=i_ v 0
  unfold ax at this;omega
omit cC hn hc in
theorem aaZ {v i a:Nat} (hi:ax l v i) (hl:dv n l) (i_:∀c,c<a->aO (ak M v i) c=false) {t:List (List Int)} (ht:lR p n t) (he:yY l t):(a:Int)<=ak t v i:=by
 have jS:=hi.same (hl.two ht.shp);have h1:=hR.sol t ht he v i jS;have h2:=ht.rng v i jS
 by_cases h3:(ak t v i).toNat<a
 ·rw[i_ _ h3]at h1;cases h1
 ·omega
omit cC hn hc in
theorem Y1 (hl:dv n l) {s:List (List Int)} (hs:lR p n s) (he:yY l s):∀v i,ax M v i->ak M v i≠0:=fun v i hi h0=>by
 have h1:=hR.sol s hs he v i (hi.same (hR.ms.shp.two hs.shp));rw[h0]at h1;unfold aO at h1;simp at h1
end
theorem LQ (l:List (List Int)):(gb l).Pairwise fun a b=>a.1<b.1\/(a.1=b.1/\a.2<b.2):=by
 unfold gb kX zH
 rw[List.pairwise_flatMap];refine⟨fun v _=>?_,?_⟩
 ·rw[List.pairwise_map];refine((List.pairwise_lt_range (n:=(l.getD v []).length)).filter _).imp fun {a b} oe=>.inr ⟨rfl,?_⟩
  show(a:Int)<(b:Int)
  omega
 ·refine(List.pairwise_lt_range (n:=l.length)).imp fun {a b} oe x hx y hy=>?_
  obtain⟨i,-,rfl⟩:=List.mem_map.1 hx;obtain⟨j,-,rfl⟩:=List.mem_map.1 hy
  left
  show(a:Int)<(b:Int)
  omega
section
variable {p : aq} {n : ao} {l0 : List (List Int)} {ps : List (Int × Int)} (hp : bV p = true) (hn : ar n = true) (aK : dv n l0) (hP : ZW l0 ps)
include hp hn aK hP
theorem go_first {most:Int} {s:List (List Int)} (hs:C0 p n l0 s):∀(f:Nat) (l:List (List Int)) (k:Nat) (st:Int),ld p n l0 ps l k->k<=ps.length->ky ps.length (kJ ps l) (kJ ps s) k->(lZ p n.ends ps most f l k st).1=1->ky ps.length (kJ ps (lZ p n.ends ps most f l k st).2.1) (kJ ps s) ps.length
 | 0,_,_,_,_,_,_,h1=>by simp[lZ]at h1
 | f+1,l,k,st,h,hk,hL,hr=>by
  unfold lZ at hr ⊢
  rw[if_neg zO]at hr ⊢
  by_cases h1:k=ps.length
  ·subst h1;rw[if_pos rfl];exact hL
  ·rw[if_neg zO]at hr ⊢;obtain⟨e,he⟩:=au ps k zO;have oV:=ah he
   rw[show(ps.getD (k:Int).toNat (0,0))=e by rw[Zag];exact ag he]at hr ⊢
   have eD:∀m,m<ps.length->0<=(kJ ps s).getD m 0/\(kJ ps s).getD m 0<=p.labels-1:=fun m hm=>by
    obtain⟨g,hg⟩:=au ps m hm;obtain⟨v,i,rfl,hi,-⟩:=hP.in_ m g hg;rw[gy hg,j8];exact hs.rng v i hi
   by_cases h2:dt l e=p.labels-1
   ·simp only[h2,if_true]at hr ⊢
    obtain⟨h0,hL2⟩:=hL.back oV (by rw[gy he (l:=l),h2];exact(eD k oV).2)
    rw[show(k:Int)-1=((k-1:Nat):Int)by omega]at hr ⊢
    rw[<- kS hP h.shp he]at hL2;exact go_first hs f _ _ _ (h.back hp hn aK hP he h0) zO hL2 hr
   ·simp only[if_neg h2]at hr ⊢
    by_cases h3:st=most
    ·rw[if_pos h3]at hr;cases hr
    ·simp only[if_neg h3]at hr ⊢
     have Ov:=hL.go oV (vu ps l);rw[gy he]at Ov;cases hg:(fJ p ((dX l e (dt l e+1)).getD e.1.toNat [])&&ji p n.ends (dX l e (dt l e+1)) e)
     ·rw[hg,if_neg zS]at hr;rw[if_neg zS];refine go_first hs f _ _ _ (h.stay hp hn aK hP he h2) hk ?_ hr;rcases Ov with h4 | h4
      ·rw[kS hP h.shp he];exact h4
      ·rw[Hw hp hn aK hP hs h he h4]at hg;cases hg
     ·rw[hg,if_pos rfl]at hr;rw[if_pos rfl];rw[show(k:Int)+1=((k+1:Nat):Int)by omega]at hr ⊢
      have hst:=h.on hp hn aK hP he h2 hg;refine go_first hs f _ _ _ hst zO ?_ hr;rw[kS hP h.shp he];rcases Ov with h4 | h4
      ·exact h4.up oV
      ·refine ky.same h4 fun aA=>?_
       have h6:=hst.st.at_ aA;have h7:=eD (k+1) aA;have h8:=h.st.hi (k+1) zO aA;rw[getD_set_ne zO,h8];omega
end
theorem BQ {p:aq} {n:ao} {s:List (List Int)} (h:lR p n s):C0 p n (aX n) s:=by
 have hs:=(aN n).two h.shp
 exact⟨hs,fun v i hi=>h.rng v i (hi.same hs),fun v i hi h0=>by rw[fP hi]at h0;omega,h.held⟩
theorem Pj {n:ao} {s t:List (List Int)} (hs:cO (aX n) s) (hL:ky (gb (aX n)).length (kJ (gb (aX n)) s) (kJ (gb (aX n)) t) (gb (aX n)).length):TY s t s.length 0:=by
 have hP:=iv (aX n)
 have idx:∀u j,ax s u j->∃k,(gb (aX n))[k]?=some ((u:Int),(j:Int)):=fun u j hj=>by
  have h1:=hj.same hs.symm
  exact hP.all u j h1 (by rw[fP h1];omega)
 have cel:∀ {k u j:Nat} (x:List (List Int)),(gb (aX n))[k]?=some ((u:Int),(j:Int))->(kJ (gb (aX n)) x).getD k 0=ak x u j:=fun x hk=>by rw[gy hk,j8]
 rcases hL with⟨k,h1,h2,h3,h4⟩ | ⟨-,h2⟩
 ·obtain⟨e,he⟩:=au _ k h2;obtain⟨v,i,rfl,hi,-⟩:=hP.in_ k e he;rw[cel s he,cel t he]at h4;refine .inr ⟨v,i,y_ (hi.same hs),hi.same hs,fun u j hj hb=>?_,h4⟩
  obtain⟨k',NU⟩:=idx u j hj
  have aA:k'<k:=by
   rcases Nat.lt_trichotomy k' k with h5 | h5 | h5
   ·exact h5
   ·subst h5;rw[he]at NU
    have:=Zbx NU
    simp only[Prod.mk.injEq]at this;unfold xg at hb;omega
   ·exfalso
    obtain⟨l1,e1⟩:=Zbs.1 he;obtain⟨l2,e2⟩:=Zbs.1 NU;have h6:=Zbg.1 (LQ (aX n)) k k' l1 l2 h5;rw[e1,e2]at h6;simp only at h6
    unfold xg at hb;omega
  have:=h3 k' aA
  rw[cel s NU,cel t NU]at this;exact this.symm
 ·refine .inl fun u j hj _=>?_
  obtain⟨k',NU⟩:=idx u j hj
  have:=h2 k' (ah NU)
  rw[cel s NU,cel t NU]at this;exact this.symm
theorem TZ {p:aq} {n:ao} {most:Int} (h:dm p n most=1):p_ p n (eQ p n most):=by
 unfold dm at h;unfold eQ;obtain⟨eZ,LR⟩:=RP h;refine⟨lR.of (aN n) LR,fun t ht=>Pj LR.shp ?_⟩
 have hT:=BQ ht;unfold bz at h;rw[if_pos eZ]at h;unfold cG;rw[if_pos eZ,if_pos h];unfold qG at eZ;simp only[Zai]at eZ;obtain⟨⟨⟨h1,h2⟩,h3⟩,h4⟩:=eZ;obtain⟨iR,cH⟩:=ru h3;have hm:=aB.1 h4
 unfold VZ P7 at h ⊢
 split at h
 ·rename_i hh
  rw[if_pos hh];have hA:=zL EU p n.ends (gb (aX n)) most (bR most 0 0) (bR most 0 0) () (aX n) 0 0 hm.1 zO zO (Zaj _) (Zaj _);rw[hA]at h ⊢;simp only[EU]at h ⊢
  by_cases hr:(lZ p n.ends (gb (aX n)) most (bR most 0 0) (aX n) 0 0).1=1
  ·simp only[hr,if_true]at h ⊢
   exact go_first h1 h2 (dv.of iR) (iv _) hT _ (aX n) 0 0 (su h1 h2 (dv.of iR) (iv _) cH hh) (Zac _) (DV h1 h2 (dv.of iR) (iv _) hT cH hh) hr
  ·simp only[if_neg hr]at h;exact absurd h hr
 ·cases h
def qc (x:Int) (lb:Nat):Int:=match lb with
 | 0=>0
 | lb+1=>qc x lb+(if aO x lb=true then (2:Int)^lb else 0)
theorem T1 {x:Int} {lb:Nat} (hx:0<=x/\x<256) (eK:lb<=8) (h:∀c,c<8->aO x c=true->c<lb):qc x lb=x:=by
 have lw:∀(x:Fin 256) (lb:Fin 9),(∀c:Fin 8,x.1.testBit c.1=true->c.1<lb.1)->qc (x.1:Int) lb.1=(x.1:Int):=by
  decide +kernel
 have h1:=lw ⟨x.toNat,zO⟩ ⟨lb,zO⟩ (fun c hc=>h c.1 c.2 hc)
 simp only at h1
 rw[show((x.toNat:Nat):Int)=x by omega]at h1
 exact h1
theorem I2 {x:List Int} {y:Int}:∀j,j<x.length->x.getD j 0=y->∃i,i<x.length/\x.getD i 0=y/\(0<i->x.getD (i-1) 0≠y)
 | 0,h,e=>⟨0,h,e,fun h0=>zO⟩
 | j+1,h,e=>by
  by_cases e2:x.getD j 0=y
  ·exact I2 j zO e2
  ·exact⟨j+1,h,e,fun _=>by rw[show j+1-1=j by omega];exact e2⟩
theorem sP (ms:List Int):∀(r k:Nat) (x:List Int),x.length=r->(lH ms r k x=true↔∃ys:List Int,ys.Perm x/\∀j,j<r->aO (ms.getD (k+j) 0) (ys.getD j 0).toNat=true)
 | 0,k,x,hx=>by
  rw[List.length_eq_zero_iff.1 hx];exact⟨fun _=>⟨[],List.Perm.refl _,fun j hj=>zO⟩,fun _=>rfl⟩
 | r+1,k,x,hx=>by
  rw[rN,Zcg]
  have hl:∀j,j<x.length->(x.take j++x.drop (j+1)).length=r:=fun j hj=>by rw[Zay,Zby,List.length_drop];omega
  have uJ:∀j,j<x.length->x=x.take j++x.getD j 0::x.drop (j+1):=fun j hj=>by
   rw[zDd,Zbu hj,Option.getD_some,<- Zbt hj,List.take_append_drop]
  constructor
  ·rintro⟨j,hj,h⟩;have hj:=Zab.1 hj;unfold rM at h;simp only[Zai]at h;obtain⟨ys,y1,y2⟩:=(sP ms r (k+1) _ (hl j hj)).1 h.2.2;refine⟨x.getD j 0::ys,?_,fun q hq=>?_⟩
   ·have h1:(x.getD j 0::ys).Perm (x.getD j 0::(x.take j++x.drop (j+1))):=y1.cons _;have h2:(x.take j++x.getD j 0::x.drop (j+1)).Perm (x.getD j 0::(x.take j++x.drop (j+1))):=List.perm_middle;have h3:=h1.trans h2.symm;rw[<- uJ j hj]at h3;exact h3
   ·cases q with
    | zero=>simpa using h.2.1
    | succ q=>
     have:=y2 q zO
     rw[show k+(q+1)=k+1+q by omega]
     simpa using this
  ·rintro⟨ys,y1,y2⟩
   match ys,y1,y2 with
   | [],y1,_=>have:=y1.length_eq;simp at this;omega
   | y::ys,y1,y2=>
    have hy:y∈x:=y1.subset (List.mem_cons_self ..);obtain⟨j0,hj0,afc⟩:=List.getElem_of_mem hy
    obtain⟨j,hj,uN,Di⟩:=I2 (x:=x) (y:=y) j0 hj0 (by rw[zDd,Zbu hj0];exact afc)
    refine⟨j,Zab.2 hj,?_⟩;unfold rM;simp only[Zai];refine⟨?_,?_,?_⟩
    ·unfold skipB;rw[uN]
     by_cases h0:0<j
     ·rw[decide_eq_false (Di h0)];simp
     ·rw[decide_eq_false h0];rfl
    ·rw[uN]
     have:=y2 0 zO
     simpa using this
    ·refine(sP ms r (k+1) _ (hl _ hj)).2 ⟨ys,?_,fun q hq=>?_⟩
     ·have h2:(x.take j++x.getD j 0::x.drop (j+1)).Perm (x.getD j 0::(x.take j++x.drop (j+1))):=List.perm_middle;rw[<- uJ j hj,uN]at h2;exact(List.perm_cons y).1 (y1.trans h2)
     ·have:=y2 (q+1) zO
      rw[show k+1+q=k+(q+1)by omega]
      simpa using this
theorem BS {p:aq} (cC:bV p=true) {ms:List Int} (hd:(ms.length:Int)=p.degree):chooseB p ms=true↔∃ys:List Int,ys.length=ms.length/\p.nodes.contains (dz ys)=true/\∀j,j<ms.length->aO (ms.getD j 0) (ys.getD j 0).toNat=true:=by
 unfold chooseB;rw[Zcg];constructor
 ·rintro⟨x,hx,h⟩;have h0:=iu cC hx;obtain⟨ys,y1,y2⟩:=(sP ms ms.length 0 x zO).1 h;have e:dz ys=x:=List.Perm.eq_of_pairwise (le:=(· <= ·)) (fun a b _ _ h1 h2=>Int.le_antisymm h1 h2) (fa _) h0.2.1 ((ft ys).trans y1)
  refine⟨ys,by rw[y1.length_eq];omega,by rw[e,Zbv];exact hx,fun j hj=>?_⟩
  have:=y2 j hj
  rwa [Zba]at this
 ·rintro⟨ys,y0,y1,y2⟩;refine⟨dz ys,Zbv.1 y1,(sP ms ms.length 0 _ (by rw[(ft ys).length_eq,y0])).2 ⟨ys,(ft ys).symm,fun j hj=>?_⟩⟩
  rw[Zba];exact y2 j hj
theorem vL {a c:Nat} (ha:a<8) (hc:c<8):aO ((2^a:Nat):Int) c=decide (c=a):=by
 have:=(pZ ⟨a,ha⟩).2.2 ⟨c,hc⟩
 unfold aO;rw[Zag];exact this
theorem rT {row:List Int} {i j:Nat} {y:Int} (hi:i<row.length):(row.set i y).getD j 0=if j=i then y else row.getD j 0:=by
 simp only[zDd,Zci]
 by_cases e:i=j
 ·subst e;rw[if_pos rfl,if_pos hi,if_pos rfl];rfl
 ·rw[if_neg e,if_neg fun h=>e h.symm]
section
variable {p : aq} {n : ao} {M : List (List Int)} (cC : bV p = true) (hn : ar n = true) (hS : dv n M)
include cC hn hS
theorem T6 {s:List (List Int)} (hs:lR p n s) (hM:Sub s M) {v i:Nat} (hi:ax s v i):rR p n M v i (ak s v i).toNat=true:=by
 have eV:=(aE cC).1
 have hv:v<n.ends.length:=by rw[<- hs.shp.1];exact hi.lt
 obtain⟨m1,-,-⟩:=pT hn hs.shp hi;have r1:=hs.rng v i hi;have r2:=hs.rng _ _ m1;have hp:=((eO.1 hs.held) v hi.lt).2 i hi
 have he:edgeB p (ak s v i) (ak s (cF n v i).1 (cF n v i).2)=true:=by
  unfold tK at hp;simp only[Zbp,decide_eq_true_eq]at hp;rcases hp with h | h | h
  ·omega
  ·omega
  ·exact h
 unfold rR;rw[Zai];refine⟨?_,?_⟩
 ·unfold tx;rw[Zcg];refine⟨(ak s (cF n v i).1 (cF n v i).2).toNat,Zab.2 zO,?_⟩;rw[hM _ _ m1,Zcl r1.1,Zcl r2.1,he];rfl
 ·rw[Zbp]
  by_cases hd:((n.ends.getD v []).length:Int)=p.degree
  ·right
   have nd:(M.getD v []).length=(n.ends.getD v []).length:=hS.2 v;have Z0:(s.getD v []).length=(n.ends.getD v []).length:=hs.shp.2 v
   have jS:i<(M.getD v []).length:=by unfold ax at hi;omega
   rw[BS cC (by rw[Zau,nd];exact hd)]
   refine⟨s.getD v [],by rw[Zau];omega,?_,fun j hj=>?_⟩
   ·have h1:=((eO.1 hs.held) v hi.lt).1;rw[kG cC]at h1
    ·unfold l_ at h1
     rw[beq_iff_eq.2 (by rw[Z0];exact hd)]at h1
     simpa using h1
    ·intro x hx;obtain⟨k,hk⟩:=List.getElem?_of_mem hx;have h2:=hs.rng v k (ah hk);unfold ak at h2;rw[ag hk]at h2;exact h2.1
   ·rw[Zau]at hj
    have oC:ax s v j:=by unfold ax;omega
    have r3:=hs.rng v j oC;rw[rT jS]
    split
    ·rename_i e
     subst e;rw[vL zO (by show(ak s v j).toNat<8;omega)];exact decide_eq_true rfl
    ·exact hM v j oC
  ·left
   rw[decide_eq_false hd];rfl
theorem Xl (hc:io n) (hs:∀v i:Nat,v<n.ends.length->i<(n.ends.getD v []).length->∃a:Nat,a<p.labels.toNat/\aO (ak M v i) a=true) (hf:∀v i c:Nat,c<p.labels.toNat->ax M v i->aO (ak M v i) c=true->rR p n M v i c=true):AC p n M:=by
 have eV:=(aE cC).1
 have cH:∀ {v i:Nat},i<(n.ends.getD v []).length->ax M v i:=fun h=>by unfold ax;rw[hS.2];exact h
 refine⟨fun v i w k a ha hl hb=>?_,fun v i a ha hv hi hb=>?_,hs⟩
 ·obtain⟨l1,l2,l3,l4⟩:=hl.lt hn;have h1:=hf v i a ha (cH l3) hb;unfold rR at h1;rw[Zai]at h1;have hm:=(Lk.of hn l3).fn hl;have h2:=h1.1;unfold tx at h2;rw[Zcg]at h2;obtain⟨b,aP,aS⟩:=h2;rw[Zai,hm.1,hm.2]at aS;exact⟨b,Zab.1 aP,aS.2,aS.1⟩
 ·have h1:=hf v i a ha (cH hi) hb;unfold rR at h1;rw[Zai,Zbp]at h1;have nd:(M.getD v []).length=(n.ends.getD v []).length:=hS.2 v
  by_cases e:((n.ends.getD v []).length:Int)=p.degree
  ·have h2:=h1.2.resolve_left (by rw[decide_eq_true e];simp)
   have jS:i<(M.getD v []).length:=zO
   rw[BS cC (by rw[Zau,nd];exact e)]at h2
   obtain⟨ys,y1,y2,y3⟩:=h2;rw[Zau]at y1 y3
   have qv:∀j,j<(n.ends.getD v []).length->0<=ys.getD j 0/\ys.getD j 0<=p.labels-1:=fun j hj=>by
    have h4:=iu cC (Zbv.1 y2);exact h4.2.2 _ ((ft ys).symm.subset (gJ zO))
   have hyi:ys.getD i 0=(a:Int):=by
    have h5:=y3 i jS;rw[rT jS,if_pos rfl]at h5;have h6:=qv i hi;rw[vL zO zO]at h5
    have:=of_decide_eq_true h5
    omega
   refine⟨ys,zO,by unfold l_;rw[y2];simp,hyi,fun k hk=>?_⟩
   have h6:=qv k hk;refine⟨(ys.getD k 0).toNat,zO,zO,?_⟩
   by_cases ek:k=i
   ·subst ek;rw[hyi,Zag];exact hb
   ·have h5:=y3 k zO;rw[rT jS,if_neg ek]at h5;exact h5
  ·obtain⟨row,r1,r2,r3⟩:=Fw hs ha hv hb _ (Zaj _);refine⟨row,r1,?_,r2 hi,r3⟩;unfold l_
   rw[beq_eq_false_iff_ne.2 (by rw[r1];exact e)]
   rfl
end
theorem Xm:∀x:Fin 256,∀b:Fin 8,x.1.testBit b.1=true->IntKind.i64.wrap ((x.1:Int)-((2^b.1:Nat):Int))=((x.1-2^b.1:Nat):Int)/\x.1-2^b.1<x.1/\∀c:Fin 8,(x.1-2^b.1).testBit c.1=(x.1.testBit c.1 && !decide (c.1=b.1)):=by decide +kernel
theorem T7 {x:Int} {b:Nat} (hx:0<=x/\x<256) (hb:b<8) (h:aO x b=true):∃y:Int,IntKind.i64.wrap (x-((2^b:Nat):Int))=y/\(0<=y/\y<256)/\(∀c,c<8->aO y c=(aO x c && !decide (c=b)))/\y<x:=by
 obtain⟨h1,h2,h3⟩:=Xm ⟨x.toNat,zO⟩ ⟨b,hb⟩ h
 simp only at h1 h2 h3
 rw[show((x.toNat:Nat):Int)=x by omega]at h1
 refine⟨_,h1,⟨Int.natCast_nonneg _,zO⟩,fun c hc=>?_,zO⟩
 have:=h3 ⟨c,hc⟩
 unfold aO;rw[Zag];exact this
def JF (p:aq) (n:ao) (M:List (List Int)) (lb v i a:Nat):Prop:=∀u j c:Nat,c<lb->ax M u j->(u<v\/u=v/\(j<i\/j=i/\c<a))->aO (ak M u j) c=true->rR p n M u j c=true
theorem JF.step {p:aq} {n:ao} {M:List (List Int)} {lb v i a:Nat} (h:JF p n M lb v i a) (h':aO (ak M v i) a=true->rR p n M v i a=true):JF p n M lb v i (a+1):=fun u j c hc hi hl hb=>by
 rcases hl with h1 | ⟨h1,h2 | ⟨h2,h3⟩⟩
 ·exact h u j c hc hi (.inl h1) hb
 ·exact h u j c hc hi (.inr ⟨h1,.inl h2⟩) hb
 ·rcases Zbi c a with h4 | h4
  ·exact h u j c hc hi (.inr ⟨h1,.inr ⟨h2,h4⟩⟩) hb
  ·obtain rfl:c=a:=zO
   subst h1 h2;exact h' hb
theorem JF.port {p:aq} {n:ao} {M:List (List Int)} {lb v i:Nat} (h:JF p n M lb v i lb):JF p n M lb v (i+1) 0:=fun u j c hc hi hl hb=>by
 refine h u j c hc hi ?_ hb;rcases hl with h1 | ⟨h1,h2 | ⟨h2,h3⟩⟩
 ·exact .inl h1
 ·exact .inr ⟨h1,zO⟩
 ·omega
theorem JF.node {p:aq} {n:ao} {M:List (List Int)} {lb v i:Nat} (h:JF p n M lb v i 0) (hl:¬ax M v i):JF p n M lb (v+1) 0 0:=fun u j c hc hi hx hb=>by
 refine h u j c hc hi ?_ hb;rcases hx with h1 | ⟨h1,h2 | ⟨h2,h3⟩⟩
 ·rcases Zbi u v with h4 | h4
  ·exact .inl h4
  ·obtain rfl:u=v:=zO
   right
   unfold ax at hl hi;exact⟨rfl,.inl zO⟩
 ·omega
 ·omega
structure LS (wS:World) (g cm m:Nat) (M:List (List Int)) (S:List Nat) (W:World):Prop where
 sn:ab wS W
 ow:bu W wS.heap.size (.slice (some ⟨g,0,none⟩) m cm) M S
section
variable {wS W W' : World} {g cm m : Nat} {M : List (List Int)} {S : List Nat}
theorem LS.agU (h:LS wS g cm m M S W) (hs:ab W W'):LS wS g cm m M S W':=⟨h.sn.after hs,aL.agU h.ow hs.below⟩
theorem LS.put (h:LS wS g cm m M S W) {v i:Nat} {row:List Int} {x:Int} (hv:M[v]?=some row) (hi:row[i]?=some x):
  ∃gr cr,W.cell? ⟨g,v,none⟩=some (.slice (some ⟨gr,0,none⟩) row.length cr)/\W.cell? ⟨gr,i,none⟩=some (.int .i64 x)/\W.frozen? ⟨gr,i,none⟩=false/\∀y,LS wS g cm m (M.set v (row.set i y)) S (W.setCell ⟨gr,i,none⟩ (.int .i64 y)):=by
 obtain⟨gr,cr,h1,h2,h3,h4,h5,h6⟩:=eY h.ow hv hi;exact⟨gr,cr,h1,h2,h3,fun y=>⟨h.sn.setCell (p:=⟨gr,i,none⟩) (aL.range h.ow gr h4).1 _,h6 y⟩⟩
end
def tb (p:aq) (n:ao) (M:List (List Int)) (lb v i a:Nat) (t:Value) (M':List (List Int)):Prop:=uA n M'/\((∀s,lR p n s->Sub s M->Sub s M')/\∀u j c:Nat,c<8->aO (ak M' u j) c=true->aO (ak M u j) c=true)/\((t=.bool false/\M'=M/\JF p n M lb v i a)\/(t=.bool true/\BG M'<BG M))
theorem tb.port {p:aq} {n:ao} {M M':List (List Int)} {lb v i:Nat} {t:Value} (h:tb p n M lb v i lb t M'):tb p n M lb v (i+1) 0 t M':=⟨h.1,h.2.1,h.2.2.imp (fun q=>⟨q.1,q.2.1,q.2.2.port⟩) id⟩
theorem tb.node {p:aq} {n:ao} {M M':List (List Int)} {lb v i:Nat} {t:Value} (h:tb p n M lb v i 0 t M') (hl:¬ax M' v i):tb p n M lb (v+1) 0 0 t M':=⟨h.1,h.2.1,h.2.2.imp (fun q=>⟨q.1,q.2.1,q.2.2.node (q.2.1 ▸ hl)⟩) id⟩
theorem tb.skip {p:aq} {n:ao} {M M':List (List Int)} {lb v i a:Nat} {t:Value} (h:tb p n M lb v i a t M') (h':aO (ak M' v i) a=true->rR p n M' v i a=true):tb p n M lb v i (a+1) t M':=⟨h.1,h.2.1,h.2.2.imp (fun q=>⟨q.1,q.2.1,q.2.2.step (q.2.1 ▸ h')⟩) id⟩
theorem tb.cut {p:aq} {n:ao} {M M':List (List Int)} {lb v i a:Nat} {t:Value} (h:tb p n M lb v i a t M') (hp:bV p=true) (hn:ar n=true) (eK:p.labels<=8) {row:List Int} {x y:Int} (hv:M'[v]?=some row) (hi:row[i]?=some x) (hy:0<=y/\y<256) (hb:∀c,c<8->aO y c=(aO x c && !decide (c=a))) (aA:y<x) (i_:rR p n M' v i a=false):tb p n M lb v i (a+1) (.bool true) (M'.set v (row.set i y)):=by
 refine⟨h.1.put hv hy,⟨fun s hs hM=>?_,fun u j c hc t_=>?_⟩,.inr ⟨rfl,?_⟩⟩
 ·have h1:=h.2.1.1 s hs hM
  refine Ee h1 hv hi hb (fun u j hj=>zX (hs.rng u j hj)) fun hj e=>?_
  have h2:=T6 hp hn h.1.shp hs h1 hj;rw[e,i_]at h2;cases h2
 ·rw[eJ hv (ah hi)]at t_
  split at t_
  ·rename_i e
   obtain⟨rfl,rfl⟩:=e;rw[hb c hc]at t_
   have e1:ak M' u j=x:=by unfold ak;rw[ag hv,ag hi]
   refine h.2.1.2 u j c hc ?_;rw[e1];simp only[Zai]at t_;exact t_.1
  ·exact h.2.1.2 u j c hc t_
 ·have h4:=IK hv hi hy.1 aA;rcases h.2.2 with q | q
  ·rw[<- q.2.1];exact h4
  ·omega
structure Qn (p:aq) (n:ao) (M M':List (List Int)):Prop where
 ms:uA n M'
 sol:∀s,lR p n s->Sub s M->Sub s M'
 sub:∀v i c:Nat,c<8->aO (ak M' v i) c=true->aO (ak M v i) c=true
theorem Qn.refl {p:aq} {n:ao} {M:List (List Int)} (h:uA n M):Qn p n M M:=⟨h,fun _ _ h=>h,fun _ _ _ _ h=>h⟩
theorem Qn.next {p:aq} {n:ao} {M M1 M2:List (List Int)} {lb v i a:Nat} {t:Value} (h:Qn p n M M1) (h2:tb p n M1 lb v i a t M2):Qn p n M M2:=⟨h2.1,fun s hs hM=>h2.2.1.1 s hs (h.sol s hs hM),fun v i c hc hb=>h.sub v i c hc (h2.2.1.2 v i c hc hb)⟩
def jH (i a:Int) (ws:Nat->Nat->Nat) (k x:Nat):Nat:=if (k:Int)=i then (if (x:Int)=a then 1 else 0) else ws k x
def tz (wt:Nat->Nat->Nat) (L r k:Nat) (x:List Int) (j:Nat):Nat:=bt L fun a=>if (a:Int)∈x.take j then wt k a*f_ wt L r (k+1) (x.erase (a:Int)) else 0
theorem Pk (wt:Nat->Nat->Nat) (L r k:Nat) (x:List Int):tz wt L r k x 0=0:=mW fun a _=>zS
theorem T8 (wt:Nat->Nat->Nat) (L r k:Nat) (x:List Int):tz wt L r k x x.length=f_ wt L (r+1) k x:=by
 unfold tz;rw[Zbq,f_]
theorem I3 {x:List Int} {j:Nat} {a:Int} (hj:x[j]?=some a) (hn:a∉x.take j):x.erase a=x.take j++x.drop (j+1):=by
 have aA:=ah hj
 have e:x=x.take j++a::x.drop (j+1):=by
  have h1:=Zbs.1 hj;rw[<- h1.2,<- Zbt aA,List.take_append_drop]
 conv=>lhs;rw[e]
 rw[List.erase_append_right _ hn,List.erase_cons_head]
theorem Pl (wt:Nat->Nat->Nat) (L r k:Nat) {x:List Int} {j b:Nat} (hj:x[j]?=some (b:Int)) (hb:b<L):tz wt L r k x (j+1)=tz wt L r k x j+(if (b:Int)∈x.take j then 0 else wt k b*f_ wt L r (k+1) (x.take j++x.drop (j+1))):=by
 have ht:x.take (j+1)=x.take j++[(b:Int)]:=by rw[List.take_add_one,hj];rfl
 unfold tz
 by_cases hm:(b:Int)∈x.take j
 ·rw[if_pos hm,Nat.add_zero];refine fh fun a _=>?_
  have:((a:Int)∈x.take (j+1))↔((a:Int)∈x.take j):=by
   rw[ht,Zar,Zbm];exact⟨fun h=>h.elim id (fun e=>e ▸ hm),.inl⟩
  simp only[this]
 ·rw[if_neg hm]
  have h2:wt k b*f_ wt L r (k+1) (x.take j++x.drop (j+1))=bt L fun a=>if a=b then wt k a*f_ wt L r (k+1) (x.erase (a:Int)) else 0:=by
   rw[Ek hb fun a _ jh=>if_neg jh,if_pos rfl,I3 hj hm]
  rw[h2,<- Ej];refine fh fun a _=>?_
  by_cases e:a=b
  ·subst e
   rw[if_pos (by rw[ht];simp),if_neg hm,if_pos rfl,Zba]
  ·have:((a:Int)∈x.take (j+1))↔((a:Int)∈x.take j):=by
    rw[ht,Zar,Zbm];exact⟨fun h=>h.elim id (fun e2=>absurd (Int.ofNat.inj e2) e),.inl⟩
   simp only[this,if_neg e,Nat.add_zero]
theorem I4 {x:List Int} (hs:x.Pairwise (· <= ·)) {j:Nat} {b:Int} (hj:x[j]?=some b):b∈x.take j↔0<j/\x.getD (j-1) 0=b:=by
 have aA:=ah hj;constructor
 ·intro hm;obtain⟨i,hi⟩:=List.getElem?_of_mem hm;have rq:=ah hi;rw[Zby]at rq;rw[List.getElem?_take,if_pos zO]at hi;refine⟨zO,?_⟩;obtain⟨c,hc⟩:=au x (j-1) zO;rw[ag hc];have hp:=Zbg.1 hs;obtain⟨q1,q2⟩:=Zbs.1 hi;obtain⟨q3,q4⟩:=Zbs.1 hc;obtain⟨q5,q6⟩:=Zbs.1 hj
  have h1:c<=b:=by
   have:=hp (j-1) j q3 q5 zO
   rw[q4,q6]at this;exact this
  have h2:b<=c:=by
   rcases Zbi i (j-1)with h | h
   ·have:=hp i (j-1) q1 q3 h
    rw[q2,q4]at this;exact this
   ·have:i=j-1:=zO
    subst this;rw[hc]at hi;exact Int.le_of_eq (Zbx hi).symm
  omega
 ·rintro⟨h0,h1⟩;obtain⟨c,hc⟩:=au x (j-1) zO;rw[ag hc]at h1;subst h1;refine Zaq (i:=j-1) ?_;rw[List.getElem?_take,if_pos zO];exact hc
theorem Fx {x:List Int} (hs:x.Pairwise (· <= ·)) (j:Nat):(x.take j++x.drop (j+1)).Pairwise (· <= ·):=by
 refine hs.sublist ?_;have h1:(x.take j++x.drop j)=x:=List.take_append_drop j x
 conv=>rhs;rw[<- h1]
 exact(List.Sublist.refl _).append (List.drop_sublist_drop_left x (Nat.le_succ j))
def Pm (Wl:List (List Int)) (ws:Nat->Nat->Nat) (i:Int) (L:Nat):Prop:=∀k,k<Wl.length->(k:Int)≠i->∃row,Wl[k]?=some row/\row.length=L/\∀x,x<L->row[x]?=some (aF (ws k x):Int)
theorem BU (Wl:List (List Int)) (ws:Nat->Nat->Nat) (i a:Int) (L:Nat) (Vp:L<=8) (hW8:Wl.length<=100) (hi : -1<=i/\i<=100) (ha:0<=a/\a<=100) (Pn:Pm Wl ws i L):∀(r k:Nat) (v um:Value) (x:List Int) (w:World),bs w v x->bS w um Wl->Wl.length=k+r->x.length<=100->(∀y∈x,0<=y/\y<(L:Int))->x.Pairwise (· <= ·) ->
  Calls Tryz.prog 191 #[v,um,.int .i64 k,.int .i64 i,.int .i64 a] w fun e w'=>e=.returned (.int .i64 (aF (f_ (jH i a ws) L r k x):Nat))/\Below w.heap.size w w'
 | 0,k,v,um,x,w,hv,hu,hr,hx,hy,z6=>by
  obtain⟨A,c,rfl,-,-,-⟩:=hv;obtain⟨A2,c2,rfl,-,-,-⟩:=hu;have hk:k=Wl.length:=zO
  subst hk;clear hr
  have Hz:Hid (((aF (f_ (jH i a ws) L 0 Wl.length x):Nat):Int)=1):=by show _=_;rfl
  rw[Hz.out]
  go_enter Tryz.func191,Tryz.ntmps191
  go_wp2;go_ret;exact⟨rfl,Zaf _ _⟩
 | r+1,k,v,um,x,w,hv,hu,hr,hx,hy,z6=>by
  have IH0:=BU Wl ws i a L Vp hW8 hi ha Pn r (k+1);rw[show((k+1:Nat):Int)=(k:Int)+1 by omega]at IH0
  have IH:=zh IH0;clear IH0;obtain⟨HV,HU⟩:=A_ hv hu;obtain⟨A,c,rfl,fR,DJ,-⟩:=hv;obtain⟨A2,c2,rfl,J4,aaO,Ma⟩:=hu;unfold maxLen at DJ aaO;have oV:k<Wl.length:=zO
  obtain⟨Hr,Hy,FQ⟩:=B_ hr hy z6
  have aeW:((k:Int)==(Wl.length:Int))=false:=by rw[beq_eq_false_iff_ne];omega
  have m3:=zw k;obtain⟨row,aG⟩:=au Wl k oV;obtain⟨b2,o2,u2,rfl,jT,s9⟩:=Ma k row aG;obtain⟨AR,cR,rfl,-,-,-⟩:=id s9;have MT:=zh s9
  have Hrw:Hid ((k:Int)≠i->row.length=L/\∀x,x<L->row[x]?=some (aF (ws k x):Int)):=fun jh=>by
   obtain⟨fN,h1,h2,h3⟩:=Pn k oV jh;rw[aG]at h1;cases h1;exact⟨h2,h3⟩
  clear hr hy z6 Ma aG s9 Pn
  go_enter Tryz.func191,Tryz.ntmps191
  go_upto_region 5 with(fail)
  go_loopw [11,21] (fun t q wr=>∃j:Nat,j<=x.length/\q=.int .i64 j/\t=.int .i64 (aF (tz (jH i a ws) L r k x j):Nat)/\ab w wr) (fun _ q _=>x.length-(intOf q).toNat)
  case atStart=>exact⟨0,Zac _,rfl,by rw[Pk];rfl,aa _⟩
  case round=>
   obtain⟨j,hj,rfl,rfl,hs⟩:=hrel;have Hs:=zh hs;obtain⟨pe,qC⟩:=K_ (tz (jH i a ws) L r k x j)
   rw[qC]
   by_cases aA:j<x.length
   ·obtain⟨y,J2⟩:=au x j aA;have qv:=Hy y (Zaq J2);obtain⟨b,rfl⟩:=Int.eq_ofNat_of_zero_le qv.1;have hbL:b<L:=zO
    obtain⟨bx,o,rfl,dk⟩:=kU HV J2;have e1:=bc hs.below dk;have e2:=bc hs.below jT;have YV:Hid (x.getD j 0=(b:Int)):=ag J2;have m4:=zw j;obtain⟨mv,hmv⟩:=J_ (aF (jH i a ws k b))
    have Hmv:=zh hmv
    have Hml:Hid (mv<=1000000000001):=by show _<=_;rw[hmv];exact eH _
    have hps:=Pl (jH i a ws) L r k J2 hbL;rw[qC]at hps;obtain⟨Hps,EJ⟩:=A_ hps (I4 FQ.out J2);clear dk J2 hmv hps qC
    go_upto_if 28 with(fail)
    go_cut [14]from 28 to 38 (fun t wx=>t=.int .i64 (mv:Int)/\wx=wr)
    case first=>
     by_cases nR:(k:Int)=i
     ·have lW:((k:Int) != i)=false:=by simp[nR]
      by_cases oe:a=(b:Int)
      ·have sV:(a != (b:Int))=false:=by simp[oe]
       have qQ:mv=1:=by rw[Hmv.out];unfold jH;rw[if_pos nR,if_pos oe.symm];rfl
       subst qQ;clear oe nR;go_wp2;go_meet
       exact⟨rfl,rfl⟩
      ·have sV:(a != (b:Int))=true:=by simp[oe]
       have qQ:mv=0:=by rw[Hmv.out];unfold jH;rw[if_pos nR,if_neg fun e=>oe e.symm];rfl
       subst qQ;clear oe nR;go_wp2;go_meet
       exact⟨rfl,rfl⟩
     ·have lW:((k:Int) != i)=true:=by simp[nR]
      obtain⟨q1,q2⟩:=Hrw nR
      have r_:b<row.length:=by rw[q1];exact hbL
      obtain⟨b4,o4,e4,JS⟩:=kU MT (q2 b hbL);cases e4
      have qQ:aF (ws k b)=mv:=by rw[Hmv.out];unfold jH;rw[if_neg nR]
      rw[qQ]at JS;have e3:=bc hs.below JS;clear qQ q2 q1 nR JS;go_wp2;go_meet
      exact⟨rfl,rfl⟩
    case rest=>
    obtain⟨dk,pC⟩:=hcut;subst dk;have JS:=pC.symm;clear pC;subst JS;obtain⟨sk,hsk⟩:=J_ (decide (mv=0)||skipB x j)
    have KY:=zh hsk;clear hsk;go_upto_region 12 with(fail)
    go_cut [53]from 39 to 53 (fun t wx=>t=.bool sk/\wx=wr)
    case first=>
     by_cases h0:mv=0
     ·have aK:sk=true:=by rw[KY.out,decide_eq_true h0];rfl
      have ic:=zh aK;subst h0;clear aK;go_wp2;go_meet
      exact⟨by rw[ic.out],rfl⟩
     ·have vU:((mv:Int)==0)=false:=by rw[beq_eq_false_iff_ne];omega
      rcases Zbk j with hj0 | hj0
      ·subst hj0
       have aK:sk=false:=by rw[KY.out,decide_eq_false h0];rfl
       have ic:=zh aK;clear aK h0;go_wp2;go_meet
       exact⟨by rw[ic.out],rfl⟩
      ·obtain⟨q,rfl⟩:∃q,j=q+1:=⟨j-1,zO⟩
       obtain⟨z,hz⟩:=au x q zO;obtain⟨b',o',e',pC⟩:=kU HV hz;cases e';have e3:=bc hs.below pC
       have m5:IntKind.i64.wrap (((q+1:Nat):Int)-1)=(q:Int):=by rw[bU _ zO zO];omega
       have mA:(((q+1:Nat):Int)>0)=True:=eq_true zO
       by_cases hzy:z=(b:Int)
       ·have aK:sk=true:=by rw[KY.out,decide_eq_false h0];unfold skipB;rw[YV.out,show q+1-1=q by omega,ag hz,hzy];simp
        have ic:=zh aK;clear aK pC hz h0;go_wp2;go_meet
        exact⟨by rw[ic.out],rfl⟩
       ·have aK:sk=false:=by rw[KY.out,decide_eq_false h0];unfold skipB;rw[YV.out,show q+1-1=q by omega,ag hz,decide_eq_false hzy];simp
        have ic:=zh aK;have hzf:(z==(b:Int))=false:=by simp[hzy]
        clear aK pC hz h0;go_wp2;go_meet
        exact⟨by rw[ic.out],rfl⟩
    case rest=>
    obtain⟨dk,pC⟩:=hcut;subst dk;have JS:=pC.symm;clear pC;subst JS;cases sk
    ·have adc:=KY.out;have aa0:=adc.symm;rw[Zbn]at aa0
     have Xn:¬(b:Int)∈x.take j:=fun hm=>by
      obtain⟨g1,g2⟩:=EJ.1 hm
      have:=aa0.2
      unfold skipB at this;rw[decide_eq_true g1,YV.out,decide_eq_true g2]at this;cases this
     obtain⟨z,hz⟩:=K_ (f_ (jH i a ws) L r (k+1) (x.take j++x.drop (j+1)))
     have kV:aF (tz (jH i a ws) L r k x (j+1))=aF (aF pe+aF (mv*aF z)):=by
      rw[Hps.out,if_neg Xn,hz,Hmv.out,sM,yW]
     obtain⟨dH,Hz⟩:=A_ kV hz;clear adc aa0 Xn kV hz;have h1:j<=x.length:=zO
     have h2:j+1<=x.length:=zO
     have h3:j<=c:=zO
     have h4:0<=(j:Int)+1:=zO
     have h5:(j:Int)+1<=(x.length:Int):=zO
     obtain⟨A',eA',HD'⟩:=bs.ahv HV h2;obtain⟨Htk,HD⟩:=A_ (HV.out.take j h1) HD'
     have Wj:Hid ((x.take j).length+(x.drop (j+1)).length<=17592186044416):=by show _<=_;rw[Zby,List.length_drop];omega
     have Htl:Hid ((x.take j).length<=17592186044416):=by show _<=_;rw[Zby];omega
     have Hx':Hid ((x.take j++x.drop (j+1)).length<=100):=by show _<=_;rw[Zay,Zby,List.length_drop];omega
     have Hy':Hid (∀y∈x.take j++x.drop (j+1),0<=y/\y<(L:Int)):=fun y hy=>by
      rcases Zar.1 hy with hy | hy
      ·exact Hy y (List.mem_of_mem_take hy)
      ·exact Hy y (List.mem_of_mem_drop hy)
     have afd:=zh (Fx FQ.out j);have eD:ab wr wr:=aa _;clear HD' hs e1 e2;go_upto_region 13 with(fail);refine dO (w0:=wr) 19 [false,false,false,false,false,true,false,false,false,false,true,false,false,false,false,false,true,true,true] zK zK (eD) ?_;simp only[ew,dM,zT]
     iterate 14 (apply ef rfl;(intro W hW;go_simp;with_reducible rfl);simp only[zA])
     intro W hW;refine Or.inl ⟨rfl,?_⟩
     go_simp
     (with_reducible refine((iU _ (x.take j) W (Htk.out.agU (Hs.out.after hW).below) Htl.out).mono (fun e w' ⟨u,h1,h2,h3⟩=>(⟨u,h1,h2.mono hW.below.size,h3⟩:∃u,e=Ending.returned u/\Own w' wr.heap.size u (x.take j)/\Below W.heap.size W w'))).mono ?_)
     rintro e W' ⟨u1,rfl,ho,hb⟩;refine⟨_,rfl,hW.trans hb,?_⟩
     replace hW:=hW.trans hb
     have Ho:=zh ho;clear ho
     (try simp only[zA])
     refine dA (fun Q' HQ=>?_)
     (refine fQ (base:=wr.heap.size) rfl _ _ rfl rfl Ho rfl (HD.agU (Hs.after hW).below) Wj hW.below.size ?_);intro v' w9 T gj fg OZ;have Xe:=aV.since hW fg (fun q hq=>(Zad Ho q (Zcm.1 hq)).1);obtain⟨BC,-⟩:=id gj;have Hi9:=zh BC.ints;clear BC gj fg OZ;refine HQ _ _ Xe ?_
     (try simp only[zA])
     refine Or.inl ⟨rfl,?_⟩
     go_simp
     (with_reducible refine(IH.out _ _ _ w9 Hi9.out (HU.out.agU (Hs.out.after Xe).below) (zX Hr.out) Hx'.out Hy'.out afd.out).mono ?_)
     rintro e W' ⟨rfl,hb⟩;refine⟨_,rfl,Xe.trans hb,?_⟩
     replace hW:=Xe.trans hb
     rw[Hz.out]
     (try simp only[zA])
     refine Or.inl ⟨rfl,?_⟩
     go_simp
     (with_reducible refine(rL mv (aF z) _ Hml.out (eH _)).mono ?_)
     rintro e W' ⟨rfl,rfl⟩;refine⟨_,rfl,hW,?_⟩
     replace hW:=hW
     skip
     (try simp only[zA])
     refine Or.inl ⟨rfl,?_⟩
     go_simp
     (with_reducible refine(pX (aF pe) (aF (mv*aF z)) _ (eH _) (eH _)).mono ?_)
     rintro e W' ⟨rfl,rfl⟩;refine⟨_,rfl,hW,?_⟩
     replace hW:=hW
     skip
     (try simp only[zA])
     simp only[bP];have yL:=zh (Hs.out.after hW);clear hW;go_wp2;go_roundw
     exact⟨j+1,zO,zN,by rw[dH.out],yL⟩
     simp[intOf];omega
    ·have kV:aF (tz (jH i a ws) L r k x (j+1))=aF pe:=by
      rw[Hps.out];have fH:=KY.symm;rw[Zbp]at fH
      split
      ·rfl
      ·rename_i Xn
       rcases fH with h | h
       ·have h0:mv=0:=of_decide_eq_true h;have h1:=Hmv.out;rw[h0]at h1
        have h2:jH i a ws k b=0:=by
         rcases Zbk (jH i a ws k b)with h3 | h3
         ·exact h3
         ·have:=yX.2 h3;omega
        rw[h2,Nat.zero_mul];rfl
       ·exfalso
        unfold skipB at h;rw[Zai]at h
        exact Xn (EJ.2 ⟨of_decide_eq_true h.1,by rw[<- YV.out];exact of_decide_eq_true h.2⟩)
     have dH:=zh kV;clear kV hs;go_wp2;go_roundw
     exact⟨j+1,zO,zN,by rw[dH.out],Hs⟩
     simp[intOf];omega
   ·obtain rfl:j=x.length:=zO
    have LH:Hid (f_ (jH i a ws) L (r+1) k x=pe):=by show _=_;rw[<- qC,T8]
    have eU:=zh Hs.out.below;clear hs qC;go_wp2;go_ret
    exact⟨by rw[LH.out];rfl,eU⟩
theorem ze (f:Nat->Nat) (x:Nat):aF (aF (bt x f)+aF (f x))=aF (bt (x+1) f):=by rw[yW];rfl
theorem MW {i a:Int} {ws:Nat->Nat->Nat} {L k a':Nat} (hk:(k:Int)=i) (ha:a=(a':Int)) (haL:a'<L):bt L (jH i a ws k)=1:=by
 rw[Ek haL fun x _ jh=>by unfold jH;rw[if_pos hk,if_neg fun e=>jh zO]]
 unfold jH;rw[if_pos hk,if_pos ha.symm]
theorem I5 {i a:Int} {ws:Nat->Nat->Nat} {k:Nat} (hk:(k:Int)≠i):jH i a ws k=ws k:=by
 funext x
 unfold jH;rw[if_neg hk]
theorem Eo (pa pb um:Value) (p:aq) (Wl:List (List Int)) (ws:Nat->Nat->Nat) (i a:Int) (a':Nat) (w:World) (hp:el w pa pb p) (hu:bS w um Wl) (cC:bV p=true) (hW8:Wl.length<=100) (hi : -1<=i/\i<=100) (ha:a=(a':Int)) (haL:a'<p.labels.toNat) (Pn:Pm Wl ws i p.labels.toNat) (hni:∀k:Nat,k<Wl.length->(k:Int)=i->Wl[k]?=some []):
  Calls Tryz.prog 161 #[.agg #[.int .i64 p.labels,.int .i64 p.degree,pa,pb],um,.int .i64 i,.int .i64 a] w fun e w'=>e=.returned (.int .i64 (aF (mY p p.labels.toNat Wl.length (jH i a ws)):Nat))/\Below w.heap.size w w':=by
 have HU:=zh hu;obtain⟨AM,cM,rfl,-,hcM,-⟩:=hu;unfold maxLen at hcM;obtain⟨eV,-⟩:=aE cC
 have ri:1<=p.degree/\p.degree<=4:=by
  have h9:=cC;unfold bV at h9;simp only[Zai,aB]at h9;exact h9.2.1
 obtain⟨dg,lP⟩:∃z:Nat,p.degree=(z:Int):=⟨p.degree.toNat,zO⟩
 obtain⟨L,hL⟩:=K_ p.labels.toNat
 rw[hL]at haL Pn ⊢;have Vp:L<=8:=zO
 obtain⟨jB,uz,HL,Cx,Hni,Ha⟩:=E_ cC lP hL Pn hni ha;have ade:0<=a/\a<=100:=zO
 obtain⟨w0,P0,iG,P1,it,rfl,rfl,jj,jk,jl,jm,jn,jo,HP,cD,aY,fp,fE,fM,ku⟩:=UZ hp;clear hp
 obtain⟨gO,Cn⟩:=A_ (show ∀X,ab w0 X->bS X (.slice P0 p.nodes.length iG) p.nodes from fun X hX=>(HP.out.agU hX).1) (GQ (HU.out.agU aY.out));have aK:ab w0 w0:=aa _;have afe:=fE;rw[lP]at afe;clear cC lP eV hL Pn hni ha ri fE
 go_enter Tryz.func161,Tryz.ntmps161
 go_upto_region 1 with(fail);rw[<- cD.out]
 by_cases FW:Wl.length=dg
 ·have hde:((Wl.length:Int) != (dg:Int))=false:=by simp[FW]
  have HE:Hid (mY p L Wl.length (jH i a ws)=pk (f_ (jH i a ws) L Wl.length 0) p.nodes):=LN jB (by rw[uz.out,FW]) _;clear FW;go_upto_region 18 with(fail)
  go_loopw [15,51] (fun t q wr=>∃k:Nat,k<=p.nodes.length/\q=.int .i64 k/\t=.int .i64 (aF (pk (f_ (jH i a ws) L Wl.length 0) (p.nodes.take k)):Nat)/\ab w0 wr) (fun _ q _=>p.nodes.length-(intOf q).toNat)
  case atStart=>exact⟨0,Zac _,rfl,rfl,aK⟩
  case round=>
   obtain⟨k,hk,rfl,rfl,hs⟩:=hrel;have Hs:=zh hs;clear aK;obtain⟨pe,qC⟩:=K_ (pk (f_ (jH i a ws) L Wl.length 0) (p.nodes.take k))
   rw[qC]
   by_cases aA:k<p.nodes.length
   ·obtain⟨y,hy⟩:=au p.nodes k aA;have Kf:=BE jB (Zaq hy);have ZN:=iu jB (Zaq hy)
    have hyL:∀z∈y,0<=z/\z<(L:Int):=fun z hz=>by have h1:=ZN.2.2 z hz;have h2:=HL.out;omega
    obtain⟨AL,cl,eL,-,-,sL⟩:=gO wr hs;cases eL;obtain⟨bL,oL,uL,rfl,Df,s9⟩:=sL k y hy;obtain⟨AR,cR,rfl,-,-,-⟩:=id s9;obtain⟨z,hz⟩:=K_ (f_ (jH i a ws) L Wl.length 0 y)
    have eF:pk (f_ (jH i a ws) L Wl.length 0) (p.nodes.take (k+1))=pe+z:=by
     rw[List.take_add_one,hy,IY,qC];show pe+(f_ (jH i a ws) L Wl.length 0 y+0)=_
     rw[hz,Nat.add_zero]
    obtain⟨lL,Hc⟩:=A_ eF (BU Wl ws i a L Vp hW8 hi ade Cx.out Wl.length 0 _ (.slice AM Wl.length cM) y wr s9 (Cn.out wr hs) zO Kf.1 hyL ZN.2.1);rw[hz]at Hc;have T_:=zh (fun W=>pX (aF pe) (aF z) W (eH _) (eH _))
    have m3:=zw k;clear hy sL s9 Kf ZN hyL eF hz qC;go_wp2_with fail;refine Hc.mono ?_;rintro e w1 ⟨rfl,hb⟩;have di:=zh (Hs.out.after (show ab wr w1 from hb));clear hb Df hs;go_wp2_with fail;refine(T_ w1).mono ?_;rintro e w2 ⟨rfl,rfl⟩;go_wp2;go_roundw
    exact⟨k+1,zO,zN,by rw[lL.out,yW],di⟩
    simp[intOf];omega
   ·obtain rfl:k=p.nodes.length:=zO
    rw[Zbq]at qC;have LH:Hid (mY p L Wl.length (jH i a ws)=pe):=HE.trans qC;have dH:Hid (Below w.heap.size w wr):=ab.after aY Hs;clear hs qC;go_wp2;go_ret
    exact⟨by rw[LH.out];rfl,dH⟩
 ·have hde:((Wl.length:Int) != (dg:Int))=true:=by simp;omega
  have HE:Hid (mY p L Wl.length (jH i a ws)=jx (jH i a ws) L Wl.length 0):=xf (by rw[uz.out];omega) _
  clear FW;go_upto_region 4 with(fail)
  go_loopw [9,25] (fun t q wr=>∃k:Nat,k<=Wl.length/\q=.int .i64 k/\t=.int .i64 (aF (jx (jH i a ws) L k 0):Nat)/\ab w0 wr) (fun _ q _=>Wl.length-(intOf q).toNat)
  case atStart=>exact⟨0,Zac _,rfl,rfl,aK⟩
  case round=>
   obtain⟨k,hk,rfl,rfl,hs⟩:=hrel;have Hs:=zh hs;clear aK;obtain⟨pe,qC⟩:=K_ (jx (jH i a ws) L k 0)
   rw[qC]
   by_cases aA:k<Wl.length
   ·have m3:=zw k;have eF:=uh (jH i a ws) L k 0;rw[qC,Zba]at eF;have lL:=zh eF;obtain⟨y,hy⟩:=au Wl k aA;obtain⟨AL,cl,eL,-,-,sL⟩:=Cn wr hs;cases eL;obtain⟨bL,oL,uL,rfl,Df,s9⟩:=sL k y hy;obtain⟨AR,cR,rfl,-,hRm,-⟩:=id s9;unfold maxLen at hRm;obtain⟨MT,Hy⟩:=A_ (zpI s9) hy;obtain⟨wo,rfl⟩:=J_ wr
    by_cases nR:(k:Int)=i
    ·have PQ:=Hni k aA nR;rw[Hy.out]at PQ;obtain rfl:=Zbx PQ
     have lW:((k:Int) != i)=false:=by simp[nR]
     have xi:Hid (bt L (jH i a ws k)=1):=MW nR Ha haL;clear sL s9 hy eF qC PQ nR;go_upto_region 8 with(fail)
     go_loopw [12,32] (fun t q wr=>q=.int .i64 0/\t=.int .i64 0/\wr=wo) (fun _ _ _=>0)
     case atStart=>exact⟨rfl,rfl,rfl⟩
     case round=>
      obtain⟨rfl,rfl,rfl⟩:=hrel;go_wp2;go_roundw
      exact⟨k+1,zO,zN,by rw[lL.out,xi.out,Nat.mul_one],Hs⟩
      simp[intOf];omega
    ·have lW:((k:Int) != i)=true:=by simp[nR]
     obtain⟨y',g1,g2,g3⟩:=Cx k aA nR;rw[Hy.out]at g1;obtain rfl:=Zbx g1
     obtain⟨Lh,Hyx⟩:=A_ g2 g3
     have xi:Hid (bt L (jH i a ws k)=bt L (ws k)):=by show _=_;rw[I5 nR]
     rw[g2]at Df;have aff:=g2;clear sL s9 hy eF qC g1 g2 g3 nR;go_upto_region 8 with(fail);clear aff
     go_loopw [12,32] (fun t q wr=>∃x:Nat,x<=L/\q=.int .i64 x/\t=.int .i64 (aF (bt x (ws k)):Nat)/\wr=wo) (fun _ q _=>L-(intOf q).toNat)
     case atStart=>exact⟨0,Zac _,rfl,rfl,rfl⟩
     case round=>
      obtain⟨x,hx,rfl,rfl,Ua⟩:=hrel;have LU:=Ua.symm;clear Ua;subst LU
      by_cases hlx:x<L
      ·obtain⟨b4,o4,e4,JS⟩:=kU (MT wo (aa _)) (Hyx x hlx);cases e4;have m5:=zw x;obtain⟨sv,hsv⟩:=K_ (aF (ws k x))
       have kj:=ze (ws k) x;rw[hsv]at JS kj;have ym:=zh kj;obtain⟨se,O_⟩:=K_ (aF (bt x (ws k)))
       rw[O_]at ym ⊢
       have Xo:se<=1000000000001:=by rw[<- O_];exact eH _
       have Xp:sv<=1000000000001:=by rw[<- hsv];exact eH _
       have T_:=zh (fun W=>pX se sv W Xo Xp)
       clear O_ hsv kj Xo Xp;go_wp2_with fail;refine(T_ wo).mono ?_;rintro e w2 ⟨rfl,rfl⟩;go_wp2;go_roundw
       exact⟨x+1,zO,zN,by rw[ym.out],trivial⟩
       simp[intOf];omega
      ·obtain rfl:x=L:=zO
       have Dj:=zh (fun W=>rL (aF pe) (aF (bt x (ws k))) W (eH _) (eH _))
       go_wp2_with fail;refine(Dj wo).mono ?_;rintro e w2 ⟨rfl,rfl⟩;go_wp2;go_roundw
       exact⟨k+1,zO,zN,by rw[lL.out,xi.out,sM],Hs⟩
       simp[intOf];omega
   ·obtain rfl:k=Wl.length:=zO
    have LH:Hid (mY p L Wl.length (jH i a ws)=pe):=HE.trans qC;have dH:Hid (Below w.heap.size w wr):=ab.after aY Hs;clear hs qC;go_wp2;go_ret
    exact⟨by rw[LH.out];rfl,dH⟩
def iO (L:Nat) (f:Nat->Nat):List Int:=(List.range L).map fun x=>((aF (f x):Nat):Int)
theorem jy (L:Nat) (f:Nat->Nat):(iO L f).length=L:=by simp[iO]
theorem lq {L:Nat} {f:Nat->Nat} {x:Nat} (h:x<L):(iO L f)[x]?=some ((aF (f x):Nat):Int):=by
 unfold iO;rw[Zbr,Zcj h];rfl
theorem qd {L:Nat} {f g:Nat->Nat} (h:∀x,x<L->f x=g x):iO L f=iO L g:=List.map_congr_left fun x hx=>by rw[h x (Zab.1 hx)]
def lJ (L a:Nat) (f:Nat->Nat) (c:Nat):List Int:=(List.range L).map fun x=>if x<a then ((aF (f x):Nat):Int) else if x=a then (c:Int) else 0
theorem rU (L a:Nat) (f:Nat->Nat) (c:Nat):(lJ L a f c).length=L:=by simp[lJ]
theorem vM {L a:Nat} {f:Nat->Nat} {c x:Nat} (h:x<L):(lJ L a f c)[x]?=some (if x<a then ((aF (f x):Nat):Int) else if x=a then (c:Int) else 0):=by
 unfold lJ;rw[Zbr,Zcj h];rfl
theorem zg {L a:Nat} {f:Nat->Nat} {c:Nat} (h:a<L):(lJ L a f c)[a]?=some (c:Int):=by
 rw[vM h,if_neg (Nat.lt_irrefl _),if_pos rfl]
theorem xj (L:Nat) (f:Nat->Nat):lJ L 0 f 0=List.replicate L 0:=by
 refine Zck fun x=>?_
 by_cases h:x<L
 ·rw[vM h,Zch,if_pos h,if_neg zO]
  split <;> rfl
 ·rw[Zce (by rw[rU];omega),Zce (by simp;omega)]
theorem BV {L a:Nat} (f:Nat->Nat) (c c':Nat):(lJ L a f c).set a (c':Int)=lJ L a f c':=by
 refine Zck fun x=>?_
 rw[Zci]
 by_cases h:x<L
 ·by_cases e:a=x
  ·subst e;rw[if_pos rfl,rU,if_pos h,zg h]
  ·have e3:¬x=a:=fun e2=>e e2.symm
   rw[if_neg e,vM h,vM h,if_neg e3,if_neg e3]
 ·rw[Zce (l:=lJ L a f c') (by rw[rU];omega),Zce (l:=lJ L a f c) (by rw[rU];omega),rU]
  split
  ·rename_i e;subst e;rw[if_neg h]
  ·rfl
theorem sQ {L a:Nat} (f:Nat->Nat):lJ L a f (aF (f a))=lJ L (a+1) f 0:=by
 refine List.map_congr_left fun x _=>?_
 rcases Nat.lt_trichotomy x a with h | h | h
 ·rw[if_pos h,if_pos zO]
 ·subst h;rw[if_neg (Nat.lt_irrefl _),if_pos rfl,if_pos zO]
 ·rw[if_neg zO,if_neg zO,if_neg zO]
  split <;> rfl
theorem BW (L:Nat) (f:Nat->Nat):lJ L L f 0=iO L f:=List.map_congr_left fun x hx=>by rw[if_pos (Zab.1 hx)]
def fL (L:Nat) (i:Int) (ws:Nat->Nat->Nat) (j:Nat):List (List Int):=(List.range j).map fun k:Nat=>if (k:Int)=i then [] else iO L (ws k)
theorem fm (L:Nat) (i:Int) (ws:Nat->Nat->Nat) (j:Nat):(fL L i ws j).length=j:=by simp[fL]
theorem Ep {L:Nat} {i:Int} {ws:Nat->Nat->Nat} {j k:Nat} (h:k<j):(fL L i ws j)[k]?=some (if (k:Int)=i then [] else iO L (ws k)):=by
 unfold fL;rw[Zbr,Zcj h];rfl
theorem qf (L:Nat) (i:Int) (ws:Nat->Nat->Nat) (j:Nat):fL L i ws (j+1)=fL L i ws j++[if (j:Int)=i then [] else iO L (ws j)]:=by
 unfold fL;rw[Zaa,List.map_append];rfl
theorem Fy (L:Nat) (i:Int) (ws:Nat->Nat->Nat) (j:Nat):Pm (fL L i ws j) ws i L:=fun k hk jh=>by
 rw[fm]at hk;exact⟨iO L (ws k),by rw[Ep hk,if_neg jh],jy _ _,fun x hx=>lq hx⟩
theorem I6 (L:Nat) (i:Int) (ws:Nat->Nat->Nat) (j:Nat):∀k:Nat,k<(fL L i ws j).length->(k:Int)=i->(fL L i ws j)[k]?=some []:=fun k hk he=>by
 rw[fm]at hk;rw[Ep hk,if_pos he]
theorem Fz (ws:Nat->Nat->Nat) (a:Int):jH (-1) a ws=ws:=funext fun k=>I5 zO
theorem MX (i a:Nat) (ws:Nat->Nat->Nat):jH (i:Int) (a:Int) ws=wtI i a ws:=by
 funext k x
 unfold jH wtI
 by_cases e:k=i
 ·subst e;rw[if_pos rfl,if_pos rfl]
  by_cases e2:x=a
  ·subst e2;rw[if_pos rfl,if_pos rfl]
  ·rw[if_neg zO,if_neg e2]
 ·rw[if_neg zO,if_neg e]
def me (p:aq) (n:ao) (B:Nat->Nat->Nat->Bool) (L f v:Nat) (i:Int):List Int:=
 if i<0 then [((aF (i8 p n B L f v):Nat):Int)] else iO L fun a=>yv p n B L (f+1) v i.toNat a
def qg (n:ao) (v:Nat) (i:Int):Prop:=(i = -1/\∀j w k,Lk n v j w k->gK n v<gK n w)\/∃i' w k:Nat,i=(i':Int)/\Lk n v i' w k/\gK n w<gK n v
theorem qg.child {n:ao} (hn:ar n=true) (hc:io n) {v:Nat} {i:Int} (h:qg n v i) {k w m:Nat} (hl:Lk n v k w m) (jh:(k:Int)≠i):gK n w=gK n v+1/\qg n w (m:Int):=by
 have hL:=Em hn hc;have hst:=hL.step _ _ _ _ hl
 have h1:gK n w=gK n v+1:=by
  rcases h with⟨-,h⟩ | ⟨i',w',k',rfl,h2,h3⟩
  ·have:=h _ _ _ hl;omega
  ·rcases hst with h4 | h4
   ·exact h4
   ·exact absurd (hL.one _ _ _ _ _ _ _ hl h2 zO h3) zO
 exact⟨h1,.inr ⟨m,v,k,rfl,hl.symm hn,zO⟩⟩
theorem qg.rng {n:ao} (hn:ar n=true) {v:Nat} {i:Int} (h:qg n v i) : -1<=i/\(0<=i->i.toNat<(n.ends.getD v []).length/\((i.toNat:Nat):Int)=i):=by
 rcases h with⟨rfl,-⟩ | ⟨i',w',k',rfl,h2,-⟩
 ·exact⟨zO,fun h=>zO⟩
 ·exact⟨zO,fun _=>⟨by rw[Zag];exact(h2.lt hn).2.2.1,zO⟩⟩
end Go.Proofs.YtnioemnkfojmkaaGreat
