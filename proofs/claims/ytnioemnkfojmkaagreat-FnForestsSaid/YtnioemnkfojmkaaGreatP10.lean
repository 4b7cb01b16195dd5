/- Parts of the proof: walks of functions and plain laws. -/
import Derived.Test.YtnioemnkfojmkaaGreatP9
import Derived.ArgAppend
set_option maxRecDepth 100000
set_option maxHeartbeats 16000000
namespace Go.Proofs.YtnioemnkfojmkaaGreat
open Go Go.RowKit
abbrev vq (st:List Int×List Int) (x:Int):Int:=st.1.getD x.toNat 0
structure BD (n:ao) (v:Nat) (st:List Int×List Int) (i:Nat):Prop where
 zero:vq st (v:Int)=0
 par:∀x∈st.2,x≠(v:Int)->∃y∈st.2,x∈jq n y/\vq st y+1=vq st x
 sorted:∀j k,j<=k->k<st.2.length->vq st (st.2.getD j 0)<=vq st (st.2.getD k 0)
 span:∀k,k<st.2.length->i<st.2.length->vq st (st.2.getD k 0)<=vq st (st.2.getD i 0)+1
 closed:∀k,k<i->k<st.2.length->∀x∈jq n (st.2.getD k 0),x∈st.2/\vq st x<=vq st (st.2.getD k 0)+1
theorem BD.begin {n:ao} {v:Nat} (hv:v<n.ends.length):BD n v (cZ n v) 0 where
 zero:=by unfold vq cZ;simp[hv]
 par:=fun x hx jh=>by
  have:x=(v:Int):=by simpa[cZ]using hx
  exact absurd this jh
 sorted:=fun j k sU hk=>by
  have:(cZ n v).2.length=1:=rfl
  obtain rfl:j=k:=zO
  exact Int.le_refl _
 span:=fun k hk hi=>by
  have:(cZ n v).2.length=1:=rfl
  obtain rfl:k=0:=zO
  omega
 closed:=fun k hk=>zO
theorem gJ {xs:List Int} {k:Nat} (h:k<xs.length):xs.getD k 0∈xs:=by
 rw[zDd,Zbu h];exact Zbj h
theorem mH {xs ys:List Int} {k:Nat} (h:k<xs.length):(xs++ys).getD k 0=xs.getD k 0:=by
 rw[zDd,Zcb h,<- zDd]
theorem DO {xs:List Int} {x:Int}:(xs++[x]).getD xs.length 0=x:=by simp[zDd]
theorem BD.one {n:ao} {v i:Nat} {st:List Int×List Int} {x:Int} (hI:BI n.ends.length st) (hR:BR n v st) (h:BD n v st i) (hi:i<st.2.length) (hx:x∈jq n (st.2.getD i 0)) (pc:0<=x/\x<n.ends.length):
  BD n v (bQ (st.2.getD i 0) st x) i/\x∈(bQ (st.2.getD i 0) st x).2/\vq (bQ (st.2.getD i 0) st x) x<=vq (bQ (st.2.getD i 0) st x) (st.2.getD i 0)+1/\(∀y∈st.2,y∈(bQ (st.2.getD i 0) st x).2/\vq (bQ (st.2.getD i 0) st x) y=vq st y):=by
 have hc:st.2.getD i 0∈st.2:=gJ hi;obtain⟨c,hcd⟩:=J_ (st.2.getD i 0)
 have ii:=hI.len;have hxn:((x.toNat:Nat):Int)=x:=zO
 rw[<- hcd]at hc hx ⊢;unfold bQ
 split
 ·rename_i np
  have agU:∀y∈st.2,y.toNat≠x.toNat:=fun y hy e=>by
   have h1:=hI.walk y hy
   have h2:=(hR.seen y.toNat zO).2 (by rw[show((y.toNat:Nat):Int)=y by omega];exact hy)
   rw[e]at h2;omega
  have kd:∀y∈st.2,vq (st.1.set x.toNat (st.1.getD c.toNat 0+1),st.2++[x]) y=vq st y:=fun y hy=>by
   unfold vq;show(st.1.set x.toNat _).getD y.toNat 0=_
   rw[zDd,Zaw (fun e=>agU y hy e.symm),<- zDd]
  have kx:vq (st.1.set x.toNat (st.1.getD c.toNat 0+1),st.2++[x]) x=vq st c+1:=by
   unfold vq;show(st.1.set x.toNat _).getD x.toNat 0=_
   rw[zDd,Zav zO];rfl
  have kl:∀k,k<(st.2++[x]).length->(k<st.2.length/\(st.2++[x]).getD k 0=st.2.getD k 0)\/(k=st.2.length/\(st.2++[x]).getD k 0=x):=fun k hk=>by
   rw[Zay,List.length_singleton]at hk;rcases Zbi k st.2.length with h1 | h1
   ·exact .inl ⟨h1,mH h1⟩
   ·obtain rfl:k=st.2.length:=zO
    exact .inr ⟨rfl,DO⟩
  refine⟨⟨?_,?_,?_,?_,?_⟩,zS,by rw[kx,kd c hc];omega,fun y hy=>⟨Zax _ hy,kd y hy⟩⟩
  ·rw[kd _ hR.start];exact h.zero
  ·intro z hz jh;rcases Zar.1 hz with hz | hz
   ·obtain⟨y,hy,h1,h2⟩:=h.par z hz jh
    exact⟨y,Zax _ hy,h1,by rw[kd y hy,kd z hz];exact h2⟩
   ·obtain rfl:z=x:=by simpa using hz
    exact⟨c,Zax _ hc,hx,by rw[kd c hc,kx]⟩
  ·intro j k sU hk;have hk:k<(st.2++[x]).length:=hk;rcases kl k hk with⟨lW,ek⟩ | ⟨lW,ek⟩
   ·rcases kl j zO with⟨zZ,ej⟩ | ⟨zZ,ej⟩
    ·rw[ek,ej,kd _ (gJ lW),kd _ (gJ zZ)];exact h.sorted j k sU lW
    ·omega
   ·rw[ek,kx];rcases kl j zO with⟨zZ,ej⟩ | ⟨zZ,ej⟩
    ·rw[ej,kd _ (gJ zZ),hcd];exact h.span j zZ hi
    ·rw[ej,kx];exact Int.le_refl _
  ·intro k hk _;have ei:(st.2++[x]).getD i 0=c:=by rw[mH hi,hcd]
   rw[ei,kd c hc];rcases kl k hk with⟨lW,ek⟩ | ⟨lW,ek⟩
   ·rw[ek,kd _ (gJ lW),hcd];exact h.span k lW hi
   ·rw[ek,kx];exact Int.le_refl _
  ·intro k hk _ z hz;have lW:k<st.2.length:=zO
   have ek:(st.2++[x]).getD k 0=st.2.getD k 0:=mH lW;rw[ek]at hz ⊢;obtain⟨h1,h2⟩:=h.closed k hk lW z hz
   exact⟨Zax _ h1,by rw[kd _ h1,kd _ (gJ lW)];exact h2⟩
 ·rename_i np
  have P9:x∈st.2:=by
   have:=(hR.seen x.toNat zO).1 zO
   rwa [hxn]at this
  refine⟨h,P9,?_,fun y hy=>⟨hy,rfl⟩⟩
  obtain⟨k,hk,e⟩:=List.mem_iff_getElem.1 P9
  have:=h.span k hk hi
  rw[<- hcd,show st.2.getD k 0=x by rw[zDd,Zbu hk];exact e]at this
  exact this
theorem BD.fold {n:ao} {v i:Nat} {c:Int}:∀(xs:List Int) {st:List Int×List Int},BI n.ends.length st->BR n v st->BD n v st i->i<st.2.length->st.2.getD i 0=c->(∀x∈xs,x∈jq n c/\0<=x/\x<n.ends.length) ->
  BD n v (xs.foldl (bQ c) st) i/\(∀x∈xs,x∈(xs.foldl (bQ c) st).2/\vq (xs.foldl (bQ c) st) x<=vq (xs.foldl (bQ c) st) c+1)/\(∀y∈st.2,y∈(xs.foldl (bQ c) st).2/\vq (xs.foldl (bQ c) st) y=vq st y)
 | [],_,_,_,h,_,_,_=>⟨h,fun _ hx=>by simp at hx,fun y hy=>⟨hy,rfl⟩⟩
 | x::xs,st,hI,hR,h,hi,hc,na=>by
  have hx:=na x (List.mem_cons_self ..)
  have DJ:c∈st.2:=by rw[<- hc];exact gJ hi
  have h1:=BD.one hI hR h hi (by rw[hc];exact hx.1) hx.2
  rw[hc]at h1;obtain⟨g1,g2,g3,g4⟩:=h1;obtain⟨ys,hw⟩:=tI c st x
  have yz:i<(bQ c st x).2.length:=by rw[hw,Zay];omega
  have jT:(bQ c st x).2.getD i 0=c:=by rw[hw,mH hi];exact hc
  obtain⟨k1,k2,k3⟩:=BD.fold xs (hI.step (hI.walk c DJ) hx.2) (BR.one hI hR DJ hx.1 hx.2).1 g1 yz jT (fun y hy=>na y (Zbd _ hy))
  refine⟨k1,fun y hy=>?_,fun y hy=>?_⟩
  ·rcases Zbe.1 hy with rfl | hy
   ·obtain⟨m1,m2⟩:=k3 y g2;obtain⟨_,m4⟩:=k3 c (g4 c DJ).1;refine⟨m1,?_⟩;show vq (xs.foldl (bQ c) (bQ c st y)) y<=vq (xs.foldl (bQ c) (bQ c st y)) c+1
    rw[m2,m4];exact g3
   ·exact k2 y hy
  ·obtain⟨m1,m2⟩:=g4 y hy;obtain⟨m3,m4⟩:=k3 y m1;exact⟨m3,m4.trans m2⟩
theorem DQ {n:ao} (hn:ar n=true) {v:Nat}:∀(f:Nat) (st:List Int×List Int) (i:Nat),BI n.ends.length st->BR n v st->BD n v st i->i<=st.2.length->n.ends.length<f+i ->
  ∃gE:List Int×List Int,DG n f st i=gE.1/\BI n.ends.length gE/\BR n v gE/\BD n v gE gE.2.length
 | 0,st,i,hI,_,_,hi,hf=>zX hI.bd
 | f+1,st,i,hI,hR,hD,hi,hf=>by
  unfold DG
  by_cases aA:i<st.2.length
  ·rw[if_pos aA];have hc:st.2.getD i 0∈st.2:=gJ aA;have pd:=hI.walk _ hc;have cH:=wJ hn pd;have h1:=BR.fold (cur:=st.2.getD i 0) (jq n (st.2.getD i 0)) hI hR hc (fun x hx=>⟨hx,cH x hx⟩)
   obtain⟨k1,k2,k3⟩:=BD.fold (jq n (st.2.getD i 0)) hI hR hD aA rfl (fun x hx=>⟨hx,cH x hx⟩)
   obtain⟨ys,hw⟩:=mj (st.2.getD i 0) (jq n (st.2.getD i 0)) st
   have ii:i<((jq n (st.2.getD i 0)).foldl (bQ (st.2.getD i 0)) st).2.length:=by rw[hw,Zay];omega
   refine DQ hn f _ (i+1) (hI.fold pd _ cH) h1.1 ⟨k1.zero,k1.par,k1.sorted,fun k hk yz=>?_,fun k hk sV x hx=>?_⟩ zO zO
   ·have m1:=k1.span k hk ii;have m2:=k1.sorted i (i+1) zO yz;omega
   ·by_cases e:k=i
    ·subst e;have ek:((jq n (st.2.getD k 0)).foldl (bQ (st.2.getD k 0)) st).2.getD k 0=st.2.getD k 0:=by rw[hw,mH aA]
     rw[ek]at hx ⊢;exact k2 x hx
    ·exact k1.closed k zO sV x hx
  ·rw[if_neg aA];obtain rfl:i=st.2.length:=zO
   exact⟨st,rfl,hI,hR,hD⟩
structure Fa (n:ao) (v:Nat) (D:Nat->Int):Prop where
 zero:D v=0
 par:∀x:Nat,jU n v x->x≠v->∃y:Nat,jU n v y/\(x:Int)∈jq n (y:Int)/\D y+1=D x
 nb:∀a b:Nat,jU n v a->(b:Int)∈jq n (a:Int)->D b<=D a+1
 pos:∀x:Nat,jU n v x->0<=D x
theorem vr {n:ao} (hn:ar n=true) {v:Nat} (hv:v<n.ends.length):Fa n v (fun w=>(cJ n v).getD w 0):=by
 obtain⟨st,h1,hI,hR,hD⟩:=DQ hn (n.ends.length+1) (cZ n v) 0 (BI.start hv) (BR.begin hv) (BD.begin hv) (Zac _) zO;have e:cJ n v=st.1:=h1
 have hm:∀x:Nat,jU n v x->(x:Int)∈st.2:=fun x hx=>by
  have ou:=Ar hn hv hx
  have:=(jr hn hv ou).2 hx
  rw[e]at this;exact(hR.seen x ou).1 this
 refine⟨?_,fun x hx jh=>?_,fun a b ha hb=>?_,fun x hx=>(jr hn hv (Ar hn hv hx)).2 hx⟩
 ·have:=hD.zero
  show(cJ n v).getD v 0=0
  rw[e];simpa[vq]using this
 ·obtain⟨y,hy,h2,h3⟩:=hD.par x (hm x hx) zO;have qv:=hI.walk y hy;obtain⟨k,rfl⟩:=Int.eq_ofNat_of_zero_le qv.1;refine⟨k,?_,h2,?_⟩
  ·have:=hR.rch _ hy;simpa using this
  ·show(cJ n v).getD k 0+1=(cJ n v).getD x 0
   rw[e];simpa[vq]using h3
 ·obtain⟨k,hk,G6⟩:=List.mem_iff_getElem.1 (hm a ha)
  have:=(hD.closed k hk hk (b:Int) (by rw[zDd,Zbu hk];simpa[G6]using hb)).2
  show(cJ n v).getD b 0<=(cJ n v).getD a 0+1
  rw[e]
  rw[show st.2.getD k 0=(a:Int)by rw[zDd,Zbu hk];exact G6]at this
  simpa[vq]using this
def im (n:ao) (v i:Nat):Int×Int:=(n.ends.getD v []).getD i (0,0)
def n8 (n:ao) (v i:Nat):Int:=(cJ (jt n (gG v i (im n v i))) v).getD (im n v i).1.toNat 0
def tq (out d:Int):Int:=if 0<=d/\(out=0\/d+1<out) then d+1 else out
def tr (n:ao) (v:Nat) (out:Int) (i:Nat):Int:=if im n v i=((v:Int),(i:Int)) then out else tq out (n8 n v i)
def Fb (n:ao) (v k:Nat) (out:Int):Int:=(List.range k).foldl (tr n v) out
def Ve (n:ao) (k:Nat):Int:=(List.range k).foldl (fun out v=>Fb n v (n.ends.getD v []).length out) 0
def Fc (n:ao):Int:=Ve n n.ends.length
theorem wN (n:ao) (v k:Nat) (out:Int):Fb n v (k+1) out=tr n v (Fb n v k out) k:=by unfold Fb;rw[Zaa,List.foldl_append];rfl
theorem AO (n:ao) (k:Nat):Ve n (k+1)=Fb n k (n.ends.getD k []).length (Ve n k):=by unfold Ve;rw[Zaa,List.foldl_append];rfl
theorem Oq {out d:Int} (h:0<=out):0<=tq out d:=by unfold tq;split <;> omega
theorem KR {out d:Int} (h:0<=out):tq out d=0↔out=0/\d<0:=by
 unfold tq
 split
 ·rename_i h1;omega
 ·rename_i h1;omega
theorem Ot {n:ao} {v:Nat} {out:Int} {i:Nat} (h:0<=out):0<=tr n v out i:=by
 unfold tr
 split
 ·exact h
 ·exact Oq h
def DS (n:ao) (v i:Nat):Prop:=im n v i=((v:Int),(i:Int))\/n8 n v i<0
theorem KS {n:ao} {v:Nat} {out:Int} {i:Nat} (h:0<=out):tr n v out i=0↔out=0/\DS n v i:=by
 unfold tr DS
 split
 ·rename_i e;exact⟨fun h=>⟨h,.inl e⟩,fun h=>h.1⟩
 ·rename_i e
  rw[KR h];exact⟨fun h=>⟨h.1,.inr h.2⟩,fun h=>⟨h.1,h.2.resolve_left e⟩⟩
theorem Hj {n:ao} {v k:Nat} {out:Int} (h:0<=out):0<=Fb n v k out:=by
 induction k with
 | zero=>exact h
 | succ k ih=>rw[wN];exact Ot ih
theorem Ou {n:ao} {v k:Nat} {out:Int} (h:0<=out):Fb n v k out=0↔out=0/\∀i,i<k->DS n v i:=by
 induction k with
 | zero=>exact⟨fun h=>⟨h,fun i hi=>zO⟩,fun h=>h.1⟩
 | succ k ih=>
  rw[wN,KS (Hj h),ih];constructor
  ·rintro⟨⟨h1,h2⟩,h3⟩
   exact⟨h1,fun i hi=>by rcases Zbi i k with h4 | h4;exact h2 i h4;rw[show i=k by omega];exact h3⟩
  ·rintro⟨h1,h2⟩;exact⟨⟨h1,fun i hi=>h2 i zO⟩,h2 k zO⟩
theorem We {n:ao} {k:Nat}:0<=Ve n k:=by
 induction k with
 | zero=>exact Int.le_refl _
 | succ k ih=>rw[AO];exact Hj ih
theorem RN {n:ao} {k:Nat}:Ve n k=0↔∀v,v<k->∀i,i<(n.ends.getD v []).length->DS n v i:=by
 induction k with
 | zero=>exact⟨fun _ v hv=>zO,fun _=>rfl⟩
 | succ k ih=>
  rw[AO,Ou We,ih];constructor
  ·rintro⟨h1,h2⟩ v hv;rcases Zbi v k with h4 | h4
   ·exact h1 v h4
   ·rw[show v=k by omega];exact h2
  ·intro h;exact⟨fun v hv=>h v zO,h k zO⟩
theorem h_ {n:ao} {v i:Nat} {f:Int×Int}:bA n v i f↔i<(n.ends.getD v []).length/\im n v i=f:=by
 unfold bA im
 rw[Zbs];constructor
 ·rintro⟨h,rfl⟩;exact⟨h,ag (Zbu h)⟩
 ·rintro⟨h,rfl⟩;exact⟨h,(ag (Zbu h)).symm⟩
def AS (n:ao):Bool:=(List.range n.ends.length).any fun v=>(List.range (n.ends.getD v []).length).any fun i=>decide (im n v i=((v:Int),(i:Int)))
theorem Wf {n:ao} (hn:ar n=true):DN n=AS n:=by
 rw[Zbl]
 unfold DN AS
 simp only[Zcg,Zab,decide_eq_true_eq,Zai];constructor
 ·rintro⟨e,he,h1,h2⟩;obtain⟨v,i,f,hv,hp,hk,rfl⟩:=d_.1 he;obtain⟨h3,h4⟩:=h_.1 hp;refine⟨v,hv,i,h3,?_⟩;rw[h4];exact Prod.ext h1.symm h2.symm
 ·rintro⟨v,hv,i,hi,h⟩;refine⟨_,d_.2 ⟨v,i,_,hv,h_.2 ⟨hi,h⟩,?_,rfl⟩,rfl,rfl⟩;unfold k_;simp
theorem Wg {n:ao} (hn:ar n=true):sX n=(!AS n&&Fc n==0):=by
 unfold sX;rw[Wf hn];cases hs:AS n
 ·simp only[Bool.not_false,Bool.true_and];rw[Zbl,decide_eq_true_eq,beq_iff_eq,AG hn];unfold Fc;rw[RN]
  have XM:∀v i,v<n.ends.length->i<(n.ends.getD v []).length->im n v i≠((v:Int),(i:Int)):=by
   intro v i hv hi e
   have:AS n=true:=Zcg.2 ⟨v,Zab.2 hv,Zcg.2 ⟨i,Zab.2 hi,decide_eq_true e⟩⟩
   rw[hs]at this;cases this
  have lw:∀v i,v<n.ends.length->∀(hi:i<(n.ends.getD v []).length),(¬jU (jt n (gG v i (im n v i))) v (im n v i).1.toNat↔DS n v i):=by
   intro v i hv hi;have hp:bA n v i (im n v i):=h_.2 ⟨hi,rfl⟩;obtain⟨p1,p2,p3,p4,p5⟩:=dZ hn hp;have hc:=AF hn (gG v i (im n v i)) (ph hn hp);have lC:(jt n (gG v i (im n v i))).ends.length=n.ends.length:=by simp[jt]
   have:=jr hc (v:=v) (w:=(im n v i).1.toNat) zO zO
   unfold DS;rw[<- this];unfold n8;constructor
   ·intro h;exact .inr zO
   ·rintro(h | h)
    ·exact absurd h (XM v i hv hi)
    ·omega
  constructor
  ·intro h v hv i hi;exact(lw v i hv hi).1 (h v i _ (h_.2 ⟨hi,rfl⟩))
  ·intro h v i f hp;obtain⟨h1,h2⟩:=h_.1 hp;have hv:=(dZ hn hp).1;subst h2;exact(lw v i hv h1).2 (h v hv i h1)
 ·simp
def ky (N:Nat) (l t:List Int) (v:Nat):Prop:=(∃i,i<=v/\i<N/\(∀j,j<i->t.getD j 0=l.getD j 0)/\l.getD i 0<t.getD i 0)\/(N<=v/\∀j,j<N->t.getD j 0=l.getD j 0)
theorem getD_set_ne {l:List Int} {v j:Nat} {x:Int} (h:j≠v):(l.set v x).getD j 0=l.getD j 0:=by
 rw[zDd,Zaw (Ne.symm h),<- zDd]
theorem xQ {l:List Int} {v:Nat} {x:Int} (h:v<l.length):(l.set v x).getD v 0=x:=by
 rw[zDd,Zav h];rfl
theorem ky.back {N:Nat} {l t:List Int} {v:Nat} (h:ky N l t v) (hv:v<N) (hm:t.getD v 0<=l.getD v 0):v≠0/\ky N (l.set v (-1)) t (v-1):=by
 rcases h with⟨i,h1,h2,h3,h4⟩ | ⟨h1,-⟩
 ·have jh:i≠v:=fun e=>by subst e;omega
  refine⟨zO,.inl ⟨i,zO,h2,fun j hj=>?_,?_⟩⟩
  ·rw[getD_set_ne zO];exact h3 j hj
  ·rw[getD_set_ne jh];exact h4
 ·omega
theorem ky.go {N:Nat} {l t:List Int} {v:Nat} (h:ky N l t v) (hv:v<N) (hl:l.length=N):ky N (l.set v (l.getD v 0+1)) t v\/(∀j,j<=v->t.getD j 0=(l.set v (l.getD v 0+1)).getD j 0):=by
 rcases h with⟨i,h1,h2,h3,h4⟩ | ⟨h1,-⟩
 ·by_cases e:i=v
  ·subst e
   by_cases e2:t.getD i 0=l.getD i 0+1
   ·right
    intro j hj;rcases Nat.lt_or_eq_of_le hj with hj | hj
    ·rw[getD_set_ne zO];exact h3 j hj
    ·subst hj;rw[xQ zO];exact e2
   ·left
    refine .inl ⟨i,Zaj _,h2,fun j hj=>?_,?_⟩
    ·rw[getD_set_ne zO];exact h3 j hj
    ·rw[xQ zO];omega
  ·left
   refine .inl ⟨i,h1,h2,fun j hj=>?_,?_⟩
   ·rw[getD_set_ne zO];exact h3 j hj
   ·rw[getD_set_ne e];exact h4
 ·omega
theorem ky.up {N:Nat} {l t:List Int} {v:Nat} (h:ky N l t v) (hv:v<N):ky N l t (v+1):=by
 rcases h with⟨i,h1,h2,h3,h4⟩ | ⟨h1,h2⟩
 ·exact .inl ⟨i,zO,h2,h3,h4⟩
 ·omega
theorem ky.same {N:Nat} {l t:List Int} {v:Nat} (h:∀j,j<=v->t.getD j 0=l.getD j 0) (hl:v+1<N->l.getD (v+1) 0<t.getD (v+1) 0):ky N l t (v+1):=by
 by_cases e:v+1<N
 ·exact .inl ⟨v+1,Zaj _,e,fun j hj=>h j zO,hl e⟩
 ·exact .inr ⟨zO,fun j hj=>h j zO⟩
structure agi (n:ao) (l:List Int) (v:Nat):Prop where
 st:St n.ends.length 2 l v
 ahL:∀a,a<v->a<n.ends.length->∀e∈n.ends.getD a [],e.1.toNat<v->l.getD e.1.toNat 0≠l.getD a 0
structure ZW (l0:List (List Int)) (ps:List (Int×Int)):Prop where
 inj:∀(j k:Nat) (e:Int×Int),ps[j]?=some e->ps[k]?=some e->j=k
 in_:∀(k:Nat) (e:Int×Int),ps[k]?=some e->∃v i:Nat,e=((v:Int),(i:Int))/\ax l0 v i/\ak l0 v i<0
 all:∀v i:Nat,ax l0 v i->ak l0 v i<0->∃k:Nat,ps[k]?=some ((v:Int),(i:Int))
theorem DT {l:List (List Int)} {e:Int×Int}:e∈gb l↔∃v i:Nat,e=((v:Int),(i:Int))/\ax l v i/\ak l v i<0:=by
 unfold gb kX zH
 simp only[List.mem_flatMap,List.mem_map,List.mem_filter,Zab,decide_eq_true_eq];constructor
 ·rintro⟨v,hv,i,⟨hi,h⟩,rfl⟩;exact⟨v,i,rfl,hi,h⟩
 ·rintro⟨v,i,rfl,hi,h⟩;exact⟨v,ax.lt hi,i,⟨hi,h⟩,rfl⟩
theorem Ht (l:List (List Int)):(gb l).Nodup:=by
 unfold gb kX zH
 show List.Pairwise _ _
 rw[List.pairwise_flatMap];refine⟨fun v _=>?_,?_⟩
 ·rw[List.pairwise_map];refine((List.nodup_range (n:=(l.getD v []).length)).filter _).imp fun {a b} oe h=>oe ?_
  have:=congrArg Prod.snd h
  simp at this
  omega
 ·refine(List.nodup_range (n:=l.length)).imp fun {a b} oe x hx y hy h=>oe ?_
  obtain⟨i,-,rfl⟩:=List.mem_map.1 hx;obtain⟨j,-,rfl⟩:=List.mem_map.1 hy
  have:=congrArg Prod.fst h
  simp at this
  omega
theorem iv (l:List (List Int)):ZW l (gb l):=by
 refine⟨fun j k e hj hk=>?_,fun k e hk=>DT.1 (Zaq hk),fun v i h1 h2=>?_⟩
 ·have h:=Zbg.1 (Ht l);obtain⟨l1,e1⟩:=Zbs.1 hj;obtain⟨l2,e2⟩:=Zbs.1 hk;rcases Nat.lt_trichotomy j k with h3 | h3 | h3
  ·exact absurd (e1.trans e2.symm) (h j k l1 l2 h3)
  ·exact h3
  ·exact absurd (e2.trans e1.symm) (h k j l2 l1 h3)
 ·obtain⟨k,hk⟩:=List.getElem?_of_mem (DT.2 ⟨v,i,rfl,h1,h2⟩);exact⟨k,hk⟩
def kJ (ps:List (Int×Int)) (l:List (List Int)):List Int:=ps.map (dt l)
theorem vu (ps:List (Int×Int)) (l:List (List Int)):(kJ ps l).length=ps.length:=by unfold kJ;rw[List.length_map]
theorem gy {ps:List (Int×Int)} {l:List (List Int)} {k:Nat} {e:Int×Int} (h:ps[k]?=some e):(kJ ps l).getD k 0=dt l e:=by
 unfold kJ;rw[zDd,Zbr,h];rfl
theorem kS {l0 l:List (List Int)} {ps:List (Int×Int)} (hp:ZW l0 ps) (hs:cO l0 l) {k:Nat} {e:Int×Int} (hk:ps[k]?=some e) (x:Int):kJ ps (dX l e x)=(kJ ps l).set k x:=by
 obtain⟨v,i,rfl,hi,-⟩:=hp.in_ k e hk;refine Zck fun j=>?_
 by_cases hj:j<ps.length
 ·obtain⟨f,hf⟩:=au ps j hj;obtain⟨u,m,rfl,hm,-⟩:=hp.in_ j f hf;rw[Zci];unfold kJ;rw[Zbr,Zbr,hf];show some (dt _ _)=_
  rw[j8,ju (hi.same hs)]
  by_cases e:k=j
  ·subst e;rw[hk]at hf
   have:=Zbx hf
   simp at this
   rw[if_pos rfl,if_pos ⟨zO,zO⟩,List.length_map,if_pos hj]
  ·rw[if_neg e,if_neg]
   ·show some (ak l u m)=some (dt _ _)
    rw[j8]
   ·rintro⟨rfl,rfl⟩;exact e (hp.inj k j _ hk hf)
 ·rw[Zce (by rw[vu];omega),Zce (by rw[Zau,vu];omega)]
def yr (ps:List (Int×Int)) (l:List (List Int)) (k:Nat):List (List Int):=match ps[k]? with
 | some e=>dX l e (-1)
 | none=>l
structure ld (p:aq) (n:ao) (l0:List (List Int)) (ps:List (Int×Int)) (l:List (List Int)) (k:Nat):Prop where
 shp:cO l0 l
 st:St ps.length (p.labels-1) (kJ ps l) k
 off:∀v i,ax l0 v i->0<=ak l0 v i->ak l v i=ak l0 v i
 held:f7 p n.ends (yr ps l k)=true
theorem DU (ps:List (Int×Int)) {l0 l:List (List Int)} (hp:ZW l0 ps) (k:Nat):cO l (yr ps l k):=by
 unfold yr
 cases h:ps[k]? with
 | none=>exact cO.refl _
 | some e=>
  obtain⟨v,i,rfl,-,-⟩:=hp.in_ k e h;exact gH _ _ _ _
theorem RO {ps:List (Int×Int)} {l0 l:List (List Int)} (hp:ZW l0 ps) (hs:cO l0 l) (k v i:Nat):ak (yr ps l k) v i=ak l v i\/ak (yr ps l k) v i<0:=by
 unfold yr
 cases h:ps[k]? with
 | none=>exact .inl rfl
 | some e=>
  obtain⟨u,j,rfl,hj,-⟩:=hp.in_ k e h;show ak (dX l ((u:Int),(j:Int)) (-1)) v i=_\/_
  rw[ju (hj.same hs)]
  split
  ·exact .inr zO
  ·exact .inl rfl
section
variable {p : aq} {n : ao} {l0 l : List (List Int)} {ps : List (Int × Int)} {k : Nat} {e : Int × Int} (hp : bV p = true) (hn : ar n = true) (aK : dv n l0) (hP : ZW l0 ps)
include hp hn aK hP
theorem KT (hs:cO l0 l) (h:f7 p n.ends l=true) (k:Nat):f7 p n.ends (yr ps l k)=true:=
 nJ hp hn (aK.same hs) (DU ps hP k) (fun v i _=>RO hP hs k v i) h
theorem ld.back (h:ld p n l0 ps l k) (hk:ps[k]?=some e) (h0:k≠0):ld p n l0 ps (dX l e (-1)) (k-1):=by
 have hh:=h.held;unfold yr at hh;rw[hk]at hh;obtain⟨v,i,rfl,hi,hc⟩:=hP.in_ k e hk;have iR:cO l0 (dX l ((v:Int),(i:Int)) (-1)):=h.shp.trans (gH _ _ _ _)
 refine⟨iR,by rw[kS hP h.shp hk];exact h.st.back h0,fun u j hu h1=>?_,KT hp hn aK hP iR hh _⟩
 rw[ju (hi.same h.shp),if_neg (by rintro⟨rfl,rfl⟩;omega)];exact h.off u j hu h1
theorem ld.stay (h:ld p n l0 ps l k) (hk:ps[k]?=some e) (hm:dt l e≠p.labels-1):ld p n l0 ps (dX l e (dt l e+1)) k:=by
 have oV:=ah hk;have hh:=h.held;unfold yr at hh;rw[hk]at hh;rw[<- gy (l:=l) hk]at hm ⊢;obtain⟨x,hx⟩:=K_ ((kJ ps l).getD k 0+1)
 have kh:=(h.st.up oV hm).stay;rw[hx]at kh ⊢;obtain⟨v,i,rfl,hi,hc⟩:=hP.in_ k e hk;have iR:cO l0 (dX l ((v:Int),(i:Int)) x):=h.shp.trans (gH _ _ _ _)
 refine⟨iR,by rw[kS hP h.shp hk];exact kh,fun u j hu h1=>?_,?_⟩
 ·rw[ju (hi.same h.shp),if_neg (by rintro⟨rfl,rfl⟩;omega)];exact h.off u j hu h1
 ·refine nJ hp hn (aK.same (h.shp.trans (gH l v i (-1)))) ((gH l v i (-1)).symm.trans ((gH l v i x).trans (DU ps hP k))) (fun u j hu=>.inl ?_) hh
  unfold yr;rw[hk];show ak (dX (dX l _ x) _ (-1)) u j=_
  rw[ju (hi.same iR),ju (hi.same h.shp),ju (hi.same h.shp)]
  split <;> rfl
theorem ld.on (h:ld p n l0 ps l k) (hk:ps[k]?=some e) (hm:dt l e≠p.labels-1) (hg:(fJ p ((dX l e (dt l e+1)).getD e.1.toNat [])&&ji p n.ends (dX l e (dt l e+1)) e)=true):ld p n l0 ps (dX l e (dt l e+1)) (k+1):=by
 have h2:=h.stay hp hn aK hP hk hm;have oV:=ah hk;have hh:=h.held;unfold yr at hh;rw[hk]at hh;rw[<- gy (l:=l) hk]at hm
 have eV:0<=p.labels-1:=by
  unfold bV at hp;rw[Zai,aB]at hp;omega
 have eB:=(h.st.up oV hm).on eV;rw[<- kS hP h.shp hk,gy hk]at eB;rw[Zai]at hg;obtain⟨x,hx⟩:=K_ (dt l e+1)
 rw[hx]at h2 eB hg ⊢;refine⟨h2.shp,eB,h2.off,KT hp hn aK hP h2.shp ?_ _⟩;obtain⟨v,i,rfl,hi,hc⟩:=hP.in_ k e hk;refine KN (v:=v) (i:=i) hn (aK.same (h.shp.trans (gH l v i (-1)))) ((gH l v i (-1)).symm.trans (gH l v i x)) (fun u j huj=>?_) hh ?_ ?_ ((hi.same h.shp).same (gH l v i (-1)))
 ·rw[ju (hi.same h.shp),ju (hi.same h.shp),if_neg huj,if_neg huj]
 ·simpa using hg.1
 ·rw[<- AH];exact hg.2
structure C0 (p:aq) (n:ao) (l0 s:List (List Int)):Prop where
 shp:cO l0 s
 rng:∀v i,ax l0 v i->0<=ak s v i/\ak s v i<=p.labels-1
 off:∀v i,ax l0 v i->0<=ak l0 v i->ak s v i=ak l0 v i
 held:f7 p n.ends s=true
omit hp hn aK in
theorem ld.sol (h:ld p n l0 ps l ps.length) (cH:Ju (p.labels-1) l0):C0 p n l0 l:=by
 refine⟨h.shp,fun v i hi=>?_,h.off,?_⟩
 ·by_cases hc:0<=ak l0 v i
  ·rw[h.off v i hi hc];refine⟨hc,?_⟩;obtain⟨row,hr⟩:=au l0 v hi.lt;have jS:=hi;unfold ax at jS;rw[ag hr]at jS;obtain⟨x,hx⟩:=au row i jS
   have:=cH v row i x hr hx
   unfold ak;rw[ag hr,ag hx];exact this.2
  ·obtain⟨k,hk⟩:=hP.all v i hi zO
   have:=h.st.lo k (ah hk) (ah hk)
   rw[gy hk,j8]at this;exact this
 ·have hh:=h.held;unfold yr at hh;rw[Zce (Zaj _)]at hh;exact hh
theorem Hw {s:List (List Int)} (hs:C0 p n l0 s) (h:ld p n l0 ps l k) (hk:ps[k]?=some e) {x:Int} (Zb:∀j,j<=k->(kJ ps s).getD j 0=((kJ ps l).set k x).getD j 0):(fJ p ((dX l e x).getD e.1.toNat [])&&ji p n.ends (dX l e x) e)=true:=by
 obtain⟨v,i,rfl,hi,hc⟩:=hP.in_ k e hk;have iR:cO l0 (dX l ((v:Int),(i:Int)) x):=h.shp.trans (gH _ _ _ _)
 have dU:∀u j,ax l0 u j->ak (dX l ((v:Int),(i:Int)) x) u j=ak s u j\/ak (dX l ((v:Int),(i:Int)) x) u j<0:=fun u j hj=>by
  by_cases jT:0<=ak l0 u j
  ·left
   rw[hs.off u j hj jT,ju (hi.same h.shp),if_neg (by rintro⟨rfl,rfl⟩;omega)];exact h.off u j hj jT
  ·obtain⟨m,hm⟩:=hP.all u j hj zO;rw[<- j8,<- j8,<- gy (l:=s) hm,<- gy (l:=dX l _ x) hm,kS hP h.shp hk];rcases Zbi k m with h1 | h1
   ·right
    rw[getD_set_ne zO,h.st.hi m h1 (ah hm)];omega
   ·exact .inl (Zb m h1).symm
 have hh:=nJ hp hn (aK.same hs.shp) (hs.shp.symm.trans iR) (fun u j hu=>dU u j (hu.same hs.shp.symm)) hs.held
 rw[eO]at hh;have jS:ax (dX l ((v:Int),(i:Int)) x) v i:=hi.same iR;obtain⟨h1,h2⟩:=hh v jS.lt;rw[Zai,AH];exact⟨by simpa using h1,h2 i jS⟩
omit hp hn aK hP in
theorem go_pos (p:aq) (ends:List (List (Int×Int))) (ps:List (Int×Int)) (most:Int) (f:Nat) (l:List (List Int)) (st:Int):(lZ p ends ps most f l (-1) st).1=0\/lZ p ends ps most f l (-1) st=(2,l,-1,st):=by
 cases f with
 | zero=>exact .inl rfl
 | succ f=>right;simp[lZ]
theorem go_sound {most:Int}:∀(f:Nat) (l:List (List Int)) (k:Nat) (st:Int),ld p n l0 ps l k->k<=ps.length->(lZ p n.ends ps most f l k st).1=1->ld p n l0 ps (lZ p n.ends ps most f l k st).2.1 ps.length
 | 0,_,_,_,_,_,hr=>by simp[lZ]at hr
 | f+1,l,k,st,h,hk,hr=>by
  unfold lZ at hr ⊢
  rw[if_neg zO]at hr ⊢
  by_cases h1:k=ps.length
  ·subst h1;rw[if_pos rfl];exact h
  ·rw[if_neg zO]at hr ⊢;obtain⟨e,he⟩:=au ps k zO
   rw[show(ps.getD (k:Int).toNat (0,0))=e by rw[Zag];exact ag he]at hr ⊢
   by_cases h2:dt l e=p.labels-1
   ·simp only[h2,if_true]at hr ⊢
    by_cases h0:k=0
    ·subst h0;rw[show((0:Nat):Int)-1 = -1 by rfl]at hr
     rcases go_pos p n.ends ps most f (dX l e (-1)) st with h3 | h3
     ·rw[h3]at hr;cases hr
     ·rw[h3]at hr;cases hr
    ·rw[show(k:Int)-1=((k-1:Nat):Int)by omega]at hr ⊢
     exact go_sound f _ _ _ (h.back hp hn aK hP he h0) zO hr
   ·simp only[if_neg h2]at hr ⊢
    by_cases h3:st=most
    ·rw[if_pos h3]at hr;cases hr
    ·simp only[if_neg h3]at hr ⊢
     cases hg:(fJ p ((dX l e (dt l e+1)).getD e.1.toNat [])&&ji p n.ends (dX l e (dt l e+1)) e)
     ·rw[hg,if_neg zS]at hr;rw[if_neg zS];exact go_sound f _ _ _ (h.stay hp hn aK hP he h2) hk hr
     ·rw[hg,if_pos rfl]at hr;rw[if_pos rfl];rw[show(k:Int)+1=((k+1:Nat):Int)by omega]at hr ⊢
      exact go_sound f _ _ _ (h.on hp hn aK hP he h2 hg) zO hr
theorem go_none {most:Int} {s:List (List Int)} (hs:C0 p n l0 s):∀(f:Nat) (l:List (List Int)) (k:Nat) (st:Int),ld p n l0 ps l k->k<=ps.length->ky ps.length (kJ ps l) (kJ ps s) k->(lZ p n.ends ps most f l k st).1≠2
 | 0,_,_,_,_,_,_=>by simp[lZ]
 | f+1,l,k,st,h,hk,hL=>by
  unfold lZ;rw[if_neg zO]
  by_cases h1:k=ps.length
  ·subst h1;rw[if_pos rfl];simp
  ·rw[if_neg zO];obtain⟨e,he⟩:=au ps k zO;have oV:=ah he
   rw[show(ps.getD (k:Int).toNat (0,0))=e by rw[Zag];exact ag he]
   have eD:∀m,m<ps.length->0<=(kJ ps s).getD m 0/\(kJ ps s).getD m 0<=p.labels-1:=fun m hm=>by
    obtain⟨g,hg⟩:=au ps m hm;obtain⟨v,i,rfl,hi,-⟩:=hP.in_ m g hg;rw[gy hg,j8];exact hs.rng v i hi
   by_cases h2:dt l e=p.labels-1
   ·simp only[h2,if_true]
    obtain⟨h0,hL2⟩:=hL.back oV (by rw[gy he (l:=l),h2];exact(eD k oV).2)
    rw[show(k:Int)-1=((k-1:Nat):Int)by omega]
    rw[<- kS hP h.shp he]at hL2;exact go_none hs f _ _ _ (h.back hp hn aK hP he h0) zO hL2
   ·simp only[if_neg h2]
    by_cases h3:st=most
    ·rw[if_pos h3];simp
    ·simp only[if_neg h3];have Ov:=hL.go oV (vu ps l);rw[gy he]at Ov;cases hg:(fJ p ((dX l e (dt l e+1)).getD e.1.toNat [])&&ji p n.ends (dX l e (dt l e+1)) e)
     ·rw[if_neg zS];refine go_none hs f _ _ _ (h.stay hp hn aK hP he h2) hk ?_;rcases Ov with h4 | h4
      ·rw[kS hP h.shp he];exact h4
      ·rw[Hw hp hn aK hP hs h he h4]at hg;cases hg
     ·rw[if_pos rfl,show(k:Int)+1=((k+1:Nat):Int)by omega]
      have hst:=h.on hp hn aK hP he h2 hg;refine go_none hs f _ _ _ hst zO ?_;rw[kS hP h.shp he];rcases Ov with h4 | h4
      ·exact h4.up oV
      ·refine ky.same h4 fun aA=>?_
       have h6:=hst.st.at_ aA;have h7:=eD (k+1) aA;have h8:=h.st.hi (k+1) zO aA;rw[getD_set_ne zO,h8];omega
theorem su (cH:Ju (p.labels-1) l0) (h:f7 p n.ends l0=true):ld p n l0 ps l0 0:=by
 have eV:0<=p.labels-1:=by
  unfold bV at hp;rw[Zai,aB]at hp;omega
 have dU:∀k,k<ps.length->(kJ ps l0).getD k 0 = -1:=fun k hk=>by
  obtain⟨e,he⟩:=au ps k hk;obtain⟨v,i,rfl,hi,hc⟩:=hP.in_ k e he;rw[gy he,j8];obtain⟨row,hr⟩:=au l0 v hi.lt;have jS:=hi;unfold ax at jS;rw[ag hr]at jS;obtain⟨x,hx⟩:=au row i jS;have h1:=cH v row i x hr hx
  unfold ak at hc ⊢
  rw[ag hr,ag hx]at hc ⊢;omega
 refine⟨cO.refl _,⟨vu _ _,fun j h=>zO,fun h=>by rw[dU 0 h];omega,fun j _ hj=>dU j hj⟩,fun _ _ _ _=>rfl,KT hp hn aK hP (cO.refl _) h 0⟩
theorem DV {s:List (List Int)} (hs:C0 p n l0 s) (cH:Ju (p.labels-1) l0) (h:f7 p n.ends l0=true):ky ps.length (kJ ps l0) (kJ ps s) 0:=by
 have hst:=su hp hn aK hP cH h
 by_cases h0:0<ps.length
 ·refine .inl ⟨0,Zaj _,h0,fun j hj=>zO,?_⟩
  obtain⟨e,he⟩:=au ps 0 h0;obtain⟨v,i,rfl,hi,hc⟩:=hP.in_ 0 e he
  have:=(hs.rng v i hi).1
  rw[gy he,gy he,j8,j8];omega
 ·exact .inr ⟨zO,fun j hj=>zO⟩
end
theorem RP {p:aq} {n:ao} {l:List (List Int)} {most:Int} (h:bz p n l most=1):qG p n l most=true/\C0 p n l (cG p n l most):=by
 unfold bz at h
 split at h
 ·rename_i eZ
  refine⟨eZ,?_⟩;unfold cG;rw[if_pos eZ,if_pos h];unfold qG at eZ;simp only[Zai]at eZ;obtain⟨⟨⟨h1,h2⟩,h3⟩,h4⟩:=eZ;obtain⟨iR,cH⟩:=ru h3;have hm:=aB.1 h4
  unfold VZ P7 at h ⊢
  split at h
  ·rename_i hh
   rw[if_pos hh];have hA:=zL EU p n.ends (gb l) most (bR most 0 0) (bR most 0 0) () l 0 0 hm.1 zO zO (Zaj _) (Zaj _);rw[hA]at h ⊢;simp only[EU]at h ⊢
   by_cases hr:(lZ p n.ends (gb l) most (bR most 0 0) l 0 0).1=1
   ·simp only[hr,if_true]at h ⊢
    exact(go_sound h1 h2 (dv.of iR) (iv l) _ l 0 0 (su h1 h2 (dv.of iR) (iv l) cH hh) (Zac _) hr).sol (iv l) cH
   ·simp only[if_neg hr]at h;exact absurd h hr
  ·cases h
 ·cases h
theorem Wh {p:aq} {n:ao} {l s:List (List Int)} {most:Int} (hs:C0 p n l s) (eZ:qG p n l most=true):bz p n l most=1\/bz p n l most=3:=by
 unfold bz;rw[if_pos eZ];unfold qG at eZ;simp only[Zai]at eZ;obtain⟨⟨⟨h1,h2⟩,h3⟩,h4⟩:=eZ;obtain⟨iR,cH⟩:=ru h3;have hm:=aB.1 h4;have hS:=dv.of iR
 have hh:f7 p n.ends l=true:=nJ h1 h2 (hS.same hs.shp) hs.shp.symm (fun v i hi=>by
  have jS:=hi.same hs.shp.symm
  by_cases hc:0<=ak l v i
  ·exact .inl (hs.off v i jS hc).symm
  ·exact .inr zO) hs.held
 unfold VZ P7
 rw[if_pos hh];have hA:=zL EU p n.ends (gb l) most (bR most 0 0) (bR most 0 0) () l 0 0 hm.1 zO zO (Zaj _) (Zaj _);rw[hA];simp only[EU];have h5:=go_none h1 h2 hS (iv l) (most:=most) hs (bR most 0 0) l 0 0 (su h1 h2 hS (iv l) cH hh) (Zac _) (DV h1 h2 hS (iv l) hs cH hh);have h6:=(QL p n.ends (gb l) most (bR most 0 0) l 0 0 hm.1 zO zO (Zaj _)).2.2.2.2.2.2
 by_cases hr:(lZ p n.ends (gb l) most (bR most 0 0) l 0 0).1=1
 ·rw[if_pos hr]
  left
  first | exact hr | simpa using hr
 ·simp only[if_neg hr];rcases h6 with h6 | h6 | h6
  ·exact absurd h6 hr
  ·exact absurd h6 h5
  ·exact .inr h6
def Mw (p:aq) (l:List (List Int)):Bool:=!(l.any fun c => !lX c 0 (p.labels-1))
def iE (p:aq) (n:ao) (l:List (List Int)):Bool:=kC n l&&Mw p l
def tL (n:ao) (v i:Nat):Bool:=decide ((v:Int)<((n.ends.getD v []).getD i (0,0)).1)||(decide ((v:Int)=((n.ends.getD v []).getD i (0,0)).1)&&decide ((i:Int)<=((n.ends.getD v []).getD i (0,0)).2))
def xR (p:aq) (n:ao) (l:List (List Int)) (v i:Nat):Bool:=!(tL n v i && !edgeB p (ak l v i) (ak l (cF n v i).1 (cF n v i).2))
def HH (p:aq) (n:ao) (l:List (List Int)) (v:Nat):Bool:=l_ p (l.getD v [])&&(List.range (n.ends.getD v []).length).all (xR p n l v)
def wO (p:aq) (n:ao) (l:List (List Int)):Bool:=(List.range l.length).all (HH p n l)
def pU (p:aq) (n:ao) (l:List (List Int)):Bool:=bV p&&ar n&&iE p n l
theorem AW {p:aq} {n:ao} {l:List (List Int)} (h:iE p n l=true):dv n l/\∀v i,ax l v i->0<=ak l v i/\ak l v i<=p.labels-1:=by
 unfold iE kC jd Mw at h
 simp only[Zai,decide_eq_true_eq,Zbh,Zab,Bool.not_eq_true',List.any_eq_false]at h;obtain⟨⟨h1,h2⟩,h3⟩:=h;refine⟨⟨h1,fun v=>?_⟩,fun v i hi=>?_⟩
 ·by_cases hv:v<l.length
  ·exact h2 v hv
  ·rw[zDd,zDd,Zce zO,Zce zO];rfl
 ·obtain⟨row,hr⟩:=au l v hi.lt;have jS:=hi;unfold ax at jS;rw[ag hr]at jS;obtain⟨x,hx⟩:=au row i jS;have h4:lX row 0 (p.labels-1)=true:=by simpa using h3 row (Zaq hr)
  unfold lX at h4;have h5:=aB.1 (Zbh.1 h4 x (Zaq hx));unfold ak;rw[ag hr,ag hx];exact h5
theorem KU {p:aq} {n:ao} {l:List (List Int)} (hs:dv n l) (hr:∀v i,ax l v i->0<=ak l v i/\ak l v i<=p.labels-1):iE p n l=true:=by
 unfold iE kC jd Mw
 simp only[Zai,decide_eq_true_eq,Zbh,Zab,Bool.not_eq_true',List.any_eq_false];refine⟨⟨hs.1,fun v _=>hs.2 v⟩,fun row hm=>?_⟩
 suffices h:lX row 0 (p.labels-1)=true by simpa using h
 unfold lX;rw[Zbh];intro x hx;obtain⟨v,hv⟩:=List.getElem?_of_mem hm;obtain⟨i,hi⟩:=List.getElem?_of_mem hx
 have h1:ax l v i:=by unfold ax;rw[ag hv];exact ah hi
 have h2:=hr v i h1;unfold ak at h2;rw[ag hv,ag hi]at h2;exact aB.2 h2
theorem AY {p:aq} {l:List (List Int)} (hr:∀v i,ax l v i->0<=ak l v i/\ak l v i<=p.labels-1) (v:Nat):∀x∈l.getD v [],0<=x:=by
 intro x hx;obtain⟨i,hi⟩:=List.getElem?_of_mem hx;have h1:ax l v i:=ah hi;have h2:=hr v i h1;unfold ak at h2;rw[ag hi]at h2;exact h2.1
theorem Ow {p:aq} {n:ao} {l:List (List Int)} (hp:bV p=true) (hn:ar n=true) (h:iE p n l=true):wO p n l=f7 p n.ends l:=by
 obtain⟨hs,hr⟩:=AW h;rw[Zbl,eO]
 unfold wO HH
 simp only[Zbh,Zab,Zai]
 have uy:∀v i,ax l v i->tK p n l v i=edgeB p (ak l v i) (ak l (cF n v i).1 (cF n v i).2):=fun v i hi=>by
  have h1:=(hr v i hi).1;have h2:=(hr _ _ (pT hn hs hi).1).1;unfold tK;rw[decide_eq_false zO,decide_eq_false zO];rfl
 constructor
 ·intro ha v hv;obtain⟨h1,-⟩:=ha v hv
  refine⟨by rw[kG hp (AY hr v)];exact h1,fun i hi=>?_⟩
  rw[uy v i hi];obtain⟨m1,m2,m3⟩:=pT hn hs hi;obtain⟨k1,k2,k3⟩:=pT hn hs m1
  have lw:∀u j,ax l u j->tL n u j=true->edgeB p (ak l u j) (ak l (cF n u j).1 (cF n u j).2)=true:=fun u j hj hf=>by
   have h3:=(ha u hj.lt).2 j (by have:=hj;unfold ax at this;rw[hs.2 u]at this;exact this)
   unfold xR at h3;rw[hf]at h3;simpa using h3
  by_cases hf:tL n v i=true
  ·exact lw v i hi hf
  ·have Mf:tL n (cF n v i).1 (cF n v i).2=true:=by
    unfold tL at hf ⊢
    rw[m3]at hf;rw[k3,m2];simp only[Zbp,Zai,decide_eq_true_eq,not_or,not_and]at hf ⊢
    omega
   have h4:=lw _ _ m1 Mf;rw[m2]at h4;rw[tJ];exact h4
 ·intro ha v hv;obtain⟨h1,h2⟩:=ha v hv
  refine⟨by rw[<- kG hp (AY hr v)];exact h1,fun i hi=>?_⟩
  have jS:ax l v i:=by unfold ax;rw[hs.2 v];exact hi
  have h3:=h2 i jS;rw[uy v i jS]at h3;unfold xR;rw[h3];simp
theorem RQ {p:aq} {n:ao} {l0 s:List (List Int)} (hp:bV p=true) (hn:ar n=true) (aK:dv n l0) (h:C0 p n l0 s):pU p n s=true/\wO p n s=true:=by
 have hf:iE p n s=true:=KU (aK.same h.shp) fun v i hi=>h.rng v i (hi.same h.shp.symm)
 refine⟨?_,by rw[Ow hp hn hf];exact h.held⟩
 unfold pU;rw[hp,hn,hf];rfl
theorem aN (n:ao):dv n (aX n):=dv.of Kk
theorem fP {n:ao} {v i:Nat} (h:ax (aX n) v i):ak (aX n) v i = -1:=by
 obtain⟨row,hr⟩:=au (aX n) v h.lt;unfold ax at h;unfold ak;rw[ag hr]at h ⊢;unfold aX at hr;rw[Zbr]at hr;obtain⟨es,-,rfl⟩:=Option.map_eq_some_iff.1 hr;rw[Zbb]at h;rw[zDd,List.getElem?_replicate_of_lt h];rfl
structure GmI (n:ao) (L:List Ed) (m:List Int):Prop where
 len:m.length=n.ends.length
 mat:∀v,v<n.ends.length->m.getD v 0 = -1\/∃i w j:Nat,m.getD v 0=(i:Int)/\bA n v i ((w:Int),(j:Int))/\w≠v/\m.getD w 0=(j:Int)
 max:∀e∈L,e.1≠e.2.2.1->0<=m.getD e.1.toNat 0\/0<=m.getD e.2.2.1.toNat 0
def ZX (n:ao) (v:Nat) (s:List Int):Bool:=(n.ends.getD v []).any fun e=>s.contains e.1
structure GiI (n:ao) (L s:List Int):Prop where
 sub:∀v∈s,0<=v/\v<n.ends.length
 ind:∀v i w j:Nat,bA n v i ((w:Int),(j:Int))->(v:Int)∈s->(w:Int)∉s
 max:∀v:Nat,(v:Int)∈L->(v:Int)∈s\/ZX n v s=true
theorem sx (n:ao):(mG n).length=n.ends.length:=by simp[mG]
theorem KV (n:ao) (k:Nat):(List.range (k+1)).map (fun v=>(aH n v:Int))=(List.range k).map (fun v=>(aH n v:Int))++[(aH n k:Int)]:=by rw[Zaa,List.map_append];rfl
theorem H4 (ve vi vn:Value) (n:ao) (w:World) (h:aR w ve vi vn n) (hn:ar n=true):
  Calls Tryz.prog 114 #[.agg #[ve,vi,vn]] w fun e w'=>∃u,e=.returned u/\Own w' w.heap.size u (mG n)/\Below w.heap.size w w':=by
 have iM:=bK hn;have On:=iM.1;have Oo:=iM.2;have Hn:=zh hn
 obtain⟨w0,A,c,A2,c2,A3,c3,rfl,rfl,rfl,fR,hm,gC,jz,HA,H,cD,aY,fp,fE,fM⟩:=zB h;clear h
 have aK:ab w0 w0:=aa _;clear hn iM;unfold mG
 go_enter Tryz.func114,Tryz.ntmps114
 go_upto_region 1 with(fail);rw[<- cD.out];go_wp2
 go_loopw [3,8] (fun u i wr=>∃k:Nat,k<=n.ends.length/\i=.int .i64 k/\Own wr w0.heap.size u ((List.range k).map fun v=>(aH n v:Int))/\ab w0 wr) (fun _ i _=>n.ends.length-(intOf i).toNat)
 case atStart=>exact⟨0,Zac _,rfl,by simpa using fA _ w0.heap.size,aK⟩
 case round=>
  obtain⟨k,hk,rfl,ho,eD⟩:=hrel;obtain⟨Ho,Hs⟩:=A_ ho eD;clear ho aK
  by_cases aA:k<n.ends.length
  ·have m3:=zw k
   have jb:Hid (((List.range k).map fun v=>(aH n v:Int)).length+1<=17592186044416):=by show _<=_;simp;omega
   have wM:=zh (KV n k);go_wp2_with fail;refine(KQ _ _ _ n k 40 wr (H.agU Hs.below) Hn aA).mono ?_;rintro e w2 ⟨u2,rfl,dD,aS⟩;have hl:=KP Hn aA
   obtain⟨gd,m,cd,rfl,hm⟩:∃gd m cd,u2=.slice (some ⟨gd,0,none⟩) m cd/\0<m:=by
    rcases dD.cases with⟨-,e1⟩ | ⟨gd,cd,rfl,tC,ut⟩
    ·rw[e1]at hl;cases hl
    ·refine⟨gd,_,cd,rfl,?_⟩
     cases hq:kH n k 40 n.ends.length with
     | nil=>rw[hq]at hl;cases hl
     | cons a b=>simp
   obtain⟨y,hy⟩:=J_ (aH n k:Int)
   rw[<- hy]at hl wM;have cd1:=dD.cell hl;have qQ:(0:Int)<m:=zO
   obtain⟨eU,mg,Hy⟩:=B_ (Hs.out.after aS) (Ho.out.since aS) hy;clear dD aS hl eD hy
   go_wp2_with (at_builtin;refine oP rfl _ _ rfl rfl (mg.since (ad _ (aa _))) w2.heap.size y rfl (by simp[go_sem]) jb (ad _ eU) ?_;intro g cc w3 gZ oi)
   obtain⟨uU,lM⟩:=A_ gZ oi;clear gZ oi;go_wp2;go_roundw
   exact⟨k+1,zO,zN,by rw[wM.out];have:=uU.out;simpa using this,lM.out⟩
   simp[intOf];omega
  ·obtain rfl:k=n.ends.length:=zO
   clear hk aA;go_wp2;go_ret;exact⟨_,rfl,Ho.mono aY.size,ab.after aY Hs⟩
theorem aV.since {S:List Nat} {w0 W W':World} (h:ab w0 W) (ho:aV S W W') (hs:∀k∈S,w0.heap.size<=k):ab w0 W':=Zbw h (ho.below _ h.below.size hs)
theorem Wi {w:World} {base:Nat} {u:Value} {xs:List Int} {k:Nat} {x:Int} (h:Own w base u xs) (hx:xs[k]?=some x):∃g c,u=.slice (some ⟨g,0,none⟩) xs.length c/\w.cell? ⟨g,k,none⟩=some (.int .i64 x)/\base<=g:=by
 rcases h.cases with⟨-,e1⟩ | ⟨g,c,rfl,tC,ut⟩
 ·rw[e1]at hx;simp at hx
 ·exact⟨g,c,rfl,h.cell hx,tC⟩
theorem DX {n:ao} (hn:ar n=true) {v:Nat} (hv:v<n.ends.length):(cJ n v).length=n.ends.length:=vd hn _ _ _ (BI.start hv)
theorem RR {w:World} {base:Nat} {u:Value} {n:ao} (hn:ar n=true) {v k:Nat} (hv:v<n.ends.length) (hk:k<n.ends.length) (h:Own w base u (cJ n v)):∃g c d,u=.slice (some ⟨g,0,none⟩) n.ends.length c/\(cJ n v)[k]?=some d/\w.cell? ⟨g,k,none⟩=some (.int .i64 d)/\base<=g:=by
 obtain⟨d,hd⟩:=au (cJ n v) k (by rw[DX hn hv];exact hk)
 obtain⟨g,c,h1,h2,h3⟩:=Wi h hd;exact⟨g,c,d,by rw[h1,DX hn hv],hd,h2,h3⟩
def vv (n:ao) (v k:Nat):Bool:=(List.range k).any fun i=>decide (im n v i=((v:Int),(i:Int)))
def Fe (n:ao) (k:Nat):Bool:=(List.range k).any fun v=>vv n v (n.ends.getD v []).length
theorem Mx {k v:Nat} {f:Nat->Bool} (hv:v<k) (h:f v=true):(List.range k).any f=true:=Zcg.2 ⟨v,Zab.2 hv,h⟩
theorem KW (ve vi vn:Value) (n:ao) (w:World) (h:aR w ve vi vn n) (hn:ar n=true):
  Calls Tryz.prog 152 #[.agg #[ve,vi,vn]] w fun e w'=>e=.returned (.bool (AS n))/\Below w.heap.size w w':=by
 have iM:=bK hn;have On:=iM.1;have Oo:=iM.2;have Hn:=zh hn
 obtain⟨w0,A,c,A2,c2,A3,c3,rfl,rfl,rfl,fR,hm,gC,jz,HA,H,cD,aY,fp,fE,fM⟩:=zB h;clear h
 have aK:ab w0 w0:=aa _;obtain⟨rb,gh⟩:=K_ (AS n)
 have fX:Hid (Fe n n.ends.length=rb):=gh;rw[gh];clear hn iM gh
 go_enter Tryz.func152,Tryz.ntmps152
 go_upto_region 1 with(fail);rw[<- cD.out];go_wp2
 go_loopw [9] (fun i wr=>∃k:Nat,k<=n.ends.length/\i=.int .i64 k/\Fe n k=false/\ab w0 wr) (fun i _=>n.ends.length-(intOf i).toNat)
 case atStart=>exact⟨0,Zac _,rfl,rfl,aK⟩
 case round=>
  obtain⟨k,hk,rfl,i_,eD⟩:=hrel;obtain⟨qo,Hs⟩:=A_ i_ eD;clear aK i_
  by_cases aA:k<n.ends.length
  ·obtain⟨es,aU⟩:=au n.ends k aA;have aG:=fO Hn aU;have E3:=aG.1;have gT:n.ends.getD k []=es:=ag aU;obtain⟨b,CV,cr,ur,ja,Kv,dk,J6⟩:=iK H.es aU;cases ja;obtain⟨A1,z1,rfl,dP,dY,ja⟩:=J6;unfold maxLen at dY;have JT:=zh ja;have r1:=al (ae dk) Hs;have q5:=r1 wr (aa _);have kw:=zh gT;have m4:=zw k;clear aU aG dk ja gT;go_wp2
   go_loopw [18] (fun i wq=>∃j:Nat,j<=es.length/\i=.int .i64 j/\vv n k j=false/\ab w0 wq) (fun i _=>es.length-(intOf i).toNat)
   case atStart=>exact⟨0,Zac _,rfl,rfl,Hs⟩
   case round=>
    obtain⟨j,hj,rfl,KX,xS⟩:=hrel;obtain⟨Ox,oy⟩:=A_ KX xS;clear KX
    by_cases xK:j<es.length
    ·obtain⟨⟨x1,x2⟩,hx⟩:=au es j xK;obtain⟨b1,CH,rfl,qD,jL⟩:=JT j _ hx;have t1:=ae qD wr oy;have t2:=ae jL wr oy
     have Yd:im n k j=(x1,x2):=by unfold im;rw[kw.out];exact ag hx
     have m3:=zw j;obtain⟨w8,lz⟩:=J_ (wr.alloc (.cells #[.int .i64 x1,.int .i64 x2] 104))
     have kK:ab w0 w8:=by rw[lz];exact ad _ oy
     have KF:=zh lz
     have d0:∀W,ab w8 W->W.cell? ⟨wr.heap.size,0,none⟩=some (.int .i64 x1):=ae (by rw[lz];simp)
     have d1:∀W,ab w8 W->W.cell? ⟨wr.heap.size,1,none⟩=some (.int .i64 x2):=ae (by rw[lz];simp)
     have d00:=d0 w8 (aa _);have d11:=d1 w8 (aa _);obtain⟨j6,Ye⟩:=A_ kK Yd;clear hx qD jL lz Yd d0 d1;go_upto_region 7 with(fail);rw[<- KF.out];clear t1 t2;cases hg:wg (x1,x2) ((k:Int),(j:Int))
     ·have X5:Hid (vv n k (j+1)=false):=by
       show _=_
       unfold vv;rw[Zaa,List.any_append,show(List.range j).any (fun i=>decide (im n k i=((k:Int),(i:Int))))=false from Ox.out]
       simp only[List.any_cons,List.any_nil,Bool.or_false,Bool.false_or,Ye.out];exact hg
      go_wp2;go_roundw
      exact⟨j+1,zO,zN,X5,j6⟩
      simp[intOf];omega
     ·have hb:rb=true:=by
       rw[<- fX.out]
       refine Mx aA (Mx (v:=j) (by rw[kw.out];exact xK) ?_)
       rw[Ye.out];exact hg
      subst hb;go_wp2;go_ret;exact⟨rfl,ab.after aY j6⟩
    ·obtain rfl:j=es.length:=zO
     have Hn3:Hid (Fe n (k+1)=false):=by
      show _=_
      unfold Fe;rw[Zaa,List.any_append,show(List.range k).any (fun v=>vv n v (n.ends.getD v []).length)=false from qo.out]
      simp only[List.any_cons,List.any_nil,Bool.or_false,Bool.false_or];rw[kw.out];exact Ox
     go_wp2;go_roundw
     exact⟨k+1,zO,zN,Hn3,oy⟩
     simp[intOf];omega
  ·obtain rfl:k=n.ends.length:=zO
   have hb:rb=false:=by rw[<- fX.out];exact qo
   subst hb;go_wp2;go_ret;exact⟨rfl,ab.after aY Hs⟩
theorem Oy {n:ao} (h:ar n=true):n.agT.length=n.ends.length/\∀x∈n.agT,0<=x/\x<=9:=by
 unfold ar pB at h
 simp only[Zai,Zbh,beq_iff_eq]at h;exact⟨zO,fun x hx=>aB.1 (h.1.2.2 x hx)⟩
def QA (W:World) (base g off cap:Nat) (xs:List Int):Prop:=
 base<=g/\xs.length<=cap/\cap<=maxLen/\∃cur:Array Value,W.heap[g]?=some (.cells cur 3 (0,0))/\off+cap<=cur.size/\∀j x,xs[j]?=some x->cur[off+j]?=some (.int .i64 x)
theorem QA.cell {W:World} {base g off cap:Nat} {xs:List Int} (h:QA W base g off cap xs) {j:Nat} {x:Int} (hx:xs[j]?=some x):W.cell? ⟨g,off+j,none⟩=some (.int .i64 x):=by
 obtain⟨-,-,-,cur,h1,-,h3⟩:=h;simp[World.cell?,h1,h3 j x hx]
theorem QA.lt {W:World} {base g off cap:Nat} {xs:List Int} (h:QA W base g off cap xs):g<W.heap.size:=by
 obtain⟨-,-,-,cur,h1,-⟩:=h;exact(Zas.1 h1).1
theorem QA.agV {W W':World} {base g off cap:Nat} {xs:List Int} (h:QA W base g off cap xs) (hs:W'.heap[g]?=W.heap[g]?):QA W' base g off cap xs:=by
 obtain⟨h1,h2,h3,cur,h4,h5⟩:=h;exact⟨h1,h2,h3,cur,hs.trans h4,h5⟩
theorem QA.since {W W':World} {base g off cap:Nat} {xs:List Int} (h:QA W base g off cap xs) (hs:ab W W'):QA W' base g off cap xs:=h.agV (hs.below.block g h.lt)
theorem QA.other {W:World} {base g off cap:Nat} {xs:List Int} (h:QA W base g off cap xs) {b:Nat} (hb:g≠b) (k:Nat) (v:Value):QA (W.setCell ⟨b,k,none⟩ v) base g off cap xs:=h.agV (Zan W _ v g hb)
theorem QA.tail {W:World} {base g off cap:Nat} {x:Int} {xs:List Int} (h:QA W base g off cap (x::xs)):QA W base g (off+1) (cap-1) xs:=by
 obtain⟨h1,h2,h3,cur,h4,h5,h6⟩:=h;rw[Zaz]at h2
 exact⟨h1,zO,zO,cur,h4,zO,fun j y hy=>by
  have:=h6 (j+1) y (by simpa using hy)
  rwa [show off+(j+1)=off+1+j by omega]at this⟩
theorem QA.nil {W:World} {base g off cap:Nat} {xs:List Int} (h:QA W base g off cap xs):QA W base g off 0 []:=by
 obtain⟨h1,h2,h3,cur,h4,h5,h6⟩:=h;exact⟨h1,Zaj _,Zac _,cur,h4,zO,fun j y hy=>by simp at hy⟩
theorem QA.one (W:World) (base:Nat) (x:Int) (h:base<=W.heap.size):QA (W.alloc (.cells #[.int .i64 x] 3)) base W.heap.size 0 1 [x]:=by
 refine⟨h,Zaj _,by simp[maxLen],#[.int .i64 x],?_,zS,fun j y hy=>?_⟩
 ·show(W.heap.push _)[W.heap.size]?=_
  rw[Zbc]
 ·have:=ah hy
  simp at this
  subst this;simpa using hy
theorem ab6 {w w0:World} {ops:Array Oper} {rest:List Oper} {o:Oper} {a:Act} {Q:Exit->Act->World->Prop} (gT:o.guard=none) (s x:Operand)
  (ho:o.op=.call { callee:=.builtin .append,args:=#[s,x],argTypes:=#[28,28] }) {g off cap:Nat} {xs:List Int} (hs:a.eval s=.slice (some ⟨g,off,none⟩) xs.length cap) (h:QA w w0.heap.size g off cap xs) (b:Nat) (y:Int)
  (hx:a.eval x=.slice (some ⟨b,0,none⟩) 1 1) (hc:w.cell? ⟨b,0,none⟩=some (.int .i64 y)) (hl:xs.length+1<=1000000) (kj:ab w0 w)
  (k:∀g' nf CC w',QA w' w0.heap.size g' nf CC (xs++[y])->aV [g] w w'->(g'=g\/w.heap.size<=g')->ab w0 w'->wpList Tryz.prog ops Q rest (a.put o.dst (.slice (some ⟨g',nf,none⟩) (xs.length+1) CC)) w'):wpList Tryz.prog ops Q (o::rest) a w:=by
 obtain⟨i0,hi,e_,dP,dY⟩:=info_parts mp;have hq:=h;obtain⟨h1,h2,h3,cur,h4,h5,h6⟩:=h
 refine wpList_append_arg w gT s x 28 ho 3 i0 (.int .i64 0) 1 8 Tryz.underlying28 hi e_ dP dY rfl (by decide) g off xs.length cap (xs.map (Value.int .i64)) hs zS
  (fun j u hj=>by
   rw[Zbr]at hj
   cases hxj:xs[j]? with
   | none=>rw[hxj]at hj;cases hj
   | some z=>rw[hxj]at hj;cases hj;exact hq.cell hxj)
  ⟨b,0,none⟩ 1 1 [.int .i64 y] hx rfl
  (fun j u hj=>by
   have:=ah hj
   simp at this
   subst this;simp at hj
   subst hj;rw[Go.Addr.add_lit]
   exact hc)
  (by simp[Value.oneCell'])
  (fun hr j hj=>by
   simp at hj
   subst hj;have aA:off+xs.length*1+0<cur.size:=zO
   constructor
   ·simp[World.cell?,h4]
    omega
   ·simp[World.frozen?,h4])
  (by unfold maxLen;omega) zO ?_ ?_
 ·intro hr;have aA:off+xs.length<cur.size:=zO
  have e:w.setCells g (off+xs.length*1) [.int .i64 y]=w.setCell ⟨g,off+xs.length,none⟩ (.int .i64 y):=by rw[Nat.mul_one];rfl
  rw[e]
  refine k g off cap _ ⟨h1,by simp;omega,h3,cur.setIfInBounds (off+xs.length) (.int .i64 y),?_,by simpa using h5,fun j z hj=>?_⟩ ((aV.refl _ _).setCell (.inl zS) _) (.inl rfl) (Below.setCell kj h1 _)
  ·simp[World.setCell,Zbf,h4]
  ·by_cases e2:j=xs.length
   ·subst e2;simp at hj
    subst hj;simp[aA]
   ·have CE:xs[j]?=some z:=by
     have FR:=ah hj;rw[Zay,List.length_singleton]at FR
     rwa [Zcb zO]at hj
    rw[Array.getElem?_setIfInBounds_ne zO];exact h6 j z CE
 ·intro hr v' w' aI qk;rcases aI.2 with⟨rfl,hn⟩ | ⟨g',CC,abG,rfl,hb',hg',XV,UV,agj,htk⟩
  ·omega
  ·refine k g' 0 CC w' ⟨zX kj.below.size,by simpa using XV,UV,abG,hg',zO,fun j z hj=>?_⟩ ((aV.agZ qk).mono (fun _ h=>by simp at h)) (.inr hb') (Zbw kj ((aV.agZ qk).below _ kj.below.size (fun _ h=>by simp at h)))
   have e3:(xs.map (Value.int .i64)++[.int .i64 y])[j]?=some (.int .i64 z):=by
    have:(xs.map (Value.int .i64)++[.int .i64 y])=(xs++[y]).map (Value.int .i64):=zS
    rw[this,Zbr,hj];rfl
   rw[<- htk]at e3;have hj3:=ah e3;rw[List.getElem?_take]at e3
   split at e3
   ·rw[Zba];simpa using e3
   ·cases e3
end Go.Proofs.YtnioemnkfojmkaaGreat
