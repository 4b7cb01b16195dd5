/- Parts of the proof: walks of functions and plain laws. -/
import Derived.Test.YtnioemnkfojmkaaGreatP22
set_option maxRecDepth 100000
set_option maxHeartbeats 16000000
namespace Go.Proofs.YtnioemnkfojmkaaGreat
open Go Go.RowKit
def Lk (n:ao) (v i w k:Nat):Prop:=bA n v i ((w:Int),(k:Int))
theorem Lk.symm {n:ao} (hn:ar n=true) {v i w k:Nat} (h:Lk n v i w k):Lk n w k v i:=by
 have h5:=(dZ hn h).2.2.2.2;simpa[Lk]using h5
theorem Lk.lt {n:ao} (hn:ar n=true) {v i w k:Nat} (h:Lk n v i w k):v<n.ends.length/\w<n.ends.length/\i<(n.ends.getD v []).length/\k<(n.ends.getD w []).length:=by
 have h1:=dZ hn h;have h2:=dZ hn (h.symm hn);refine⟨h1.1,h2.1,?_,?_⟩
 ·exact ah h
 ·exact ah (h.symm hn)
theorem Lk.fn {n:ao} {v i w k w' k':Nat} (h:Lk n v i w k) (h':Lk n v i w' k'):w=w'/\k=k':=by
 unfold Lk bA at h h'
 rw[h]at h'
 have:=Zbx h'
 simp only[Prod.mk.injEq]at this;omega
theorem Lk.of {n:ao} (hn:ar n=true) {v i:Nat} (hi:i<(n.ends.getD v []).length):Lk n v i (cF n v i).1 (cF n v i).2:=by
 obtain⟨f,hf⟩:=au _ _ hi;have hp:bA n v i f:=hf;have h1:=dZ hn hp
 have hm:cF n v i=(f.1.toNat,f.2.toNat):=by unfold cF;rw[ag hf]
 rw[hm];unfold Lk;rw[Zcl h1.2.1,Zcl h1.2.2.2.1];exact hp
theorem Lk.see {n:ao} {v i w k:Nat} (h:Lk n v i w k):(w:Int)∈jq n (v:Int):=j7.2 ⟨i,_,h,rfl⟩
structure Lev (n:ao) (L:Nat->Nat):Prop where
 step:∀v i w k,Lk n v i w k->L w=L v+1\/L v=L w+1
 one:∀v i w k i' w' k',Lk n v i w k->Lk n v i' w' k'->L w<L v->L w'<L v->i=i'
def io (n:ao):Prop:=∀v i f,bA n v i f->¬jU (jt n (gG v i f)) v f.1.toNat
theorem sN {n:ao} (hn:ar n=true) {r:Nat} {D:Nat->Int} (hD:Fa n r D) {u j w k:Nat} (hl:Lk n u j w k) {m:Int}
  (hc:∀x y:Nat,D x<=m->D y+1=D x->¬((y=u/\x=w)\/(y=w/\x=u))):∀(d x:Nat),jU n r x->D x<=m->(D x).toNat=d->jU (jt n (gG u j ((w:Int),(k:Int)))) r x:=by
 intro d
 induction d with
 | zero=>
  intro x hx hm hd
  by_cases e:x=r
  ·rw[e];exact .refl
  ·obtain⟨y,hy,hs,he⟩:=hD.par x hx e;have h1:=hD.pos y hy;omega
 | succ d ih=>
  intro x hx hm hd
  by_cases e:x=r
  ·rw[e];exact .refl
  ·obtain⟨y,hy,hs,he⟩:=hD.par x hx e;have h1:=hD.pos y hy;refine jU.step (ih y hy zO zO) ?_;obtain⟨i,f,hp,hf⟩:=j7.1 hs;refine j7.2 ⟨_,_,(pg hn _).2 ⟨i,f,hp,?_,rfl,rfl⟩,hf⟩;have i_:=hc x y hm he;unfold gG;simp only[Zag,Bool.not_eq_true',Zbn,Zah,beq_eq_false_iff_ne,ne_eq];refine⟨?_,?_⟩
   ·by_cases e1:y=u
    ·refine .inr fun e2=>i_ (.inl ⟨e1,?_⟩)
     subst e1 e2
     unfold Lk bA at hl
     unfold bA at hp;rw[hp]at hl
     have:=Zbx hl
     rw[this]at hf;simp only at hf
     omega
    ·exact .inl e1
   ·by_cases e1:y=w
    ·refine .inr fun e2=>i_ (.inr ⟨e1,?_⟩)
     have hs:=hl.symm hn;subst e1 e2
     unfold Lk bA at hs
     unfold bA at hp;rw[hp]at hs
     have:=Zbx hs
     rw[this]at hf;simp only at hf
     omega
    ·exact .inl e1
theorem IT {n:ao} (hn:ar n=true) (hf:io n) (ρ:Nat->Nat) (hρ:∀v,v<n.ends.length->ρ v<n.ends.length/\jU n (ρ v) v) (hc:∀v i w k,Lk n v i w k->ρ v=ρ w):
  Lev n (fun v=>((cJ n (ρ v)).getD v 0).toNat):=by
 have base:∀v i w k,Lk n v i w k->∃D:Nat->Int,Fa n (ρ v) D/\jU n (ρ v) v/\jU n (ρ v) w/\((cJ n (ρ v)).getD v 0)=D v/\((cJ n (ρ w)).getD w 0)=D w/\ar (jt n (gG v i ((w:Int),(k:Int))))=true/\ρ v<n.ends.length:=by
  intro v i w k h;obtain⟨h1,h2,-,-⟩:=h.lt hn;obtain⟨r1,r2⟩:=hρ v h1;obtain⟨s1,s2⟩:=hρ w h2;refine⟨_,vr hn r1,r2,?_,rfl,?_,AF hn _ (ph hn h),r1⟩
  ·rw[hc _ _ _ _ h];exact s2
  ·rw[<- hc _ _ _ _ h]
 have lC:∀kp,(jt n kp).ends.length=n.ends.length:=fun kp=>by simp[jt]
 have jh:∀v i w k,Lk n v i w k->∀D:Nat->Int,Fa n (ρ v) D->jU n (ρ v) v->jU n (ρ v) w->ar (jt n (gG v i ((w:Int),(k:Int))))=true->ρ v<n.ends.length->D v≠D w:=by
  intro v i w k h D hD hv hw hcut hr e
  have TT:∀x y:Nat,D x<=D v->D y+1=D x->¬((y=v/\x=w)\/(y=w/\x=v)):=by
   intro x y _ he h2
   rcases h2 with⟨rfl,rfl⟩ | ⟨rfl,rfl⟩ <;> omega
  have p1:=sN hn hD h TT _ v hv (Int.le_refl _) rfl;have p2:=sN hn hD h TT _ w hw zO rfl;refine hf v i _ h ?_
  have p3:=jU.symm hcut (by rw[lC];exact hr) p1
  simpa using p3.trans p2
 refine⟨?_,?_⟩
 ·intro v i w k h;obtain⟨D,hD,hv,hw,e1,e2,hcut,hr⟩:=base v i w k h;have h1:=jh v i w k h D hD hv hw hcut hr;have n1:=hD.nb v w hv h.see;have n2:=hD.nb w v hw (h.symm hn).see;have q1:=hD.pos v hv;have q2:=hD.pos w hw;simp only[e1,e2];omega
 ·intro v i w k i' w' k' h h' hl hl';obtain⟨D,hD,hv,hw,e1,e2,hcut,hr⟩:=base v i w k h
  have EM:jU n (ρ v) w':=by
   rw[hc _ _ _ _ h'];exact(hρ w' (h'.lt hn).2.1).2
  have e3:((cJ n (ρ w')).getD w' 0)=(cJ n (ρ v)).getD w' 0:=by rw[hc _ _ _ _ h']
  have hD2:=vr hn hr;have q0:=hD2.pos v hv;have q1:=hD2.pos w hw;have q2:=hD2.pos w' EM;have e4:((cJ n (ρ w)).getD w 0)=(cJ n (ρ v)).getD w 0:=by rw[hc _ _ _ _ h]
  simp only[e3,e4]at hl hl'
  by_cases e:i=i'
  ·exact e
  ·exfalso
   obtain⟨D',hD'⟩:∃D':Nat->Int,D'=fun x=>(cJ n (ρ v)).getD x 0:=⟨_,rfl⟩
   rw[<- hD']at hD2;have b0:(cJ n (ρ v)).getD v 0=D' v:=by rw[hD']
   have b1:(cJ n (ρ v)).getD w 0=D' w:=by rw[hD']
   have b2:(cJ n (ρ v)).getD w' 0=D' w':=by rw[hD']
   rw[b0,b1]at hl;rw[b0,b2]at hl';rw[b0]at q0;rw[b1]at q1;rw[b2]at q2
   have TT:∀x y:Nat,D' x<=D' v-1->D' y+1=D' x->¬((y=v/\x=w)\/(y=w/\x=v)):=by
    intro x y hx he h2
    rcases h2 with⟨rfl,rfl⟩ | ⟨rfl,rfl⟩ <;> omega
   have p1:=sN hn hD2 h TT _ w hw zO rfl;have p2:=sN hn hD2 h TT _ w' EM zO rfl;refine hf v i _ h ?_
   have p3:jU (jt n (gG v i ((w:Int),(k:Int)))) (ρ v) v:=by
    refine jU.step p2 (j7.2 ⟨_,_,(pg hn _).2 ⟨k',_,h'.symm hn,?_,rfl,rfl⟩,rfl⟩);unfold gG;simp only[Zag,Bool.not_eq_true',Zbn,Zah,beq_eq_false_iff_ne,ne_eq]
    refine⟨.inl fun e5=>by subst e5;omega,?_⟩
    by_cases e5:w'=w
    ·refine .inr fun e6=>e ?_
     subst e5 e6;exact((h.symm hn).fn (h'.symm hn)).2
    ·exact .inl e5
   have p4:=jU.symm hcut (by rw[lC];exact hr) p3
   simpa using p4.trans p1
theorem aaU {n:ao} (hn:ar n=true) (hf:io n) {v:Nat} (hv:v<n.ends.length):∃L,Lev n L/\∀i w k,Lk n v i w k->L v<L w:=by
 classical
 obtain⟨ρ,hρ⟩:∃ρ:Nat->Nat,ρ=fun u=>if aH n u=aH n v then v else aH n u:=⟨_,rfl⟩
 have h1:∀u,u<n.ends.length->ρ u<n.ends.length/\jU n (ρ u) u:=by
  intro u hu;rw[hρ];simp only
  split
  ·rename_i e
   have a1:=(dB hn hv).1;have a2:=(dB hn hu).1;rw[e]at a2;exact⟨hv,a1.trans (jU.symm hn hu a2)⟩
  ·exact⟨(dB hn hu).2.1,jU.symm hn hu (dB hn hu).1⟩
 have h2:∀u i w k,Lk n u i w k->ρ u=ρ w:=by
  intro u i w k h
  have:=pf hn (h.lt hn).1 (jU.step .refl h.see)
  rw[hρ];simp only[this]
 have hL:=IT hn hf ρ h1 h2;refine⟨_,hL,fun i w k h=>?_⟩
 have h3:=hL.step _ _ _ _ h
 have h4:ρ v=v:=by rw[hρ];simp
 have h5:(cJ n v).getD v 0=0:=(vr hn hv).zero;simp only[h4,h5]at h3 ⊢
 omega
structure BJ (p:aq) (n:ao) (L:Nat->Nat) (G:Nat->Nat->Int->Prop) (Q:Nat->List Int->Prop) (u:Nat) (row:List Int):Prop where
 len:row.length=(n.ends.getD u []).length
 rng:∀x∈row,0<=x/\x<=p.labels-1
 cfg:l_ p row=true
 q:Q u row
 dn:∀k w m,Lk n u k w m->L u<L w->∃b,edgeB p (row.getD k 0) b=true/\G w m b
theorem Eh (L:Nat->Nat):∀N,∃B,∀u,u<N->L u<B
 | 0=>⟨0,fun _ h=>zO⟩
 | N+1=>by
  obtain⟨B,hB⟩:=Eh L N;refine⟨B+L N+1,fun u hu=>?_⟩
  rcases Zbi u N with h | h
  ·have:=hB u h;omega
  ·rw[show u=N by omega];omega
section
variable {p : aq} {n : ao} {L : Nat → Nat} {G : Nat → Nat → Int → Prop} {Q : Nat → List Int → Prop} (hn : ar n = true) (hL : Lev n L) (R0 : Nat → List Int)
 (nP:∀u,u<n.ends.length->(∀j w k,Lk n u j w k->L u<L w)->BJ p n L G Q u (R0 u))
 (cH:∀u j w k b,Lk n u j w k->L w<L u->G u j b->∃row,BJ p n L G Q u row/\row.getD j 0=b)
include hn hL nP cH
theorem Xk:∀d,∃s:Nat->List Int,∀u,u<n.ends.length->L u<d->BJ p n L G Q u (s u)/\((∀j w k,Lk n u j w k->L u<L w)->s u=R0 u)/\(∀j w k,Lk n u j w k->L w<L u->edgeB p ((s w).getD k 0) ((s u).getD j 0)=true):=by
 classical
 intro d
 induction d with
 | zero=>exact⟨fun _=>[],fun u _ h=>zO⟩
 | succ d ih=>
  obtain⟨s,hs⟩:=ih
  have lw:∀u,∃row,u<n.ends.length->L u=d->BJ p n L G Q u row/\((∀j w k,Lk n u j w k->L u<L w)->row=R0 u)/\(∀j w k,Lk n u j w k->L w<L u->edgeB p ((s w).getD k 0) (row.getD j 0)=true):=by
   intro u
   by_cases hr:∀j w k,Lk n u j w k->L u<L w
   ·refine⟨R0 u,fun hu _=>⟨nP u hu hr,fun _=>rfl,fun j w k h hl=>?_⟩⟩
    have:=hr j w k h
    omega
   ·by_cases hu:u<n.ends.length/\L u=d
    ·simp only[Classical.not_forall]at hr;obtain⟨j,w,k,h,hl⟩:=hr
     have hlw:L w<L u:=zX (hL.step _ _ _ _ h)
     have hw:=(hs w (h.lt hn).2.1 zO).1;obtain⟨b,hb,hg⟩:=hw.dn k u j (h.symm hn) hlw;obtain⟨row,aG,hj⟩:=cH u j w k b h hlw hg;refine⟨row,fun _ _=>⟨aG,fun pP=>absurd (pP j w k h) hl,fun j' w' k' h' hl'=>?_⟩⟩
     have ej:=hL.one _ _ _ _ _ _ _ h h' hlw hl';subst ej;obtain⟨rfl,rfl⟩:=h.fn h'
     rw[hj];exact hb
    ·exact⟨[],fun a b=>absurd ⟨a,b⟩ hu⟩
  refine⟨fun u=>if L u=d then Classical.choose (lw u) else s u,fun u hu hd=>?_⟩
  by_cases e:L u=d
  ·have h1:=Classical.choose_spec (lw u) hu e;simp only[if_pos e];refine⟨h1.1,h1.2.1,fun j w k h hl=>?_⟩
   rw[if_neg zO];exact h1.2.2 j w k h hl
  ·have h1:=hs u hu zO;simp only[if_neg e];refine⟨h1.1,h1.2.1,fun j w k h hl=>?_⟩
   rw[if_neg zO];exact h1.2.2 j w k h hl
theorem IU:∃s,lR p n s/\(∀u,u<n.ends.length->Q u (s.getD u []))/\∀u,u<n.ends.length->(∀j w k,Lk n u j w k->L u<L w)->s.getD u []=R0 u:=by
 obtain⟨B,hB⟩:=Eh L n.ends.length;obtain⟨s,hs⟩:=Xk (p:=p) (Q:=Q) hn hL R0 nP cH B;have KC:=fun u hu=>hs u hu (hB u hu)
 have oH:∀u,u<n.ends.length->((List.range n.ends.length).map s).getD u []=s u:=fun u hu=>by
  rw[zDd,Zbr,Zcj hu];rfl
 have LK:dv n ((List.range n.ends.length).map s):=by
  refine⟨zS,fun v=>?_⟩
  by_cases hv:v<n.ends.length
  ·rw[oH v hv];exact(KC v hv).1.len
  ·rw[zDd,zDd,Zce (by simpa using hv),Zce zO];rfl
 have dU:∀v i,v<n.ends.length->ak ((List.range n.ends.length).map s) v i=(s v).getD i 0:=fun v i hv=>by unfold ak;rw[oH v hv]
 have sT:∀v i,ax ((List.range n.ends.length).map s) v i->v<n.ends.length/\i<(n.ends.getD v []).length/\(s v).getD i 0∈s v:=fun v i hi=>by
  have hv:v<n.ends.length:=by have:=hi.lt;simpa using this
  unfold ax at hi;rw[oH v hv]at hi
  refine⟨hv,by rw[<- (KC v hv).1.len];exact hi,?_⟩
  exact gJ hi
 refine⟨_,⟨LK,fun v i hi=>?_,?_⟩,fun u hu=>by rw[oH u hu];exact(KC u hu).1.q,fun u hu hr=>by rw[oH u hu];exact(KC u hu).2.1 hr⟩
 ·obtain⟨hv,h1,h2⟩:=sT v i hi;rw[dU v i hv];exact(KC v hv).1.rng _ h2
 ·rw[eO];intro v hv;have hv:v<n.ends.length:=by simpa using hv
  refine⟨?_,fun i hi=>?_⟩
  ·rw[oH v hv];unfold fJ;have hc:=(KC v hv).1.cfg;have hnn:∀x∈s v,0<=x:=fun x hx=>((KC v hv).1.rng x hx).1
   by_cases hp:bV p=true
   ·have:=kG hp hnn
    unfold fJ at this
    rw[this];exact hc
   ·unfold l_ at hc;have hk:il (s v)=s v:=List.filter_eq_self.2 fun a ha=>by simpa using hnn a ha
    rw[Zbp]at hc ⊢;rcases hc with hc | hc
    ·exact .inl hc
    ·refine .inr (Zcg.2 ⟨_,Zbv.1 hc,?_⟩);rw[hk];exact(pS (fa _) (fa _)).2 fun _=>Zaj _
  ·obtain⟨-,h1,-⟩:=sT v i hi;have hl:=Lk.of hn h1;have hm:=(hl.lt hn).2.1;unfold tK;rw[dU v i hv,dU _ _ hm]
   have:edgeB p ((s v).getD i 0) ((s (cF n v i).1).getD (cF n v i).2 0)=true:=by
    rcases hL.step _ _ _ _ hl with h | h
    ·exact(KC _ hm).2.2 _ _ _ (hl.symm hn) zO
    ·rw[tJ];exact(KC v hv).2.2 _ _ _ hl zO
   rw[this];simp
end
structure AC (p:aq) (n:ao) (M:List (List Int)):Prop where
 ahE:∀v i w k a:Nat,a<p.labels.toNat->Lk n v i w k->aO (ak M v i) a=true->∃b:Nat,b<p.labels.toNat/\edgeB p (a:Int) (b:Int)=true/\aO (ak M w k) b=true
 row:∀v i a:Nat,a<p.labels.toNat->v<n.ends.length->i<(n.ends.getD v []).length->aO (ak M v i) a=true->∃row:List Int,row.length=(n.ends.getD v []).length/\l_ p row=true/\row.getD i 0=(a:Int)/\∀k,k<(n.ends.getD v []).length->∃b:Nat,b<p.labels.toNat/\row.getD k 0=(b:Int)/\aO (ak M v k) b=true
 some:∀v i:Nat,v<n.ends.length->i<(n.ends.getD v []).length->∃a:Nat,a<p.labels.toNat/\aO (ak M v i) a=true
theorem io.stub {n:ao} (hc:io n) {v i k:Nat} (h:Lk n v i v k):False:=by
 have:=hc v i _ h
 simp only[Zag]at this;exact this .refl
theorem BK {p:aq} {kq:List Int} {i:Nat} {a:Int} {L:Nat}:∀(r:Nat) (xs:List Int),iZ p kq i a L r xs=true->∃row:List Int,row.length=xs.length+r/\row.take xs.length=xs/\p.nodes.contains (dz row)=true/\∀k,xs.length<=k->k<row.length->(k=i->row.getD k 0=a)/\(k≠i->∃b:Nat,b<L/\row.getD k 0=(b:Int)/\aO (kq.getD k 0) b=true)
 | 0,xs,h=>⟨xs,rfl,Zbz (Zaj _),by rw[iZ]at h;exact h,fun k h1 h2=>zO⟩
 | r+1,xs,h=>by
  rw[iZ]at h
  have lw:∀(x:Int) (row:List Int),row.length=(xs++[x]).length+r->row.take (xs++[x]).length=xs++[x]->row.take xs.length=xs/\row.getD xs.length 0=x:=fun x row h1 h2=>by
   have h3:(row.take (xs++[x]).length).take xs.length=xs:=by rw[h2,List.take_left'];rfl
   rw[List.take_take,Nat.min_eq_left zS]at h3;refine⟨h3,?_⟩
   have h4:(row.take (xs++[x]).length)[xs.length]?=some x:=by rw[h2];simp
   rw[List.getElem?_take,if_pos zS]at h4;exact ag h4
  by_cases hk:xs.length=i
  ·rw[if_pos hk]at h;obtain⟨row,h1,h2,h3,h4⟩:=BK r _ h;obtain⟨k1,k2⟩:=lw a row h1 h2
   refine⟨row,by rw[h1];simp;omega,k1,h3,fun k lW sV=>?_⟩
   rcases Zbi xs.length k with h5 | h5
   ·exact h4 k (by simp;omega) sV
   ·obtain rfl:k=xs.length:=zO
    exact⟨fun _=>k2,fun e=>absurd hk e⟩
  ·rw[if_neg hk,Zcg]at h;obtain⟨b,hb,h⟩:=h;rw[Zai]at h;obtain⟨row,h1,h2,h3,h4⟩:=BK r _ h.2;obtain⟨k1,k2⟩:=lw _ row h1 h2
   refine⟨row,by rw[h1];simp;omega,k1,h3,fun k lW sV=>?_⟩
   rcases Zbi xs.length k with h5 | h5
   ·exact h4 k (by simp;omega) sV
   ·obtain rfl:k=xs.length:=zO
    exact⟨fun e=>absurd e hk,fun _=>⟨b,Zab.1 hb,k2,h.1⟩⟩
theorem Fw {p:aq} {n:ao} {M:List (List Int)} (hs:∀v i:Nat,v<n.ends.length->i<(n.ends.getD v []).length->∃a:Nat,a<p.labels.toNat/\aO (ak M v i) a=true) {v i a:Nat} (ha:a<p.labels.toNat) (hv:v<n.ends.length) (hb:aO (ak M v i) a=true):∀m,m<=(n.ends.getD v []).length->∃row:List Int,row.length=m/\(i<m->row.getD i 0=(a:Int))/\∀k,k<m->∃b:Nat,b<p.labels.toNat/\row.getD k 0=(b:Int)/\aO (ak M v k) b=true
 | 0,_=>⟨[],rfl,fun h=>zO,fun k h=>zO⟩
 | m+1,hm=>by
  obtain⟨row,h1,h2,h3⟩:=Fw hs ha hv hb m zO
  have lw:∀b:Nat,b<p.labels.toNat->aO (ak M v m) b=true->(m=i->b=a)->∃row:List Int,row.length=m+1/\(i<m+1->row.getD i 0=(a:Int))/\∀k,k<m+1->∃b:Nat,b<p.labels.toNat/\row.getD k 0=(b:Int)/\aO (ak M v k) b=true:=fun b aP aS er=>by
   have YZ:(row++[(b:Int)]).getD m 0=(b:Int):=by rw[<- h1];exact DO
   refine⟨row++[(b:Int)],by simp[h1],fun hi=>?_,fun k hk=>?_⟩
   ·rcases Zbi i m with h | h
    ·rw[mH zO];exact h2 h
    ·obtain rfl:m=i:=zO
     rw[YZ,er rfl]
   ·rcases Zbi k m with h | h
    ·rw[mH zO];exact h3 k h
    ·obtain rfl:k=m:=zO
     exact⟨b,aP,YZ,aS⟩
  by_cases e:m=i
  ·subst e;exact lw a ha hb fun _=>rfl
  ·obtain⟨b,aP,aS⟩:=hs v m hv zO;exact lw b aP aS fun e2=>absurd e2 e
theorem aaV {p:aq} {n:ao} {M:List (List Int)} (hn:ar n=true) (hc:io n) (hS:dv n M) (hs:∀v i:Nat,v<n.ends.length->i<(n.ends.getD v []).length->∃a:Nat,a<p.labels.toNat/\aO (ak M v i) a=true) (hf:∀v i c:Nat,c<p.labels.toNat->ax M v i->aO (ak M v i) c=true->ta p n M v i (c:Int)=true) (hd:0<=p.degree):AC p n M:=by
 have cH:∀ {v i:Nat},i<(n.ends.getD v []).length->ax M v i:=fun h=>by unfold ax;rw[hS.2];exact h
 refine⟨fun v i w k a ha hl hb=>?_,fun v i a ha hv hi hb=>?_,hs⟩
 ·obtain⟨l1,l2,l3,l4⟩:=hl.lt hn;have h1:=hf v i a ha (cH l3) hb;unfold ta at h1;rw[Zai]at h1;have h2:=h1.1;unfold s_ at h2;have hm:=(Lk.of hn l3).fn hl
  split at h2
  ·rename_i e
   exfalso
   unfold Lk bA at hl
   have e2:=ag (d:=(0,0)) hl;rw[e2]at e;simp only[Prod.mk.injEq]at e
   have:w=v:=zO
   subst this;exact hc.stub (i:=i) (k:=k) (v:=w) hl
  ·rw[Zcg]at h2;obtain⟨b,aP,aS⟩:=h2;rw[Zai,hm.1,hm.2]at aS;exact⟨b,Zab.1 aP,aS.2,aS.1⟩
 ·have h1:=hf v i a ha (cH hi) hb;unfold ta at h1;rw[Zai,Zbp]at h1
  by_cases e:((n.ends.getD v []).length:Int)=p.degree
  ·have h2:=h1.2.resolve_left (by simpa using e);unfold supN at h2;obtain⟨row,r1,-,r3,r4⟩:=BK _ _ h2
   have nd:row.length=(n.ends.getD v []).length:=by simp only[List.length_nil]at r1;omega
   refine⟨row,nd,by unfold l_;rw[r3];simp,(r4 i (Zac _) zO).1 rfl,fun k hk=>?_⟩
   by_cases ek:k=i
   ·subst ek;exact⟨a,ha,(r4 k (Zac _) zO).1 rfl,hb⟩
   ·obtain⟨b,b1,b2,b3⟩:=(r4 k (Zac _) zO).2 ek;exact⟨b,b1,b2,b3⟩
  ·obtain⟨row,r1,r2,r3⟩:=Fw hs ha hv hb _ (Zaj _);refine⟨row,r1,?_,r2 hi,r3⟩;unfold l_
   rw[beq_eq_false_iff_ne.2 (by rw[r1];exact e)]
   rfl
theorem TU {p:aq} {n:ao} {M:List (List Int)} {L:Nat->Nat} (hM:AC p n M) {u:Nat} {row:List Int} (h1:row.length=(n.ends.getD u []).length) (h2:l_ p row=true) (h3:∀k,k<(n.ends.getD u []).length->∃b:Nat,b<p.labels.toNat/\row.getD k 0=(b:Int)/\aO (ak M u k) b=true) (hn:ar n=true):
  BJ p n L (fun u j b=>∃c:Nat,b=(c:Int)/\c<p.labels.toNat/\aO (ak M u j) c=true) (fun u row=>∀k,k<(n.ends.getD u []).length->∃b:Nat,b<p.labels.toNat/\row.getD k 0=(b:Int)/\aO (ak M u k) b=true) u row where
 len:=h1
 rng:=fun x hx=>by
  obtain⟨k,hk⟩:=List.getElem?_of_mem hx
  obtain⟨b,b1,b2,-⟩:=h3 k (by rw[<- h1];exact ah hk)
  rw[ag hk]at b2;omega
 cfg:=h2
 q:=h3
 dn:=fun k w m hl _=>by
  obtain⟨b,b1,b2,b3⟩:=h3 k (hl.lt hn).2.2.1;obtain⟨c,c1,c2,c3⟩:=hM.ahE u k w m b b1 hl b3
  exact⟨(c:Int),by rw[b2];exact c2,c,rfl,c1,c3⟩
theorem uc {p:aq} {n:ao} {M:List (List Int)} (cC:bV p=true) (hn:ar n=true) (hc:io n) (hS:dv n M) (hM:AC p n M) {v i a:Nat} (hi:ax M v i) (ha:a<p.labels.toNat) (hb:aO (ak M v i) a=true):∃s,lR p n s/\Sub s M/\ak s v i=(a:Int):=by
 have hv:v<n.ends.length:=by rw[<- hS.1];exact hi.lt
 have jS:i<(n.ends.getD v []).length:=by unfold ax at hi;rw[hS.2]at hi;exact hi
 obtain⟨L,hL,nP⟩:=aaU hn hc hv;obtain⟨rv,v1,v2,v3,v4⟩:=hM.row v i a ha hv jS hb
 have jQ:∀u,u<n.ends.length->∃row:List Int,row.length=(n.ends.getD u []).length/\l_ p row=true/\(∀k,k<(n.ends.getD u []).length->∃b:Nat,b<p.labels.toNat/\row.getD k 0=(b:Int)/\aO (ak M u k) b=true)/\(u=v->row=rv):=by
  intro u hu
  by_cases e:u=v
  ·subst e;exact⟨rv,v1,v2,v4,fun _=>rfl⟩
  ·by_cases h0:0<(n.ends.getD u []).length
   ·obtain⟨c,c1,c2⟩:=hM.some u 0 hu h0;obtain⟨row,r1,r2,-,r4⟩:=hM.row u 0 c c1 hu h0 c2;exact⟨row,r1,r2,r4,fun e2=>absurd e2 e⟩
   ·refine⟨[],by rw[List.length_nil];omega,?_,fun k hk=>zO,fun e2=>absurd e2 e⟩
    unfold l_;have vP:=cC;unfold bV at vP;simp only[Zai,aB]at vP
    rw[beq_eq_false_iff_ne.2 (by simp only[List.length_nil];omega)]
    rfl
 classical
 obtain⟨s,s1,s2,s3⟩:=IU (p:=p) (L:=L) (G:=fun u j b=>∃c:Nat,b=(c:Int)/\c<p.labels.toNat/\aO (ak M u j) c=true) (Q:=fun u row=>∀k,k<(n.ends.getD u []).length->∃b:Nat,b<p.labels.toNat/\row.getD k 0=(b:Int)/\aO (ak M u k) b=true) hn hL
  (fun u=>if hu:u<n.ends.length then Classical.choose (jQ u hu) else [])
  (fun u hu _=>by
   have h1:=Classical.choose_spec (jQ u hu);simp only[dif_pos hu]
   exact TU hM h1.1 h1.2.1 h1.2.2.1 hn)
  (fun u j w k b hl _ hg=>by
   obtain⟨c,rfl,c1,c2⟩:=hg;obtain⟨l1,l2,l3,l4⟩:=hl.lt hn;obtain⟨row,r1,r2,r3,r4⟩:=hM.row u j c c1 l1 l3 c2
   exact⟨row,TU hM r1 r2 r4 hn,r3⟩)
 refine⟨s,s1,fun u j hj=>?_,?_⟩
 ·have hu:u<n.ends.length:=by rw[<- s1.shp.1];exact hj.lt
  unfold ax at hj;rw[s1.shp.2]at hj;obtain⟨b,b1,b2,b3⟩:=s2 u hu j hj
  have:ak s u j=(b:Int):=b2
  rw[this,Zag];exact b3
 ·have h1:s.getD v []=Classical.choose (jQ v hv):=(s3 v hv (fun j w k h=>nP j w k h)).trans (dif_pos hv)
  have h2:=Classical.choose_spec (jQ v hv);unfold ak;rw[h1,h2.2.2.2 rfl];exact v3
def tx (p:aq) (x:Int) (a lb:Nat):Bool:=(List.range lb).any fun b=>aO x b&&edgeB p (a:Int) (b:Int)
def rR (p:aq) (n:ao) (M:List (List Int)) (v i a:Nat):Bool:=
 tx p (ak M (cF n v i).1 (cF n v i).2) a p.labels.toNat&&(!decide (((n.ends.getD v []).length:Int)=p.degree)||chooseB p ((M.getD v []).set i ((2^a:Nat):Int)))
theorem Pf (pa pb va vb vc vm:Value) (p:aq) (n:ao) (M:List (List Int)) (v i a k j:Nat) (w:World) (hp:el w pa pb p) (h:aR w va vb vc n) (hm:bS w vm M) (cC:bV p=true) (hn:ar n=true) (hM:uA n M) (hl:Lk n v i k j) (jh:k≠v) (ha:a<8) (gM:p.agW.length<=1048576):
  Calls Tryz.prog 154 #[.agg #[.int .i64 p.labels,.int .i64 p.degree,pa,pb],.agg #[va,vb,vc],vm,.int .i64 v,.int .i64 i,.int .i64 a] w fun e w'=>e=.returned (.bool (rR p n M v i a))/\Below w.heap.size w w':=by
 obtain⟨eV,hst⟩:=aE cC;obtain⟨l1,l2,l3,l4⟩:=hl.lt hn;obtain⟨es,aU⟩:=au n.ends v l1;rw[ag aU]at l3
 have hf:es[i]?=some ((k:Int),(j:Int)):=by have h1:=hl;unfold Lk bA at h1;rw[ag aU]at h1;exact h1
 obtain⟨NQ,qE⟩:=au n.ends k l2;rw[ag qE]at l4;obtain⟨yo,x,iY,CK,hx,ti,pc⟩:=hM.at qE l4;obtain⟨Dh,y1,IV,qs,VH,hcy,qv⟩:=hM.at aU l3
 have TV:=(Lk.of hn (by rw[ag aU];exact l3)).fn hl
 have agI:=(fO hn aU).1;obtain⟨lb,eK⟩:∃z:Nat,p.labels=(z:Int):=⟨p.labels.toNat,zO⟩
 have pY:1<=lb/\lb<=8:=zO
 have HR:Hid (rR p n M v i a=(tx p x a lb&&(!decide ((es.length:Int)=p.degree)||chooseB p (Dh.set i ((2^a:Nat):Int))))):=by
  show _=_
  unfold rR;rw[TV.1,TV.2,ti,ag aU,ag IV,eK];rfl
 have lP:=cC;unfold bV at lP;simp only[Zai,aB]at lP;obtain⟨dg,ac9⟩:∃z:Nat,p.degree=(z:Int):=⟨p.degree.toNat,zO⟩
 obtain⟨uz,NY⟩:=A_ ac9 qs;clear qs;obtain⟨jB,nr⟩:=A_ cC hst;obtain⟨Y,hY⟩:=K_ (((2^a:Nat):Int):Int)
 have HY:=zh hY
 have LD:IntKind.i64.wrap ((2:Int)^a)=Y:=by rw[<- hY];exact(pZ ⟨a,ha⟩).1
 have IP:Hid (0<=Y/\Y<256):=by show _/\_;rw[<- hY];have h9:=(pZ ⟨a,ha⟩).2.1;simp only at h9;exact⟨Int.natCast_nonneg _,zO⟩
 have HM:=zh hm
 have ae9:Hid (∀y∈Dh,0<=y/\y<256):=fun y hy=>by
  obtain⟨q,hq⟩:=List.getElem?_of_mem hy;exact hM.rng v Dh q y IV hq
 have IS:=zh IV;obtain⟨AM,cM,rfl,-,-,-⟩:=id hm
 obtain⟨w0,A,c,A2,c2,A3,c3,P0,iG,P1,it,rfl,rfl,rfl,fR,hm,gC,jz,HA,H,rfl,rfl,jj,jk,jl,jm,jn,jo,HP,cD,aY,fp,fE,fM,ku,nY,oW,oX⟩:=Ah hp h;clear hp h
 obtain⟨gO,Cn⟩:=A_ (Ai HP.out) (GQ (HM.out.agU aY.out));obtain⟨b1,o1,b2,o2,z1,rfl,c1,yG,FX⟩:=wG H.es aU hf;obtain⟨b5,o5,b6,o6,z3,rfl,c6,c7⟩:=kB (Cn w0 (aa _)) iY hx;obtain⟨_,_,e8,-,-,sL⟩:=Cn w0 (aa _);cases e8;obtain⟨b8,o8,u8,e9,c8,s9⟩:=sL v Dh IV;cases e9;obtain⟨AR,cR,rfl,-,-,-⟩:=id s9;have MT:=zh (zpI s9);have s8:=ae c8;have s1:=ae c1;have s2:=ae yG;have s3:=ae FX;have s6:=ae c6;have s7:=ae c7;have hvM:v<M.length:=ah IV;have hkM:k<M.length:=ah iY;have FR:j<yo.length:=ah hx
 have he:wg ((k:Int),(j:Int)) ((v:Int),(i:Int))=false:=by unfold wg;simp;omega
 have aK:ab w0 w0:=aa _;have ka:=zh eK
 have yt:∀W,ab w0 W->W.cell? ⟨w.heap.size,0,none⟩=some (.int .i64 (lb:Int)):=fun W hW=>by rw[<- eK];exact fp W hW
 have s8':=s8;clear sL s9 c8 lP ac9 hY c1 yG FX c6 c7 hst ti hx iY CK hf qE l4 hM hn cC hm hcy TV eK VH qv
 go_enter Tryz.func154,Tryz.ntmps154
 go_upto_region 1 with(fail);rw[<- cD.out];go_upto_region 2 with(fail);obtain⟨bx,dK⟩:=J_ w0.heap.size
 obtain⟨W1,sl⟩:=J_ (w0.alloc (.cells #[.int .i64 k,.int .i64 j] 104))
 have dw:ab w0 W1:=by rw[sl];exact ad _ aK
 have g1:∀W,ab W1 W->W.cell? ⟨bx,0,none⟩=some (.int .i64 k):=ae (by rw[dK,sl];simp)
 have g2:∀W,ab W1 W->W.cell? ⟨bx,1,none⟩=some (.int .i64 j):=ae (by rw[dK,sl];simp)
 rw[<- sl,<- dK];have di:=zh dw;have r0:=al yt dw;have r1:=al fE dw;have r2:=al fM dw;have r3:=al ku dw;have r4:=al nY dw;have t1:=al s1 dw;have t6:=al s6 dw;have t8:=al s8 dw;have t7:=al s7 dw;clear aK sl dK dw s8 s1 s2 s3 s6 s7 yt fp fE fM ku nY oW oX;have Pc:ab W1 W1:=aa _;go_upto_region 4 with(fail)
 go_loopw [14,15] (fun u i wr=>∃b:Nat,b<=lb/\i=.int .i64 b/\u=.bool (tx p x a b)/\ab W1 wr) (fun _ i _=>lb-(intOf i).toNat)
 case atStart=>exact⟨0,Zac _,rfl,rfl,Pc⟩
 case round=>
  obtain⟨b,hb,rfl,rfl,eD⟩:=hrel;have qu:=zh eD;clear Pc;have u0:=al r0 eD;have u1:=al r1 eD;have u2:=al r2 eD;have u3:=al r3 eD;have u4:=al r4 eD;have v1:=al t1 eD;have v6:=al t6 eD;have v7:=al t7 eD;have v8:=al g1 eD;have v9:=al g2 eD;obtain⟨wo,rfl⟩:=J_ wr
  have z6:ab wo wo:=aa _
  by_cases aA:b<lb
  ·have m1:=zw b;obtain⟨ed,hed⟩:=J_ (tx p x a b)
   have kj:tx p x a (b+1)=(ed||(aO x b&&edgeB p a (b:Int))):=by
    unfold tx;rw[Zaa,List.any_append,hed];unfold tx;simp
   rw[<- hed];have ym:=zh kj;have u0a:=u0 wo z6;have v8a:=v8 wo z6;have v9a:=v9 wo z6;clear kj hed eD;go_upto_region 7 with(fail);refine ap 23 (ab wo) zK zK zS (aj (aa _)) ?_;simp only[zT]
   iterate 2 (refine ch rfl ?_;simp only[zA])
   iterate 2 (refine iT rfl rfl ?_;simp only[zA])
   iterate 10 (apply iI rfl rfl;(intro hb aS;intro W hW;go_simp;with_reducible rfl);simp only[zA])
   apply oI rfl rfl;(intro hb aS;intro W hW;unfold a_;go_simp;with_reducible exact zQ (mT x b W pc zO));simp only[zA]
   refine oJ rfl rfl rfl ?_;simp only[zA]
   refine iT rfl rfl ?_;simp only[zA]
   iterate 3 (apply iI rfl rfl;(intro hb aS;intro W hW;go_simp;with_reducible rfl);simp only[zA])
   apply oI rfl rfl;(intro hb aS;intro W hW;unfold a_;go_simp;with_reducible exact zQ ((show Calls Tryz.prog 142 #[.agg #[.int .i64 (lb:Int),.int .i64 p.degree,.slice P0 p.nodes.length iG,.slice P1 p.agW.length it],.int .i64 a,.int .i64 b] W fun e w'=>e=.returned (.bool (edgeB p a b))/\Below W.heap.size W w' from by have h9:=Af _ _ p a b W (gO.out W ((di.out.after qu.out).after hW)) nr.out gM;rw[ka.out]at h9;exact h9)));simp only[zA]
   refine oJ rfl rfl rfl ?_;simp only[zA]
   (first | refine db rfl rfl ?_ | (refine ch rfl ?_));simp only[zA]
   intro W hW;have Hf:Hid (ab W1 W):=qu.after hW;clear hW u0 u1 u2 u3 u4 v1 v6 v7 v8 v9 u0a v8a v9a;go_wp2;go_roundw
   exact⟨b+1,zO,zN,by rw[ym.out],Hf⟩
   simp[intOf];omega
  ·obtain rfl:b=lb:=zO
   obtain⟨ed,hed⟩:=K_ (tx p x a b)
   rw[hed]at HR ⊢;have u0a:=u0 wo z6;have u1a:=u1 wo z6;rw[uz.out]at u1 u1a;clear hed eD
   by_cases ri:es.length=dg
   ·have HRe:Hid (rR p n M v i a=(ed&&chooseB p (Dh.set i Y))):=by
     show _=_
     rw[HR.out,HY.out,uz.out,decide_eq_true (show(es.length:Int)=(dg:Int)by omega)]
     rfl
    have hde:((es.length:Int) != (dg:Int))=false:=by simp[ri]
    clear ri;go_upto_region 8 with(fail);refine ap 13 (ab wo) zK zK zS (aj (aa _)) ?_;simp only[zT]
    iterate 3 (refine ch rfl ?_;simp only[zA])
    iterate 9 (refine iT rfl rfl ?_;simp only[zA])
    (first | refine db rfl rfl ?_ | (refine ch rfl ?_));simp only[zA]
    intro W hW;obtain⟨HW,VP⟩:=A_ (di.out.after (qu.out.after hW)) (qu.out.after hW);clear hW u0 u1 u2 u3 u4 v1 v6 v7 v8 v9 u0a u1a;have dH:Hid (Below w.heap.size w W):=ab.after aY HW;cases ed
    ·go_wp2;go_ret
     exact⟨bG (by rw[HRe.out];rfl),dH⟩
    ·have w8:=s8' W HW
     have nd:Dh.length<=17592186044416:=by rw[NY.out];omega
     have hi:i<Dh.length:=by rw[NY.out];exact l3
     go_wp2_with fail;refine(iU _ Dh W (MT W HW) nd).mono ?_;rintro e w2 ⟨u,rfl,ho,aS⟩;have fH:ab W w2:=aS;rcases ho.cases with⟨rfl,h0⟩ | ⟨g,cg,rfl,tC,ut⟩
     ·exfalso
      rw[h0]at hi;simp at hi
     have ae_:=ho.cell (Zbu hi);have hfz:=gX ho i;have m64:min a 64=a:=zO
     obtain⟨Cm,n_⟩:=A_ (ab.after dH.out fH) (Own.set (k:=i) Y ho)
     have Hrs:Hid (∀y∈Dh.set i Y,0<=y/\y<256):=fun y hy=>by
      rcases List.mem_or_eq_of_mem_set hy with h1 | h1
      ·exact ae9 y h1
      ·rw[h1];exact IP
     clear ho aS w8;go_upto_region 12 with(fail);obtain⟨w3,ib⟩:=J_ (w2.setCell ⟨g,i,none⟩ (.int .i64 Y))
     rw[<- ib]at n_ ⊢
     have tV:ab W1 w3:=by
      rw[ib];exact(VP.out.after fH).setCell (p:=⟨g,i,none⟩) (Zak VP.out.below.size tC) _
     have ac_:=zh (di.out.after tV);have x0:=r0 w3 tV;have x1:=r1 w3 tV;have x2:=r2 w3 tV;have x3:=r3 w3 tV
     have hc:=Fu _ _ _ p (Dh.set i Y) w3 (gO w3 ac_) n_.ints jB (by rw[Zau,NY.out];omega) Hrs.out
     rw[ka.out]at hc;have Hc:=zh hc;clear hc ib ae_ hfz LD m64 tV fH tC ut hi nd;go_wp2_with fail;refine Hc.mono ?_;rintro e w4 ⟨rfl,pu⟩;have Hf4:Hid (Below w.heap.size w w4):=ab.after aY (ac_.after (show ab w3 w4 from pu));clear pu x0 x1 x2 x3;go_wp2;go_ret
     exact⟨bG (by rw[HRe.out];rfl),Hf4⟩
   ·have HRe:Hid (rR p n M v i a=ed):=by
     show _=_
     rw[HR.out,HY.out,uz.out,decide_eq_false (show ¬(es.length:Int)=(dg:Int)by omega)]
     simp
    have hde:((es.length:Int) != (dg:Int))=true:=by simp;omega
    clear ri;go_upto_region 8 with(fail);refine ap 13 (ab wo) zK zK zS (aj (aa _)) ?_;simp only[zT]
    iterate 3 (refine ch rfl ?_;simp only[zA])
    iterate 9 (refine iT rfl rfl ?_;simp only[zA])
    (first | refine db rfl rfl ?_ | (refine ch rfl ?_));simp only[zA]
    intro W hW;obtain⟨HW,VP⟩:=A_ (di.out.after (qu.out.after hW)) (qu.out.after hW);clear hW u0 u1 u2 u3 u4 v1 v6 v7 v8 v9 u0a u1a;have dH:Hid (Below w.heap.size w W):=ab.after aY HW;rw[Bool.or_true];go_wp2;go_ret;exact⟨bG HRe.symm,dH⟩
def bt (L:Nat) (f:Nat->Nat):Nat:=match L with
 | 0=>0
 | L+1=>bt L f+f L
theorem fh {L:Nat} {f g:Nat->Nat} (h:∀a,a<L->f a=g a):bt L f=bt L g:=by
 induction L with
 | zero=>rfl
 | succ L ih=>unfold bt;rw[ih fun a ha=>h a zO,h L zO]
theorem xd {L:Nat} {f:Nat->Nat}:0<bt L f↔∃a,a<L/\0<f a:=by
 induction L with
 | zero=>simp[bt]
 | succ L ih=>
  unfold bt;constructor
  ·intro h;rcases Zbk (f L)with h0 | h0
   ·obtain⟨a,h1,h2⟩:=ih.1 zO;exact⟨a,zO,h2⟩
   ·exact⟨L,zO,h0⟩
  ·rintro⟨a,h1,h2⟩;rcases Zbi a L with h | h
   ·have:=ih.2 ⟨a,h,h2⟩;omega
   ·rw[show a=L by omega]at h2;omega
theorem mW {L:Nat} {f:Nat->Nat} (h:∀a,a<L->f a=0):bt L f=0:=by
 induction L with
 | zero=>rfl
 | succ L ih=>unfold bt;rw[ih fun a ha=>h a zO,h L zO]
theorem Ei (L:Nat) (c:Nat) (f:Nat->Nat):bt L (fun a=>c*f a)=c*bt L f:=by
 induction L with
 | zero=>rfl
 | succ L ih=>unfold bt;rw[ih,Nat.mul_add]
theorem LM (L:Nat) (c:Nat) (f:Nat->Nat):bt L (fun a=>f a*c)=bt L f*c:=by
 induction L with
 | zero=>simp[bt]
 | succ L ih=>unfold bt;rw[ih,Nat.add_mul]
theorem Ej (L:Nat) (f g:Nat->Nat):bt L (fun a=>f a+g a)=bt L f+bt L g:=by
 induction L with
 | zero=>rfl
 | succ L ih=>unfold bt;rw[ih];omega
theorem Ek {L:Nat} {f:Nat->Nat} {b:Nat} (hb:b<L) (h:∀a,a<L->a≠b->f a=0):bt L f=f b:=by
 induction L with
 | zero=>omega
 | succ L ih=>
  unfold bt
  by_cases e:b=L
  ·subst e;rw[mW fun a ha=>h a zO zO,Zba]
  ·rw[ih zO fun a ha=>h a zO,h L zO zO,Nat.add_zero]
def je (wt:Nat->Nat->Nat) (L:Nat):Nat->Nat->(List Int->Nat)->Nat
 | 0,_,F=>F []
 | r+1,k,F=>bt L fun a=>wt k a*je wt L r (k+1) fun ys=>F ((a:Int)::ys)
theorem mX {wt wt':Nat->Nat->Nat} {L:Nat}:∀ {r k:Nat} {F F':List Int->Nat},(∀j a,k<=j->j<k+r->a<L->wt j a=wt' j a)->(∀ys,ys.length=r->(∀y∈ys,0<=y/\y<(L:Int))->F ys=F' ys)->je wt L r k F=je wt' L r k F'
 | 0,k,F,F',_,h2=>h2 [] rfl zS
 | r+1,k,F,F',h1,h2=>by
  unfold je;refine fh fun a ha=>?_
  rw[h1 k a (Zaj _) zO ha,mX (fun j b hj CE hb=>h1 j b zO zO hb) (fun ys hl hy=>h2 _ (by simp[hl]) fun y hm=>by
   rcases Zbe.1 hm with rfl | hm
   ·omega
   ·exact hy y hm)]
theorem xe {wt:Nat->Nat->Nat} {L:Nat}:∀ {r k:Nat} {F:List Int->Nat},(∀ys,F ys=0)->je wt L r k F=0
 | 0,k,F,h=>h []
 | r+1,k,F,h=>by
  unfold je;exact mW fun a _=>by rw[xe fun ys=>h _,Nat.mul_zero]
theorem IW {wt:Nat->Nat->Nat} {L:Nat}:∀ {r k:Nat} {F G:List Int->Nat},je wt L r k (fun ys=>F ys+G ys)=je wt L r k F+je wt L r k G
 | 0,k,F,G=>rfl
 | r+1,k,F,G=>by
  unfold je;rw[<- Ej];exact fh fun a _=>by rw[IW,Nat.mul_add]
theorem BL {wt:Nat->Nat->Nat} {L:Nat}:∀ {r k:Nat} {F:List Int->Nat},0<je wt L r k F↔∃ys:List Int,ys.length=r/\0<F ys/\∀j,j<r->∃b:Nat,b<L/\ys.getD j 0=(b:Int)/\0<wt (k+j) b
 | 0,k,F=>by
  unfold je;constructor
  ·intro h;exact⟨[],rfl,h,fun j hj=>zO⟩
  ·rintro⟨ys,h1,h2,-⟩;rw[List.length_eq_zero_iff.1 h1]at h2;exact h2
 | r+1,k,F=>by
  unfold je;rw[xd];constructor
  ·rintro⟨a,ha,h⟩
   have h1:0<je wt L r (k+1) fun ys=>F ((a:Int)::ys):=Nat.pos_of_ne_zero fun e=>by rw[e,Nat.mul_zero]at h;omega
   have h2:0<wt k a:=Nat.pos_of_ne_zero fun e=>by rw[e,Nat.zero_mul]at h;omega
   obtain⟨ys,y1,y2,y3⟩:=BL.1 h1;refine⟨(a:Int)::ys,by simp[y1],y2,fun j hj=>?_⟩
   cases j with
   | zero=>exact⟨a,ha,rfl,h2⟩
   | succ j=>
    obtain⟨b,b1,b2,b3⟩:=y3 j zO
    exact⟨b,b1,by simpa using b2,by rw[show k+(j+1)=k+1+j by omega];exact b3⟩
  ·rintro⟨ys,y1,y2,y3⟩
   match ys,y1 with
   | y::ys,y1=>
    obtain⟨a,a1,a2,a3⟩:=y3 0 zO;have e:y=(a:Int):=by simpa using a2
    subst e;refine⟨a,a1,Nat.mul_pos (by simpa using a3) (BL.2 ⟨ys,by simpa using y1,y2,fun j hj=>?_⟩)⟩
    obtain⟨b,b1,b2,b3⟩:=y3 (j+1) zO
    exact⟨b,b1,by simpa using b2,by rw[show k+1+j=k+(j+1)by omega];exact b3⟩
def jx (wt:Nat->Nat->Nat) (L:Nat):Nat->Nat->Nat
 | 0,_=>1
 | r+1,k=>bt L (wt k)*jx wt L r (k+1)
theorem El {wt:Nat->Nat->Nat} {L:Nat}:∀ {r k:Nat} {F:List Int->Nat},(∀ys,F ys=1)->je wt L r k F=jx wt L r k
 | 0,k,F,h=>h []
 | r+1,k,F,h=>by
  unfold je jx
  rw[<- LM];exact fh fun a _=>by rw[El fun ys=>h _]
theorem uh (wt:Nat->Nat->Nat) (L:Nat):∀(r k:Nat),jx wt L (r+1) k=jx wt L r k*bt L (wt (k+r))
 | 0,k=>by simp[jx]
 | r+1,k=>by
  rw[jx,uh wt L r (k+1),jx,Nat.mul_assoc,show k+1+r=k+(r+1)by omega]
def wtI (i a:Nat) (ws:Nat->Nat->Nat) (k x:Nat):Nat:=if k=i then (if x=a then 1 else 0) else ws k x
def vJ (p:aq) (ys:List Int):Nat:=if l_ p ys=true then 1 else 0
def mY (p:aq) (L deg:Nat) (wt:Nat->Nat->Nat):Nat:=je wt L deg 0 (vJ p)
def f_ (wt:Nat->Nat->Nat) (L:Nat):Nat->Nat->List Int->Nat
 | 0,_,_=>1
 | r+1,k,x=>bt L fun a=>if (a:Int)∈x then wt k a*f_ wt L r (k+1) (x.erase (a:Int)) else 0
def IX (c:List Int) (ys:List Int):Nat:=if ys.isPerm c then 1 else 0
theorem BM {wt:Nat->Nat->Nat} {L:Nat}:∀ {r k:Nat} {c:List Int},c.length=r->je wt L r k (IX c)=f_ wt L r k c
 | 0,k,c,h=>by
  rw[List.length_eq_zero_iff.1 h];rfl
 | r+1,k,c,h=>by
  unfold je f_
  refine fh fun a _=>?_
  by_cases hm:(a:Int)∈c
  ·rw[if_pos hm,<- BM (r:=r) (c:=c.erase (a:Int)) (by rw[List.length_erase_of_mem hm];omega)]
   congr 2
   funext ys
   unfold IX
   have:((a:Int)::ys).isPerm c=ys.isPerm (c.erase (a:Int)):=by
    rw[Zbl,List.isPerm_iff,List.isPerm_iff,List.cons_perm_iff_perm_erase];exact⟨fun h=>h.2,fun h=>⟨hm,h⟩⟩
   rw[this]
  ·rw[if_neg hm,xe,Nat.mul_zero];intro ys;unfold IX;rw[if_neg];rw[List.isPerm_iff];intro hp;exact hm (hp.subset (List.mem_cons_self ..))
def pk (f:List Int->Nat):List (List Int)->Nat
 | []=>0
 | x::l=>f x+pk f l
theorem IY (f:List Int->Nat) (a b:List (List Int)):pk f (a++b)=pk f a+pk f b:=by
 induction a with
 | nil=>simp[pk]
 | cons x a ih=>simp[pk,ih];omega
theorem Ph {wt:Nat->Nat->Nat} {L r k:Nat} (F:List Int->List Int->Nat) (l:List (List Int)):je wt L r k (fun ys=>pk (fun c=>F c ys) l)=pk (fun c=>je wt L r k (F c)) l:=by
 induction l with
 | nil=>exact xe fun _=>rfl
 | cons c l ih=>
  unfold pk;rw[IW,ih]
theorem TW {l:List (List Int)} (hnd:l.Nodup) (hs:∀c∈l,c.Pairwise (· <= ·)) (ys:List Int):pk (fun c=>IX c ys) l=if l.contains (dz ys)=true then 1 else 0:=by
 induction l with
 | nil=>rfl
 | cons c l ih=>
  have h1:=List.nodup_cons.1 hnd;unfold pk;rw[ih h1.2 fun x hx=>hs x (Zbd _ hx)]
  have lw:∀d:List Int,d.Pairwise (· <= ·)->(ys.Perm d↔dz ys=d):=fun d hd=>by
   constructor
   ·intro hp;exact List.Perm.eq_of_pairwise (le:=(· <= ·)) (fun a b _ _ h1 h2=>Int.le_antisymm h1 h2) (fa _) hd ((ft ys).trans hp)
   ·intro e;rw[<- e];exact(ft ys).symm
  have h2:IX c ys=if dz ys=c then 1 else 0:=by
   unfold IX
   by_cases e:dz ys=c
   ·rw[if_pos e,if_pos (List.isPerm_iff.2 ((lw c (hs c zS)).2 e))]
   ·rw[if_neg e,if_neg fun h=>e ((lw c (hs c zS)).1 (List.isPerm_iff.1 h))]
  rw[h2]
  by_cases e:dz ys=c
  ·rw[if_pos e,if_neg (by rw[Zbv,e];exact h1.1),if_pos (by rw[Zbv,e];simp)]
  ·rw[if_neg e,Zba];congr 1
   rw[Zbv,Zbv,Zbe];simp[e]
theorem IZ {p:aq} (hp:bV p=true):p.nodes.Nodup:=by
 unfold bV at hp;simp only[Zai]at hp;have h:=jO hp.2.2.1;rw[List.Nodup,Zbg];intro i j hi hj PP e;have h1:=h i j _ _ PP (Zbu hi) (Zbu hj);rw[e,sf]at h1;omega
theorem LN {p:aq} (hp:bV p=true) {L deg:Nat} (hd:(deg:Int)=p.degree) (wt:Nat->Nat->Nat):mY p L deg wt=pk (f_ wt L deg 0) p.nodes:=by
 unfold mY
 have h1:je wt L deg 0 (vJ p)=je wt L deg 0 fun ys=>pk (fun c=>IX c ys) p.nodes:=by
  refine mX (fun _ _ _ _ _=>rfl) fun ys hl _=>?_
  rw[TW (IZ hp) (fun c hc=>(iu hp hc).2.1)]
  unfold vJ l_
  rw[beq_iff_eq.2 (by rw[hl];exact hd)]
  rfl
 rw[h1,Ph]
 have:∀l:List (List Int),(∀c∈l,(c.length:Int)=p.degree)->pk (fun c=>je wt L deg 0 (IX c)) l=pk (f_ wt L deg 0) l:=fun l hl=>by
  induction l with
  | nil=>rfl
  | cons c l ih=>
   unfold pk
   rw[ih fun x hx=>hl x (Zbd _ hx),BM (zX (hl c zS))]
 exact this _ fun c hc=>(iu hp hc).1
theorem xf {p:aq} {L deg:Nat} (hd:(deg:Int)≠p.degree) (wt:Nat->Nat->Nat):mY p L deg wt=jx wt L deg 0:=by
 unfold mY
 have h1:je wt L deg 0 (vJ p)=je wt L deg 0 fun _=>1:=by
  refine mX (fun _ _ _ _ _=>rfl) fun ys hl _=>?_
  unfold vJ l_
  rw[beq_eq_false_iff_ne.2 (by rw[hl];exact hd)]
  rfl
 rw[h1,El fun _=>rfl]
theorem BO {p:aq} {L deg:Nat} {wt:Nat->Nat->Nat}:0<mY p L deg wt↔∃ys:List Int,ys.length=deg/\l_ p ys=true/\∀j,j<deg->∃b:Nat,b<L/\ys.getD j 0=(b:Int)/\0<wt j b:=by
 unfold mY;rw[BL];refine exists_congr fun ys=>and_congr_right fun _=>?_
 have:0<vJ p ys↔l_ p ys=true:=by
  unfold vJ
  split <;> simp[*]
 rw[this];simp only[Zba]
def I0 (p:aq) (n:ao) (B:Nat->Nat->Nat->Bool) (L:Nat) (br:Nat->Nat->Nat->Nat) (v k x:Nat):Nat:=if B v k x=true then bt L fun b=>if edgeB p (x:Int) (b:Int)=true then br (cF n v k).1 (cF n v k).2 b else 0 else 0
def yv (p:aq) (n:ao) (B:Nat->Nat->Nat->Bool) (L:Nat):Nat->Nat->Nat->Nat->Nat
 | 0,_,_,_=>0
 | f+1,v,i,a=>if B v i a=true then mY p L (n.ends.getD v []).length (wtI i a (I0 p n B L (yv p n B L f) v)) else 0
def i8 (p:aq) (n:ao) (B:Nat->Nat->Nat->Bool) (L f v:Nat):Nat:=mY p L (n.ends.getD v []).length (I0 p n B L (yv p n B L f) v)
def gK (n:ao) (u:Nat):Nat:=((cJ n (aH n u)).getD u 0).toNat
theorem Em {n:ao} (hn:ar n=true) (hc:io n):Lev n (gK n):=
 IT hn hc (aH n) (fun v hv=>⟨(dB hn hv).2.1,jU.symm hn hv (dB hn hv).1⟩) fun v i w k h=>pf hn (h.lt hn).1 (jU.step .refl h.see)
theorem yZ {n:ao} (hn:ar n=true) {u:Nat} (hu:u<n.ends.length):gK n u<n.ends.length:=by
 have:=RM hn hu
 unfold gK;omega
theorem pl {n:ao} (hn:ar n=true) {u:Nat} (hu:u<n.ends.length) (hr:aH n u=u):gK n u=0:=by
 unfold gK;rw[hr,(vr hn hu).zero];rfl
theorem vK {n:ao} (hn:ar n=true) (hc:io n) {u:Nat} (hu:u<n.ends.length):(∀j w k,Lk n u j w k->gK n u<gK n w)↔aH n u=u:=by
 constructor
 ·intro h
  by_cases e:aH n u=u
  ·exact e
  ·exfalso
   have hl:=(dB hn hu).2.1;have hr:=jU.symm hn hu (dB hn hu).1;have hD:=vr hn hl;obtain⟨y,y1,y2,y3⟩:=hD.par u hr (fun e2=>e e2.symm)
   have Qc:=Ar hn hl y1;obtain⟨i,f,hp,hf⟩:=j7.1 y2
   have qs:Lk n y i u f.2.toNat:=by
    have:=dZ hn hp
    unfold Lk;rw[Zcl this.2.2.2.1,<- hf];exact hp
   have h1:=h _ _ _ (qs.symm hn);have e2:aH n y=aH n u:=(pf hn hl y1).symm.trans (pf hn hl hr);have q1:=hD.pos y y1;have q2:=hD.pos u hr;unfold gK at h1;rw[e2]at h1;omega
 ·intro h j w k hl;have h1:=pl hn hu h;have h2:=(Em hn hc).step _ _ _ _ hl;omega
section
variable {p : aq} {n : ao} {B : Nat → Nat → Nat → Bool} (cC : bV p = true) (hn : ar n = true) (hc : io n)
include cC hn hc
theorem aaW {s:List (List Int)} (hs:lR p n s) (hB:∀v i,ax s v i->B v i (ak s v i).toNat=true):∀(f u:Nat),u<n.ends.length->n.ends.length<=gK n u+f ->
  (∀j w k,Lk n u j w k->gK n w<gK n u->0<yv p n B p.labels.toNat f u j (ak s u j).toNat)/\(∀k,k<(n.ends.getD u []).length->∀w m,Lk n u k w m->gK n u<gK n w->∀g,f=g+1->0<I0 p n B p.labels.toNat (yv p n B p.labels.toNat g) u k (ak s u k).toNat):=by
 have cH:∀ {u k:Nat},k<(n.ends.getD u []).length->ax s u k:=fun h=>by unfold ax;rw[hs.shp.2];exact h
 have ada:∀ {u k w m:Nat},Lk n u k w m->edgeB p (ak s u k) (ak s w m)=true:=by
  intro u k w m hl;obtain⟨l1,l2,l3,l4⟩:=hl.lt hn
  have h1:=((eO.1 hs.held) u (by rw[hs.shp.1];exact l1)).2 k (cH l3)
  have hm:=(Lk.of hn l3).fn hl;unfold tK at h1;rw[hm.1,hm.2]at h1;have r1:=hs.rng _ _ (cH l3);have r2:=hs.rng _ _ (cH l4);simp only[Zbp,decide_eq_true_eq]at h1;rcases h1 with h1 | h1 | h1
  ·omega
  ·omega
  ·exact h1
 have aA:∀ {u k:Nat},k<(n.ends.getD u []).length->(ak s u k).toNat<p.labels.toNat/\((ak s u k).toNat:Int)=ak s u k:=fun h=>zX (hs.rng _ _ (cH h))
 intro f
 induction f with
 | zero=>intro u hu hf;have:=yZ hn hu;omega
 | succ f ih=>
  intro u hu hf
  have Y0:∀k,k<(n.ends.getD u []).length->∀w m,Lk n u k w m->gK n u<gK n w->0<I0 p n B p.labels.toNat (yv p n B p.labels.toNat f) u k (ak s u k).toNat:=by
   intro k hk w m hl Ge;obtain⟨l1,l2,l3,l4⟩:=hl.lt hn;have hm:=(Lk.of hn l3).fn hl;unfold I0;rw[if_pos (hB _ _ (cH l3)),xd];refine⟨(ak s w m).toNat,(aA l4).1,?_⟩;rw[(aA l3).2,(aA l4).2,if_pos (ada hl),hm.1,hm.2];have hst:=(Em hn hc).step _ _ _ _ hl;exact(ih w l2 zO).1 m u k (hl.symm hn) Ge
  refine⟨fun j w k hl Ge=>?_,fun k hk w m hl Ge g hg=>?_⟩
  ·obtain⟨l1,l2,l3,l4⟩:=hl.lt hn;unfold yv;rw[if_pos (hB _ _ (cH l3)),BO];refine⟨s.getD u [],hs.shp.2 u,?_,fun k hk=>⟨_,(aA hk).1,?_,?_⟩⟩
   ·have h1:=((eO.1 hs.held) u (by rw[hs.shp.1];exact hu)).1
    rw[kG cC]at h1
    ·exact h1
    ·intro x hx;obtain⟨k,hk⟩:=List.getElem?_of_mem hx;have h2:=hs.rng u k (ah hk);unfold ak at h2;rw[ag hk]at h2;exact h2.1
   ·rw[(aA hk).2];rfl
   ·unfold wtI
    by_cases e:k=j
    ·subst e;rw[if_pos rfl,if_pos rfl];omega
    ·rw[if_neg e];have CK:=Lk.of hn hk;refine Y0 k hk _ _ CK ?_;rcases(Em hn hc).step _ _ _ _ CK with h | h
     ·omega
     ·exact absurd ((Em hn hc).one _ _ _ _ _ _ _ CK hl zO Ge) e
  ·obtain rfl:f=g:=zO
   exact Y0 k hk w m hl Ge
theorem En:(∀u,u<n.ends.length->aH n u=u->0<i8 p n B p.labels.toNat (n.ends.length-1) u)↔∃s,lR p n s/\∀v i,ax s v i->B v i (ak s v i).toNat=true:=by
 classical
 have hL:=Em hn hc;constructor
 ·intro h
  have dW:∀(u f:Nat) (wt:Nat->Nat->Nat),u<n.ends.length->n.ends.length=gK n u+f+1->0<mY p p.labels.toNat (n.ends.getD u []).length wt->(∀k x,k<(n.ends.getD u []).length->x<p.labels.toNat->0<wt k x->B u k x=true/\∀w m,Lk n u k w m->gK n u<gK n w->0<I0 p n B p.labels.toNat (yv p n B p.labels.toNat f) u k x) ->
    ∃row,(BJ p n (gK n) (fun u j b=>∃c:Nat,b=(c:Int)/\c<p.labels.toNat/\0<yv p n B p.labels.toNat (n.ends.length-gK n u) u j c) (fun u row=>∀k,k<(n.ends.getD u []).length->B u k (row.getD k 0).toNat=true) u row)/\∀k,k<(n.ends.getD u []).length->∃b:Nat,row.getD k 0=(b:Int)/\0<wt k b:=by
   intro u f wt hu hf mA hwt;obtain⟨ys,y1,y2,y3⟩:=BO.1 mA;refine⟨ys,⟨y1,fun x hx=>?_,y2,fun k hk=>?_,fun k w m hl Ge=>?_⟩,fun k hk=>?_⟩
   ·obtain⟨k,hk⟩:=List.getElem?_of_mem hx
    obtain⟨b,b1,b2,-⟩:=y3 k (by rw[<- y1];exact ah hk)
    rw[ag hk]at b2;omega
   ·obtain⟨b,b1,b2,b3⟩:=y3 k hk;rw[b2,Zag];exact(hwt k b hk b1 b3).1
   ·obtain⟨l1,l2,l3,l4⟩:=hl.lt hn;obtain⟨b,b1,b2,b3⟩:=y3 k l3;have h2:=(hwt k b l3 b1 b3).2 w m hl Ge;unfold I0 at h2
    split at h2
    ·obtain⟨c,c1,c2⟩:=xd.1 h2
     split at c2
     ·rename_i he
      have hm:=(Lk.of hn l3).fn hl;rw[hm.1,hm.2]at c2;have hst:=hL.step _ _ _ _ hl
      refine⟨(c:Int),by rw[b2];exact he,c,rfl,c1,?_⟩
      rw[show n.ends.length-gK n w=f by omega]
      exact c2
     ·omega
    ·omega
   ·obtain⟨b,b1,b2,b3⟩:=y3 k hk;exact⟨b,b2,b3⟩
  have nP:∀u,u<n.ends.length->(∀j w k,Lk n u j w k->gK n u<gK n w)->∃row,BJ p n (gK n) (fun u j b=>∃c:Nat,b=(c:Int)/\c<p.labels.toNat/\0<yv p n B p.labels.toNat (n.ends.length-gK n u) u j c) (fun u row=>∀k,k<(n.ends.getD u []).length->B u k (row.getD k 0).toNat=true) u row:=by
   intro u hu hr;have hlr:=(vK hn hc hu).1 hr;have h0:=pl hn hu hlr;have h1:=h u hu hlr;unfold i8 at h1
   obtain⟨row,aG,-⟩:=dW u (n.ends.length-1) _ hu zO h1 (fun k x hk hx mA=>by
    refine⟨?_,fun _ _ _ _=>mA⟩
    unfold I0 at mA
    split at mA
    ·assumption
    ·omega)
   exact⟨row,aG⟩
  obtain⟨s,s1,s2,-⟩:=IU (p:=p) hn hL (fun u=>if hu:u<n.ends.length/\(∀j w k,Lk n u j w k->gK n u<gK n w) then Classical.choose (nP u hu.1 hu.2) else [])
   (fun u hu hr=>by
    simp only[dif_pos (show u<n.ends.length/\(∀j w k,Lk n u j w k->gK n u<gK n w)from⟨hu,hr⟩)]
    exact Classical.choose_spec (nP u hu hr))
   (fun u j w k b hl Ge hg=>by
    obtain⟨c,rfl,c1,c2⟩:=hg;obtain⟨l1,l2,l3,l4⟩:=hl.lt hn;have hlu:=yZ hn l1;obtain⟨f,hf⟩:∃f,n.ends.length-gK n u=f+1:=⟨n.ends.length-gK n u-1,zO⟩
    rw[hf]at c2;unfold yv at c2
    split at c2
    ·rename_i hB
     obtain⟨row,aG,hwt⟩:=dW u f _ l1 zO c2 (fun k x hk hx mA=>by
      unfold wtI at mA
      by_cases e:k=j
      ·subst e;rw[if_pos rfl]at mA
       split at mA
       ·rename_i e2
        subst e2;refine⟨hB,fun w' m' hl' afa=>?_⟩
        have:=hl.fn hl'
        rw[<- this.1]at afa;omega
       ·omega
      ·rw[if_neg e]at mA;refine⟨?_,fun _ _ _ _=>mA⟩
       unfold I0 at mA
       split at mA
       ·assumption
       ·omega)
     obtain⟨b,b1,b2⟩:=hwt j l3;refine⟨row,aG,?_⟩;unfold wtI at b2;rw[if_pos rfl]at b2
     split at b2
     ·rename_i e;rw[b1,e]
     ·omega
    ·omega)
  refine⟨s,s1,fun v i hi=>?_⟩
  have hv:v<n.ends.length:=by rw[<- s1.shp.1];exact hi.lt
  unfold ax at hi;rw[s1.shp.2]at hi;exact s2 v hv i hi
 ·rintro⟨s,hs,hB⟩ u hu hr;have h0:=pl hn hu hr;have h1:=(aaW cC hn hc hs hB (n.ends.length-1+1) u hu zO).2;unfold i8;rw[BO];refine⟨s.getD u [],hs.shp.2 u,?_,fun k hk=>⟨(ak s u k).toNat,?_,?_,?_⟩⟩
  ·have h2:=((eO.1 hs.held) u (by rw[hs.shp.1];exact hu)).1
   rw[kG cC]at h2
   ·exact h2
   ·intro x hx;obtain⟨k,hk⟩:=List.getElem?_of_mem hx;have h2:=hs.rng u k (ah hk);unfold ak at h2;rw[ag hk]at h2;exact h2.1
  ·have:=hs.rng u k (by unfold ax;rw[hs.shp.2];exact hk);omega
  ·have:=hs.rng u k (by unfold ax;rw[hs.shp.2];exact hk)
   rw[Zcl this.1];rfl
  ·have hl:=Lk.of hn hk;exact h1 k hk _ _ hl ((vK hn hc hu).2 hr _ _ _ hl) _ rfl
end
section
variable {p : aq} {n : ao} {l0 : List (List Int)} {ps : List (Int × Int)} (hp : bV p = true) (hn : ar n = true) (aK : dv n l0) (hP : ZW l0 ps)
include hp hn aK hP
end
end Go.Proofs.YtnioemnkfojmkaaGreat
