/- Parts of the proof: walks of functions and plain laws. -/
import Derived.Test.YtnioemnkfojmkaaGreatP0
import Derived.Test.YtnioemnkfojmkaaGreatP1
import Derived.Test.YtnioemnkfojmkaaGreatP21
import Derived.Test.YtnioemnkfojmkaaGreatP20
import Derived.Test.YtnioemnkfojmkaaGreatP6
import Derived.Test.YtnioemnkfojmkaaGreatP17
set_option maxRecDepth 100000
set_option maxHeartbeats 16000000
namespace Go.Proofs.YtnioemnkfojmkaaGreat
open Go Go.RowKit
def InL (kk:Nat) (n:aw) (e:Int×Int):Prop:=∃a b:Nat,e=((a:Int),(b:Int))/\a<n.ends.length*kk/\b<(be n (a/kk)).length
structure ic (kk:Nat) (n:aw) (t:Nat) (N:aw):Prop where
 ends:N.ends.length=n.ends.length*kk
 ac1:N.ac1.length=n.ends.length*kk
 ids:N.ids.length=0
 row:∀(j:Nat) (fs:List (Int×Int)),N.ends[j]?=some fs->fs.length<=100/\(j<t->fs.length=(be n (j/kk)).length)/\∀e∈fs,InL kk n e
theorem ic.empty (kk:Nat) (n:aw):ic kk n 0 (aS (n.ends.length*kk)):=by
 refine⟨by simp[aS],by simp[aS],rfl,fun j fs hf=>?_⟩
 have h1:=List.mem_of_getElem? hf
 have h2:fs=[]:=by simp[aS]at h1;exact h1.2
 rw[h2];exact⟨by simp,fun h=>by omega,fun e h=>by cases h⟩
theorem ic.step {kk:Nat} {n N:aw} {t:Nat} (h:ic kk n t N) {l:Nat} (hx:l=(be n (t/kk)).length) (abi:l<=100) (h0:0<n.ends.length*kk) (hr:0<(be n 0).length):ic kk n (t+1) { N with ends:=N.ends.set t (List.replicate l ((0:Int),(0:Int))) }:=by
 refine⟨by simp;exact h.ends,h.ac1,h.ids,fun j fs hf=>?_⟩
 have hf:(N.ends.set t (List.replicate l ((0:Int),(0:Int))))[j]?=some fs:=hf;rw[List.getElem?_set]at hf
 by_cases e:t=j
 ·subst e;rw[if_pos rfl]at hf
  split at hf
  ·cases hf
   refine⟨by simp;exact abi,fun _=>by simp;exact hx,fun e he=>⟨0,0,?_,h0,?_⟩⟩
   ·have:=(List.mem_replicate.1 he).2
    rw[this];rfl
   ·rw[Nat.zero_div];exact hr
  ·cases hf
 ·rw[if_neg e]at hf;obtain⟨h1,h2,h3⟩:=h.row j fs hf;exact⟨h1,fun hj=>h2 (by omega),h3⟩
theorem ic.inp {kk:Nat} {n N:aw} {t k:Nat} (h:ic kk n t N) (x:Int):ic kk n t { N with ac1:=N.ac1.set k x }:=⟨h.ends,by simp;exact h.ac1,h.ids,h.row⟩
theorem ic.put {kk:Nat} {n N:aw} {t k i:Nat} (h:ic kk n t N) {es:List (Int×Int)} (he:N.ends[k]?=some es) {y:Int×Int} (hy:InL kk n y):ic kk n t { N with ends:=N.ends.set k (es.set i y) }:=by
 refine⟨by simp;exact h.ends,h.ac1,h.ids,fun j gs hf=>?_⟩
 have hf:(N.ends.set k (es.set i y))[j]?=some gs:=hf;rw[List.getElem?_set]at hf
 by_cases e:k=j
 ·subst e;rw[if_pos rfl]at hf
  split at hf
  ·cases hf;rw[List.length_set];obtain⟨h1,h2,h3⟩:=h.row k es he;refine⟨h1,h2,fun e x6=>?_⟩
   rcases List.mem_or_eq_of_mem_set x6 with q | q
   ·exact h3 e q
   ·rw[q];exact hy
  ·cases hf
 ·rw[if_neg e]at hf;exact h.row j gs hf
theorem ic.gd {kk:Nat} {n N:aw} (h:ic kk n (n.ends.length*kk) N) (h80:n.ends.length*kk<=80):Gd 100 80 N:=by
 refine⟨by rw[h.ends];exact h80,fun j es he=>(h.row j es he).1,by have:=h.ids;omega,by rw[h.ac1,h.ends],fun j es he e hm=>?_⟩
 obtain⟨a,b,q1,q2,q3⟩:=(h.row j es he).2.2 e hm
 have ha:=bK (n:=N) (v:=a) (by rw[h.ends];exact q2)
 exact⟨a,b,_,q1,ha,by rw[(h.row a _ ha).2.1 q2];exact q3⟩
theorem L4 {kk v s n:Nat} (hk:kk=1\/kk=2) (hv:v<n) (hs:s<kk) (hn:n<=40):IntKind.i64.wrap ((v:Int)*(kk:Int))=(v:Int)*(kk:Int)/\IntKind.i64.wrap ((v:Int)*(kk:Int)+(s:Int))=((v*kk+s:Nat):Int)/\v*kk+s<n*kk/\(v*kk+s)/kk=v:=by
 rcases hk with rfl | rfl
 ·exact⟨aE _ (by omega) (by omega),by rw[aE _ (by omega) (by omega)];omega,by omega,by omega⟩
 ·exact⟨aE _ (by omega) (by omega),by rw[aE _ (by omega) (by omega)];omega,by omega,by omega⟩
theorem L5 {kk n m:Nat} (hk:kk=1\/kk=2) (hm:m=n*kk) (hn:n<=40):IntKind.i64.wrap ((kk:Int)*(n:Int))=(m:Int)/\m<=80/\n<=m:=by
 rcases hk with rfl | rfl
 ·exact⟨by rw[aE _ (by omega) (by omega)];omega,by omega,by omega⟩
 ·exact⟨by rw[aE _ (by omega) (by omega)];omega,by omega,by omega⟩
def L6 (kk:Nat) (n:aw) (ps:List (List Int)):Prop:=ps.length=(la n).length/\∀p∈ps,p.length=kk/\∀t∈p,0<=t/\t<(kk:Int)
def Dq (N:aw):Prop:=Gd 100 80 N/\0<N.ends.length
theorem L7 (kk:Nat) (ve vi vn vp:Value) (n:aw) (ps:List (List Int)) (w:World) (Df:kk=1\/kk=2) (h:aU w ve vi vn n) (hg:Gd 100 40 n) (xU:0<n.ends.length) (jm:0<(be n 0).length) (hp:a_ w vp ps) (hps:L6 kk n ps):
  Calls Tryz.prog 173 #[.agg #[ve,vi,vn],.int .i64 kk,vp] w (Yt w Dq):=by
 have lR:=hg.ends;have kp:Hid (n.ac1.length=n.ends.length):=hg.ac1;have ch:Hid (∀(k:Nat) (es:List (Int×Int)),n.ends[k]?=some es->es.length<=100):=hg.row;obtain⟨m,hm⟩:∃m,m=n.ends.length*kk:=⟨_,rfl⟩
 have Hm:=zh hm;obtain⟨m1,abj,hnm⟩:=L5 Df hm lR;have YN:=zh Df;have tH:=zh jm;have abk:kk<=2:=by omega
 clear hm Df jm;obtain⟨AP,cP,hvp,hlP,hmP,hP⟩:=id hp;subst hvp;have Hg:=zh hg;have Hps:=zh hps;have HP:=zh hP;clear hg hps hP
 obtain⟨w0,A,c,A2,c2,A3,c3,rfl,rfl,rfl,f_,hm,fq,fF,HA,cS,bQ,H,gP,ig,ii⟩:=zB h;clear h
 obtain⟨wa,iY⟩:∃wa,wa=w0.alloc (.cells #[.slice none 0 0,.slice none 0 0,.slice none 0 0] 30):=⟨_,rfl⟩
 have ju:aa w0 wa:=by rw[iY];exact ae _ (ad _)
 have ll:w0.heap.size=w.heap.size+1:=by rw[cS.out];simp
 have tL:Hid (wa.heap.size=w.heap.size+1+1):=by show _=_;rw[iY,<- ll];simp
 have uq:Hid (bA wa (w.heap.size+1) (.slice none 0 0) (.slice none 0 0) (.slice none 0 0)):=by
  show bA _ _ _ _ _
  rw[iY,<- ll];show(w0.heap.push _)[w0.heap.size]?=_
  rw[Array.getElem?_push_size]
 have Ge:=aj gP ju;have Gf:=aj ig ju;have EF:=aj ii ju;have Al:=zh iY;have mA:=zh ju;clear iY ju ll gP ig ii
 go_enter Tryz.func173,Tryz.ntmps173
 go_upto_region 1 with(fail);rw[<- cS.out,<- Al.out];have hs:aa wa wa:=ad _;go_wp2_with fail;refine(fK m (by omega) wa).mono ?_;rintro e w1 ⟨we,wi,wn,S0,rfl,ho,aX⟩
 obtain⟨A1,c1,rfl⟩:∃A c,we=.slice A m c:=by obtain⟨A,c,h,-⟩:=ho.read.1;exact⟨A,c,by rw[h];simp[aS]⟩
 obtain⟨AI,cI,rfl⟩:∃A c,wi=.slice A 0 c:=by obtain⟨A,c,h,-⟩:=ho.read.2.1;exact⟨A,c,by rw[h];simp[aS]⟩
 obtain⟨AN,cN,rfl⟩:∃A c,wn=.slice A m c:=by obtain⟨A,c,h,-⟩:=ho.read.2.2;exact⟨A,c,by rw[h];simp[aS]⟩
 rw[Hm.out]at ho;have EO:=ic.empty kk n;have dw:aa wa w1:=aX;obtain⟨w2,eH⟩:∃z,z=w1.alloc (.cells #[.slice A1 m c1,.slice AI 0 cI,.slice AN m cN] 30):=⟨_,rfl⟩
 obtain⟨bo,jx⟩:∃z,z=w1.heap.size:=⟨_,rfl⟩
 have ko:aa w1 w2:=by rw[eH];exact ae _ (ad _)
 have jB:Ob bo wa w2 (.slice A1 m c1) (.slice AI 0 cI) (.slice AN m cN) (aS (n.ends.length*kk)) S0:=
  ⟨by rw[Hm.out];exact ho.ac2 ko.below,by rw[eH,jx];exact aZ.new _ _ _ _ _,fun hj=>by have:=(ho.range _ hj).2;omega,by rw[jx];exact dw.below.size,dw.after ko⟩
 obtain⟨g,rfl,-⟩:=jB.own.head (by rw[show(aS (n.ends.length*kk)).ends.length=m from by rw[Hm.out];simp[aS]];omega)
 obtain⟨gN,rfl⟩:=jB.own.adt (by rw[show(aS (n.ends.length*kk)).ac1.length=m from by rw[Hm.out];simp[aS]];omega)
 have Ns:=zh jB;have Hla:=zh EO;have py:=zh eH;have rL:=zh jx;clear jB EO eH jx ho ko aX hs;go_upto_region 2 with(fail);rw[<- py.out,<- rL.out];have dZ:=Ns.out.since;clear dw;go_upto_region 3 with(fail)
 go_loopw [24] (fun i wr=>∃(v:Nat) (N:aw) (S:List Nat),v<=n.ends.length/\i=.int .i64 v/\ic kk n (v*kk) N/\Ob bo wa wr (.slice (some ⟨g,0,none⟩) m c1) (.slice AI 0 cI) (.slice (some ⟨gN,0,none⟩) m cN) N S) (fun i _=>n.ends.length-(intOf i).toNat)
 case atStart=>exact⟨0,_,S0,Nat.zero_le _,rfl,by rw[Nat.zero_mul];exact Hla.out,Ns.out⟩
 case round=>
  obtain⟨v,N,S,hv,rfl,EO,jB⟩:=hrel;have YO:=zh EO;have TO:=zh jB;have fd:=jB.since;clear EO jB dZ
  by_cases aH:v<n.ends.length
  ·have m3:IntKind.i64.wrap ((v:Int)+1)=(v:Int)+1:=aE _ (by omega) (by omega);obtain⟨es,ca⟩:=ay n.ends v aH;obtain⟨bE,oE,cE,uE,hAE,-,dG,aD⟩:=kd H.out.es ca;obtain⟨A9,y9,rfl,dP,eO,-⟩:=aD;unfold maxLen at eO;have d1:=ab dG wr (mA.out.after fd);cases hAE;have iI:es.length<=100:=ch.out v es ca
   have nO:Hid (es.length=(be n v).length):=by show _=_;unfold be;rw[ak ca]
   obtain⟨x,hx⟩:=ay n.ac1 v (by have:=kp.out;omega)
   obtain⟨A8,c8,e8,-,-,zk⟩:=H.out.ns;cases e8;obtain⟨b8,acA,e7,Nn⟩:=zk v x hx;subst e7;have YP:=bc mA.out.below Nn;have VO:=zh YP
   have hvi:v<n.ac1.length:=by have:=kp.out;omega
   clear dG ca zk Nn YP hx;go_wp2
   go_loopw [10] (fun i wr=>∃(s:Nat) (N:aw) (S:List Nat),s<=kk/\i=.int .i64 s/\ic kk n (v*kk+s) N/\Ob bo wa wr (.slice (some ⟨g,0,none⟩) m c1) (.slice AI 0 cI) (.slice (some ⟨gN,0,none⟩) m cN) N S) (fun i _=>kk-(intOf i).toNat)
   case atStart=>exact⟨0,N,S,by omega,rfl,YO.out,TO.out⟩
   case round=>
    obtain⟨s,N1,S1,dZ,rfl,L8,YQ⟩:=hrel;obtain⟨wo,rfl⟩:∃z,z=wr:=⟨_,rfl⟩
    have TP:=zh YQ;clear d1 fd YQ
    by_cases eD:s<kk
    ·obtain⟨m4,m5,TQ,uF⟩:=L4 YN.out aH eD lR;obtain⟨j,hj⟩:∃j,j=v*kk+s:=⟨_,rfl⟩
     rw[<- hj]at L8 m5 TQ uF;have m6:IntKind.i64.wrap ((s:Int)+1)=(s:Int)+1:=aE _ (by omega) (by omega)
     have hjm:j<m:=by rw[Hm.out];exact TQ
     have Hj:Hid (j=v*kk+s/\j/kk=v):=⟨hj,uF⟩;have L9:=zh L8;have rP:=zh TP.out.box.cells.1;clear hj uF L8 TQ;go_upto_region 8 with(fail);refine av (fun W=>W.cell? ⟨bo,0,none⟩=some (.slice (some ⟨g,0,none⟩) m c1)) 10 [false,false,false,false,false,false,false,false,false,true] (by kernel_rfl) (by kernel_rfl) (show(World.drew wo).cell? ⟨bo,0,none⟩=some (.slice (some ⟨g,0,none⟩) m c1)from rP.out) ?_
     simp only[ek,dD,zT]
     iterate 9 (apply bh rfl;(intro W hW;(have k0:=hW);go_simp;with_reducible rfl);simp only[zA])
     obtain⟨W,cA⟩:∃W,W=World.drew wo:=⟨_,rfl⟩
     rw[<- cA];have hW:=(show(World.drew wo).cell? ⟨bo,0,none⟩=some (.slice (some ⟨g,0,none⟩) m c1)from rP.out);rw[<- cA]at hW;have eU:=zh cA;clear cA;refine c_ (fun Q' HQ=>?_)
     (refine NP _ rfl _ _ rfl _ _ es.length rfl rfl rfl rfl (by omega) ?_);intro w8 Lv uz;refine HQ _ _ (bc uz hW) ?_;have lG:aa wo w8:=(by have h1:aa wo W:=(by rw[eU.out];exact ag (ad _));exact h1.after uz);rw[show W.heap.size=wo.heap.size from by rw[eU.out];rfl]at Lv ⊢;have uy:=zh Lv;have kD:=zh lG;have hq:=bc uz hW;clear Lv uz lG hW
     (try simp only[zA])
     simp only[bj]
     obtain⟨f9,⟨z9,c9⟩,S9,YR⟩:=TP.out.row kD.out uy.out (k:=j) (by rw[L9.out.ends,<- Hm.out];exact hjm)
     have L_:=zh YR
     have ct:=L9.out.step (l:=es.length) (by rw[Hj.out.2];exact nO.out) iI (by rw[<- Hm.out];omega) tH.out
     have jP:=zh ct;clear YR ct;go_upto_region 9 with(fail);obtain⟨w9,tK⟩:∃z,z=w8.setCell ⟨g,j,none⟩ (.slice (some ⟨wo.heap.size,0,none⟩) es.length es.length):=⟨_,rfl⟩
     rw[<- tK];rw[<- tK]at L_;have E0:=ab L_.out.box.cells.2.2.1;have E1:∀W,aa w9 W->W.cell? ⟨w.heap.size,2,none⟩=_:=fun W hW=>EF W (L_.out.since.after hW)
     have E2:=ab (bc L_.out.since.below VO.out);clear tK hq f9 c9;refine am 13 (aa w9) (by kernel_rfl) (by kernel_rfl) (by simp) (ag (ad _)) ?_;simp only[zT]
     refine bF rfl ?_;simp only[zA]
     apply cG rfl;(intro W hW;have k1:=E0 W hW;go_simp;with_reducible rfl);simp only[zA]
     iterate 6 (refine bF rfl ?_;simp only[zA])
     apply cG rfl;(intro W hW;have k1:=E1 W hW;go_simp;with_reducible rfl);simp only[zA]
     iterate 2 (refine bF rfl ?_;simp only[zA])
     apply cG rfl;(intro W hW;have k1:=E2 W hW;go_simp;with_reducible rfl);simp only[zA]
     refine bF rfl ?_;simp only[zA]
     intro W hW
     obtain⟨f10,⟨WL,c10⟩,Ra⟩:=(L_.out.ac2 hW).adp (k:=j) x (by show j<N1.ac1.length;rw[L9.out.ac1,<- Hm.out];exact hjm)
     have YS:=zh Ra;have YT:=zh (jP.out.inp (k:=j) x);clear E0 E1 E2 Ra hW;go_wp2;go_roundw
     case rel=>exact⟨s+1,_,S9,by omega,by first | rfl | go_num,by have h7:=YT.out;rw[show v*kk+(s+1)=j+1 from by rw[Hj.out.1];rfl];exact h7,YS.out⟩
     case measure=>simp[intOf];omega
    ·have e2:((s:Int)<(kk:Int))=False:=by simp;omega
     have L9:Hid (ic kk n ((v+1)*kk) N1):=by
      show ic _ _ _ _
      rw[Nat.succ_mul,show v*kk+kk=v*kk+s from by rw[show s=kk from by omega]]
      exact L8
     clear L8;go_wp2;clear e2;go_roundw
     case rel=>exact⟨v+1,N1,S1,by omega,by first | rfl | go_num,L9.out,TP.out⟩
     case measure=>simp[intOf];omega
  ·obtain rfl:v=n.ends.length:=by omega
   obtain⟨wo,rfl⟩:∃z,z=wr:=⟨_,rfl⟩
   have a0:=Ge wo fd;have a1:=Gf wo fd;have a2:=EF wo fd;clear aH hv;go_wp2_with fail;refine(zx _ _ _ n wo (H.out.ac2 (mA.out.after fd).below) (Hg.out.mono (Nat.le_refl _) (by omega))).mono ?_;rintro e w3 ⟨uL,rfl,JE,aG⟩;have To:=nj (Hg.out.mono (Nat.le_refl _) (show 40<=100 by omega)) n.ends.length
   obtain⟨LL,sc⟩:∃LL,LL=la n:=⟨_,rfl⟩
   have abl:LL.length<=4000:=by rw[sc];unfold la;omega
   have Rb:=zh sc;rw[<- sc]at JE
   obtain⟨⟨AL,cL,hval,Qn,yi⟩,YU⟩:=JE.at
   subst hval;have TS:=TO.out.ac2 (show aa wo w3 from aG);have abm:=zh TS;have BH:Hid (∀j∈S,j<wo.heap.size):=fun j hj=>(TO.out.own.range j hj).2
   have Hat:=zh YU
   have Rc:=zh JE;have gR:=TS.since;unfold maxLen at yi;clear a0 a1 a2 TS YU JE aG To sc fd;go_wp2
   go_loopw [62] (fun i wr=>∃(x:Nat) (N:aw),x<=LL.length/\i=.int .i64 x/\ic kk n (n.ends.length*kk) N/\Ob bo wa wr (.slice (some ⟨g,0,none⟩) m c1) (.slice AI 0 cI) (.slice (some ⟨gN,0,none⟩) m cN) N S/\aR S w3 wr) (fun i _=>LL.length-(intOf i).toNat)
   case atStart=>exact⟨0,N,Nat.zero_le _,rfl,YO.out,abm.out,aR.refl _ _⟩
   case round=>
    obtain⟨x,N1,hx,rfl,EO,jB,ey⟩:=hrel;have TT:=zh EO;have Ma:=zh jB;have YV:=zh ey;have fd:=jB.since;clear EO jB ey gR
    by_cases aH:x<LL.length
    ·have m3:IntKind.i64.wrap ((x:Int)+1)=(x:Int)+1:=aE _ (by omega) (by omega);obtain⟨e,he⟩:=ay LL x aH
     obtain⟨a,i,b,j,fa,fb,hee,Vm,hi,I5,hj⟩:=Gw Hg.out (show e∈la n by rw[<- Rb.out];exact List.mem_of_getElem? he)
     subst hee;obtain⟨gL,cL',bR,hu,k0,TU,k1,k2,k3,k4⟩:=Hat.out x _ he;cases hu;have hgL:wo.heap.size<=gL:=Rc.out.blk;unfold xp at k0
     have c0:=YV.out.cell (p:=⟨gL,x,none⟩) (fun hm=>by have:=BH.out _ hm;simp at this;omega) k0
     have kV:bR∉S:=fun hm=>by have:=BH.out _ hm;omega
     have Hk:Hid (∀W,aR S w3 W->W.cell? ⟨bR,0,none⟩=some (.int .i64 a)/\W.cell? ⟨bR,1,none⟩=some (.int .i64 i)/\W.cell? ⟨bR,2,none⟩=some (.int .i64 b)/\W.cell? ⟨bR,3,none⟩=some (.int .i64 j)):=fun W hW=>⟨hW.cell (p:=⟨bR,0,none⟩) kV k1,hW.cell (p:=⟨bR,1,none⟩) kV k2,hW.cell (p:=⟨bR,2,none⟩) kV k3,hW.cell (p:=⟨bR,3,none⟩) kV k4⟩
     have z8:x<ps.length:=by rw[Hps.out.1,<- Rb.out];exact aH
     obtain⟨p,hp⟩:=ay ps x z8;obtain⟨sG,CN⟩:=Hps.out.2 p (List.mem_of_getElem? hp);obtain⟨bP,oP,uP,hAP,YW,hiP⟩:=HP.out x p hp;cases hAP;have JC:Below w.heap.size w wr:=Below.trans bQ.out ((mA.out.after fd).below.mono bQ.out.size);have d0:=bc JC YW;obtain⟨A7,c7,rfl,dP,eO,Xp⟩:=hiP;rw[sG]at dP d0;have HA7:=zh Xp;have Hpt:=zh CN;have Hp2:=zh sG
     have La:Hid (fa.length=(be n a).length/\i<fa.length/\a<n.ends.length):=⟨by unfold be;rw[ak Vm],hi,al Vm⟩
     have Re:Hid (fb.length=(be n b).length/\j<fb.length/\b<n.ends.length):=⟨by unfold be;rw[ak I5],hj,al I5⟩
     unfold maxLen at eO;clear k0 TU k1 k2 k3 k4 hgL he Vm hi I5 hj hp CN YW Xp JC;clear sG;go_upto_region 15 with(fail);clear c0 d0
     go_loopw [72] (fun t wr=>∃(s:Nat) (N:aw),s<=kk/\t=.int .i64 s/\ic kk n (n.ends.length*kk) N/\Ob bo wa wr (.slice (some ⟨g,0,none⟩) m c1) (.slice AI 0 cI) (.slice (some ⟨gN,0,none⟩) m cN) N S/\aR S w3 wr) (fun t _=>kk-(intOf t).toNat)
     case atStart=>exact⟨0,N1,by omega,rfl,TT.out,Ma.out,YV.out⟩
     case round=>
      obtain⟨s,N2,dZ,rfl,YX,YY,YZ⟩:=hrel;obtain⟨wo2,rfl⟩:∃z,z=wr:=⟨_,rfl⟩
      have Mc:=zh YX;have I6:=zh YY;have Pl:=zh YZ;clear fd YX YY YZ
      by_cases eD:s<kk
      ·obtain⟨t,ht⟩:=ay p s (by rw[Hp2.out];exact eD)
       have oN:=Hpt.out t (List.mem_of_getElem? ht);obtain⟨tt,rfl⟩:=Int.eq_ofNat_of_zero_le oN.1;obtain⟨bT,oT,abn,hct⟩:=HA7.out s _ ht;subst abn;have Y3:Below w.heap.size w wo2:=Below.trans bQ.out ((mA.out.after I6.out.since).below.mono bQ.out.size);have dt:=bc Y3 hct;have qe:=La.out.2.2;have vf:=Re.out.2.2;obtain⟨m4,m5,GI,TV⟩:=L4 YN.out qe eD lR;obtain⟨m6,m7,GJ,TW⟩:=L4 YN.out vf (show tt<kk by omega) lR
       obtain⟨j1,tB⟩:∃z,z=a*kk+s:=⟨_,rfl⟩
       obtain⟨j2,uF⟩:∃z,z=b*kk+tt:=⟨_,rfl⟩
       rw[<- tB]at m5 GI TV;rw[<- uF]at m7 GJ TW;have m8:IntKind.i64.wrap ((s:Int)+1)=(s:Int)+1:=aE _ (by omega) (by omega);have Hj:Hid ((j1<n.ends.length*kk/\j1/kk=a)/\j2<n.ends.length*kk/\j2/kk=b):=⟨⟨GI,TV⟩,GJ,TW⟩
       have acB:j1<m:=by rw[Hm.out];exact GI
       have acC:j2<m:=by rw[Hm.out];exact GJ
       clear GI TV GJ TW;clear ht oN hct Y3 tB uF qe vf;go_upto_region 17 with(fail);clear dt
       obtain⟨fs1,AK⟩:=ay N2.ends j1 (by rw[Mc.out.ends];exact Hj.out.1.1)
       have AS:=(Mc.out.row j1 fs1 AK).2.1 Hj.out.1.1;rw[Hj.out.1.2,<- (La.out).1]at AS
       obtain⟨Md,abo,Me,abp,TX,-,-,-,-,-⟩:=I6.out.ada AK (j:=i) (by rw[AS];exact(La.out).2.1)
       unfold maxLen at TX
       have Pm:i<fs1.length:=by rw[AS];exact(La.out).2.1
       obtain⟨K0,K1,K2,K3⟩:=Hk.out wo2 Pl.out;have E0:=ab I6.out.box.cells.1;have E1:=ab K0;have E2:=ab Me;have E3:=ab K1;have E4:=ab K2;have E5:=ab K3;have Mf:=zh AK;clear K0 K1 K2 K3 AS AK Me;refine am 26 (aa wo2) (by kernel_rfl) (by kernel_rfl) (by simp) (ag (ad _)) ?_;simp only[zT]
       refine bF rfl ?_;simp only[zA]
       apply cG rfl;(intro W hW;have k1:=E0 W hW;go_simp;with_reducible rfl);simp only[zA]
       iterate 2 (refine bF rfl ?_;simp only[zA])
       apply cG rfl;(intro W hW;have k1:=E1 W hW;go_simp;with_reducible rfl);simp only[zA]
       iterate 5 (refine bF rfl ?_;simp only[zA])
       apply cG rfl;(intro W hW;have k1:=E2 W hW;go_simp;with_reducible rfl);simp only[zA]
       iterate 2 (refine bF rfl ?_;simp only[zA])
       apply cG rfl;(intro W hW;have k1:=E3 W hW;go_simp;with_reducible rfl);simp only[zA]
       iterate 2 (refine bF rfl ?_;simp only[zA])
       apply cG rfl;(intro W hW;have k1:=E4 W hW;go_simp;with_reducible rfl);simp only[zA]
       iterate 6 (refine bF rfl ?_;simp only[zA])
       apply cG rfl;(intro W hW;have k1:=E5 W hW;go_simp;with_reducible rfl);simp only[zA]
       iterate 2 (refine bF rfl ?_;simp only[zA])
       intro W hW;obtain⟨gq,cq,h1,-,-,f0,f1,⟨z0,c0⟩,⟨z1,jn⟩,bH⟩:=(I6.out.ac2 hW).ada Mf.out (j:=i) Pm;rw[E2 W hW]at h1
       injection h1 with h1
       injection h1 with h1 _ _
       injection h1 with h1
       injection h1 with h1
       subst h1;obtain⟨GK,GL⟩:=bH (((j2:Nat):Int),((j:Nat):Int));have AY:=zh GK;have A_:=zh (Pl.out.trans ((aR.ac7 hW.below).trans GL))
       have GM:=zh (Mc.out.put (i:=i) Mf.out (y:=(((j2:Nat):Int),((j:Nat):Int))) ⟨j2,j,rfl,Hj.out.2.1,by rw[Hj.out.2.2,<- Re.out.1];exact Re.out.2.1⟩)
       clear GK GL bH E0 E1 E2 E3 E4 E5 hW;go_upto_region 18 with(fail);obtain⟨w17,TY⟩:∃z,z=(W.setCell ⟨Md,i*2,none⟩ (.int .i64 (j2:Int))).setCell ⟨Md,i*2+1,none⟩ (.int .i64 (j:Int)):=⟨_,rfl⟩
       rw[<- TY];rw[<- TY]at AY A_;clear TY c0 jn f0 f1;obtain⟨N3,hN3⟩:∃z,z=({ N2 with ends:=N2.ends.set j1 (fs1.set i (((j2:Nat):Int),((j:Nat):Int))) }:aw):=⟨_,rfl⟩
       have TZ:Hid (Ob bo wa w17 (.slice (some ⟨g,0,none⟩) m c1) (.slice AI 0 cI) (.slice (some ⟨gN,0,none⟩) m cN) N3 S):=by rw[hN3];exact AY
       have T1:Hid (ic kk n (n.ends.length*kk) N3):=by rw[hN3];exact GM
       have Y4:=A_;clear hN3 AY GM A_ Mc I6 Pl
       obtain⟨fs2,Ba⟩:=ay N3.ends j2 (by rw[T1.out.ends];exact Hj.out.2.1)
       have Bb:=(T1.out.row j2 fs2 Ba).2.1 Hj.out.2.1;rw[Hj.out.2.2,<- (Re.out).1]at Bb
       obtain⟨Mg,abq,Mh,abr,T6,-,-,-,-,-⟩:=TZ.out.ada Ba (j:=j) (by rw[Bb];exact(Re.out).2.1)
       unfold maxLen at T6
       have Pn:j<fs2.length:=by rw[Bb];exact(Re.out).2.1
       obtain⟨K0,K1,K2,K3⟩:=Hk.out w17 Y4.out;have E0:=ab TZ.out.box.cells.1;have E1:=ab K0;have E2:=ab Mh;have E3:=ab K1;have E4:=ab K2;have E5:=ab K3;have Mi:=zh Ba;clear K0 K1 K2 K3 Bb Ba Mh;refine am 26 (aa w17) (by kernel_rfl) (by kernel_rfl) (by simp) (ag (ad _)) ?_;simp only[zT]
       refine bF rfl ?_;simp only[zA]
       apply cG rfl;(intro W hW;have k1:=E0 W hW;go_simp;with_reducible rfl);simp only[zA]
       iterate 2 (refine bF rfl ?_;simp only[zA])
       apply cG rfl;(intro W hW;have k1:=E4 W hW;go_simp;with_reducible rfl);simp only[zA]
       iterate 5 (refine bF rfl ?_;simp only[zA])
       apply cG rfl;(intro W hW;have k1:=E2 W hW;go_simp;with_reducible rfl);simp only[zA]
       iterate 2 (refine bF rfl ?_;simp only[zA])
       apply cG rfl;(intro W hW;have k1:=E5 W hW;go_simp;with_reducible rfl);simp only[zA]
       iterate 2 (refine bF rfl ?_;simp only[zA])
       apply cG rfl;(intro W hW;have k1:=E1 W hW;go_simp;with_reducible rfl);simp only[zA]
       iterate 6 (refine bF rfl ?_;simp only[zA])
       apply cG rfl;(intro W hW;have k1:=E3 W hW;go_simp;with_reducible rfl);simp only[zA]
       iterate 2 (refine bF rfl ?_;simp only[zA])
       intro W hW;obtain⟨gq,cq,h1,-,-,f0,f1,⟨z0,c0⟩,⟨z1,jn⟩,bH⟩:=(TZ.out.ac2 hW).ada Mi.out (j:=j) Pn;rw[E2 W hW]at h1
       injection h1 with h1
       injection h1 with h1 _ _
       injection h1 with h1
       injection h1 with h1
       subst h1;obtain⟨GN,GO⟩:=bH (((j1:Nat):Int),((i:Nat):Int));have GP:=zh GN;have GQ:=zh (Y4.out.trans ((aR.ac7 hW.below).trans GO))
       have Po:=zh (T1.out.put (i:=j) Mi.out (y:=(((j1:Nat):Int),((i:Nat):Int))) ⟨j1,i,rfl,Hj.out.1.1,by rw[Hj.out.1.2,<- La.out.1];exact La.out.2.1⟩)
       clear GN GO bH E0 E1 E2 E3 E4 E5 hW;obtain⟨w18,T7⟩:∃z,z=(W.setCell ⟨Mg,j*2,none⟩ (.int .i64 (j1:Int))).setCell ⟨Mg,j*2+1,none⟩ (.int .i64 (i:Int)):=⟨_,rfl⟩
       rw[<- T7]at GP GQ;have abs:=zh T7;clear T7;go_wp2;rw[<- abs.out];clear c0 jn f0 f1;go_roundw
       case rel=>exact⟨s+1,_,by omega,by first | rfl | go_num,Po.out,GP.out,GQ.out⟩
       case measure=>simp[intOf];omega
      ·have e2:((s:Int)<(kk:Int))=False:=by simp;omega
       go_wp2;clear e2;go_roundw
       case rel=>exact⟨x+1,N2,by omega,by first | rfl | go_num,Mc.out,I6.out,Pl.out⟩
       case measure=>simp[intOf];omega
    ·obtain rfl:x=LL.length:=by omega
     have eK:=uq.out.since fd;obtain⟨k0,k1,k2,-,-,-⟩:=Ma.out.box.cells;obtain⟨e0,Fh,e2,f0,f1,f2⟩:=eK.box.cells;clear eK aH hx;go_wp2;refine bodyPost_ret (v:=.agg #[.slice (some ⟨g,0,none⟩) m c1,.slice AI 0 cI,.slice (some ⟨gN,0,none⟩) m cN]) (by simp[results,Tryz.results173,go_sem, *]) rfl ?_;have Nv:=tL.out
     refine⟨_,_,_,N1,S,rfl,(Ma.out.own.ac4 (fun j hj=>?_)).mono (by omega),⟨TT.out.gd (by rw[<- Hm.out];exact abj),by rw[TT.out.ends,<- Hm.out];omega⟩,?_⟩
     ·have tB:=(Ma.out.own.range j hj).1;rw[Below.heap_setCell _ _ _ j (by simp;omega),Below.heap_setCell _ _ _ j (by simp;omega),Below.heap_setCell _ _ _ j (by simp;omega)]
     ·have hk:Below w.heap.size w wr:=Below.trans bQ.out ((mA.out.after Ma.out.since).below.mono bQ.out.size);exact((hk.setCell (by simp) _).setCell (by simp) _).setCell (by simp) _
theorem T8 (kk:Nat) (Df:kk=1\/kk=2) (cb:Nat) (Ac:Option Addr) (L cq P Bn:Nat) (ve vi vn:Value) (n:aw) (Sn:List Nat) (w:World) (hc:bB w cb Ac L cq P) (hP:P<=4400000000000000000) (aC:au w Bn ve vi vn n Sn) (kC:cb<Bn) (hg:Gd 100 40 n) (xU:0<n.ends.length) (jm:0<(be n 0).length):
  Calls Tryz.prog 129 #[.pointer (some ⟨cb,0,none⟩),.agg #[ve,vi,vn],.int .i64 kk] w (YM cb w.heap.size Ac L cq (P+1000000) w Dq):=by
 have h:=aC.read;have ni:=zh aC;have ia:=hc.lt;have lR:=hg.ends;have abk:kk<=2:=by omega
 have acD:1<=kk:=by omega
 obtain⟨-,Y5,-⟩:=L5 Df (rfl:n.ends.length*kk=n.ends.length*kk) lR;have Y6:=zh Y5;have YN:=zh Df;have tH:=zh jm;clear Y5 Df jm;have Hg:=zh hg;have Hcw:=zh hc;clear hg hc aC
 obtain⟨w0,A,c,A2,c2,A3,c3,rfl,rfl,rfl,f_,hm,fq,fF,HA,cS,bQ,H,gP,ig,ii⟩:=zB h;clear h
 obtain⟨wa,iY⟩:∃wa,wa=w0.alloc (.cells #[.slice none 0 0,.slice none 0 0,.slice none 0 0] 30):=⟨_,rfl⟩
 have ju:aa w0 wa:=by rw[iY];exact ae _ (ad _)
 have ll:w0.heap.size=w.heap.size+1:=by rw[cS.out];simp
 have tL:Hid (wa.heap.size=w.heap.size+1+1):=by show _=_;rw[iY,<- ll];simp
 have uq:Hid (bA wa (w.heap.size+1) (.slice none 0 0) (.slice none 0 0) (.slice none 0 0)):=by
  show bA _ _ _ _ _
  rw[iY,<- ll];show(w0.heap.push _)[w0.heap.size]?=_
  rw[Array.getElem?_push_size]
 have XZ:Hid (bB wa cb Ac L cq P):=by
  show bB _ _ _ _ _ _
  refine Hcw.out.ac2 (fun k hk=>?_)
  exact(ju.below.block k (by omega)).trans (bQ.out.block k (by omega))
 have Ge:=aj gP ju;have Gf:=aj ig ju;have EF:=aj ii ju;have Al:=zh iY;have mA:=zh ju;clear iY ju ll gP ig ii
 go_enter Tryz.func129,Tryz.ntmps129
 go_upto_region 1 with(fail);rw[<- cS.out,<- Al.out];have hs:aa wa wa:=ad _;go_wp2_with fail;refine(zx _ _ _ n wa (H.out.ac2 mA.out.below) (Hg.out.mono (Nat.le_refl _) (by omega))).mono ?_;rintro e w3 ⟨uL,rfl,JE,aG⟩;have gR:aa wa w3:=aG;have To:=nj (Hg.out.mono (Nat.le_refl _) (show 40<=100 by omega)) n.ends.length
 obtain⟨LL,sc⟩:∃LL,LL=la n:=⟨_,rfl⟩
 have abl:LL.length<=4000:=by rw[sc];unfold la;omega
 have Rb:=zh sc;rw[<- sc]at JE
 obtain⟨⟨AL,cL,hval,Qn,yi⟩,YU⟩:=JE.at
 subst hval;have Hc3:=zh (XZ.out.since gR);have lE:=zh gR
 have Hat:=zh YU
 have Rc:=zh JE;have VP:=zh (And.intro (Ge w3 gR) (And.intro (Gf w3 gR) (EF w3 gR)));unfold maxLen at yi;clear hs gR YU JE aG To sc Ge Gf EF;go_upto_region 3 with(fail)
 go_loopw [8,21] (fun u i wr=>∃(x:Nat) (ps:List (List Int)) (S:List Nat),x<=LL.length/\i=.int .i64 x/\bz wr w3.heap.size u ps S/\ps.length=x/\(∀p∈ps,p.length=kk/\lT kk p)/\bB wr cb Ac L cq (P+210*x)/\aY cb w3 wr) (fun _ i _=>LL.length-(intOf i).toNat)
 case atStart=>exact⟨0,[],[],Nat.zero_le _,rfl,⟨[],[],World.ownsRow_nil w3 _ _ _,rfl,fun k u x T h=>by simp at h,by simp[Value.ownBlock],by simp⟩,rfl,fun p hp=>by simp at hp,Hc3.out.mono (by omega),aY.refl _ _⟩
 case round=>
  obtain⟨x,ps,S,hx,rfl,T_,z8,hpp,df,Rf⟩:=hrel;obtain⟨wo,rfl⟩:∃z,z=wr:=⟨_,rfl⟩
  obtain⟨AQ,cQ,rfl,hlq,XE,-⟩:=id T_.read;have Ua:=zh T_;have mo:=zh z8;have Hpp:=zh hpp;have nt:=zh df;have ny:=zh Rf;clear T_ z8 hpp df Rf
  by_cases aH:x<LL.length
  ·have m3:IntKind.i64.wrap ((x:Int)+1)=(x:Int)+1:=aE _ (by omega) (by omega);obtain⟨e,he⟩:=ay LL x aH
   obtain⟨a,i,b,j,fa,fb,hee,-,-,-,-⟩:=Gw Hg.out (show e∈la n by rw[<- Rb.out];exact List.mem_of_getElem? he)
   subst hee;obtain⟨gL,cL',bR,hu,k0,TU,k1,k2,k3,k4⟩:=Hat.out x _ he;cases hu;have hgL:wa.heap.size<=gL:=Rc.out.blk;have Nv:=tL.out;unfold xp at k0
   have c0:=aq (cb:=cb) k0 (by show gL≠cb;omega) wo ny.out
   have K1:=aq (cb:=cb) k1 (by show bR≠cb;omega)
   have K2:=aq (cb:=cb) k2 (by show bR≠cb;omega)
   have K3:=aq (cb:=cb) k3 (by show bR≠cb;omega)
   have K4:=aq (cb:=cb) k4 (by show bR≠cb;omega)
   clear k0 TU k1 k2 k3 k4 hgL he Nv;go_wp2_with fail;refine(EX cb Ac L cq (P+210*x) kk wo nt.out (by omega) (by omega)).mono ?_;rintro e w4 ⟨gp,xs,rfl,qc,da,jd,j_⟩;have qV:=zh (ny.out.trans j_)
   have Mj:=zh ((ep _ er).seen Ua.out j_ (by have:=ny.out.size;have:=lE.out.below.size;have:=tL.out;omega))
   have IK:=zh qc;have cB:=zh da;have kn:=zh jd;have J1:=fun W (hW:aa w4 W)=>K1 W (qV.out.after hW)
   have J2:=fun W (hW:aa w4 W)=>K2 W (qV.out.after hW)
   have J3:=fun W (hW:aa w4 W)=>K3 W (qV.out.after hW)
   have J4:=fun W (hW:aa w4 W)=>K4 W (qV.out.after hW)
   clear c0 K1 K2 K3 K4 qc da jd j_;go_upto_region 6 with(fail);refine am 16 (aa w4) (by kernel_rfl) (by kernel_rfl) (by simp) (ag (ad _)) ?_;simp only[zT]
   iterate 2 (refine bF rfl ?_;simp only[zA])
   apply cG rfl;(intro W hW;have k1:=J1 W hW;go_simp;with_reducible rfl);simp only[zA]
   iterate 2 (refine bF rfl ?_;simp only[zA])
   apply cG rfl;(intro W hW;have k1:=J3 W hW;go_simp;with_reducible rfl);simp only[zA]
   iterate 2 (refine bF rfl ?_;simp only[zA])
   iterate 2 (refine gT rfl rfl ?_;simp only[zA])
   apply pj rfl rfl;(intro hb;intro W hW;have k1:=J2 W hW;go_simp;with_reducible rfl);simp only[zA]
   iterate 2 (refine gT rfl rfl ?_;simp only[zA])
   apply pj rfl rfl;(intro hb;intro W hW;have k1:=J4 W hW;go_simp;with_reducible rfl);simp only[zA]
   refine gT rfl rfl ?_;simp only[zA]
   (first | refine eF rfl rfl ?_ | (refine bF rfl ?_));simp only[zA]
   intro W hW;have qg:aa w4 W:=hW;cases iz:((a:Int)==(b:Int)&&(i:Int)==(j:Int))
   ·have Pp:=zh (Own.since IK.out qg);have GR:=zh ((ep _ er).ac2 Mj.out qg.below);have Ub:=zh (kn.out.since qg);have Bc:=zh (qV.out.after qg)
    have Hgp:Hid (∀q,(Value.slice (some ⟨gp,0,none⟩) kk kk).ownBlock=some q->q∉S):=fun q hq hqs=>by
     simp[Value.ownBlock]at hq
     subst hq;have h1:=(World.ownsRow.lt IK.out gp (by simp[Value.ownBlock])).1;have h2:=((ep _ er).range Ua.out gp hqs).2;omega
    clear qg hW J1 J2 J3 J4;have ik:aa W (W.alloc (.cells #[.slice (some ⟨gp,0,none⟩) kk kk] 28)):=ae _ (ad _);have Uc:=zh ((Own.since Pp.out ik).mono (show w3.heap.size<=wo.heap.size from ny.out.size));have Dr:=zh ((ep _ er).ac2 GR.out ik.below)
    have Y7:Hid (ps.length+1<=4000000):=by show _<=_;have:=mo.out;omega
    have D4:Hid (w3.heap.size<=(W.alloc (.cells #[.slice (some ⟨gp,0,none⟩) kk kk] 28)).heap.size):=Nat.le_trans Bc.out.size ik.below.size;have Ud:=zh (Ub.out.since ik);have FA:=zh (Bc.out.after ik);clear ik
    go_wp2_with (at_builtin;refine mj (base:=w3.heap.size) (v:=.slice AQ ps.length cQ) (u:=.slice (some ⟨gp,0,none⟩) kk kk) (xs:=xs) rfl _ _ rfl rfl Dr.out W.heap.size rfl (by simp) Uc.out Hgp.out Y7.out D4.out ?_;intro g9 c9 w9 S9 fV ka;have xl:=zh fV;have Dg:=zh (Ud.out.ac2 (fun k hk=>ka.block k (by have:=lE.out.below.size;have:=tL.out;omega)));have FB:=zh (FA.out.trans' ka);clear fV ka)
    go_roundw
    case rel=>exact⟨x+1,_,S9,by omega,by first | rfl | go_num,by have h7:=xl.out;have:=mo.out;simpa using h7,by simp;exact mo.out,fun q hq=>by
     rcases List.mem_append.1 hq with h7 | h7
     ·exact Hpp.out q h7
     ·have h8:q=xs:=by simpa using h7
      rw[h8];exact⟨IK.out.len.symm ▸ rfl,cB.out⟩,Dg.out.mono (by omega),FB.out⟩
    case measure=>simp[intOf];omega
   ·obtain⟨gq,Y8⟩:∃z,z=W.heap.size:=⟨_,rfl⟩
    have Y9:∀q∈S,q<gq:=fun q hq=>by
     have h2:=((ep _ er).range Mj.out q hq).2;have h3:=qg.below.size;omega
    have h3q:w3.heap.size<=gq:=by have h1:=qV.out.size;have h3:=qg.below.size;omega
    have hcq:cb<gq:=by have:=lE.out.below.size;have:=tL.out;omega
    have Pp:=zh (Own.since IK.out qg);have GR:=zh ((ep _ er).ac2 Mj.out qg.below);have Ub:=zh (kn.out.since qg);have Bc:=zh (qV.out.after qg);have VM:=zh Y9
    have hgp:gp<gq:=by rw[Y8];exact(World.ownsRow.lt Pp.out gp (by simp[Value.ownBlock])).2
    have sx:xs.length=kk:=IK.out.len.symm ▸ rfl;have mw:=zh sx;clear qg hW J1 J2 J3 J4 Y9 sx
    go_upto_region 8 with(at_make;refine zJ _ rfl _ _ rfl _ _ kk rfl rfl rfl rfl (by omega) ?_;intro w5 qo mP VE)
    rw[<- Y8]at qo ⊢;have acE:=zh Y8
    have pC:CB cb gq W w5:=by rw[Y8];exact CB.of mP
    have uA:=zh qo;have IV:=zh (Ub.out.since mP);have HC5:=zh pC;clear Y8 qo pC mP VE;go_upto_region 9 with(fail)
    go_loopw [48] (fun i wr=>∃(s:Nat) (ys:List Int),s<=kk/\i=.int .i64 s/\Own wr gq (.slice (some ⟨gq,0,none⟩) kk kk) ys/\ys.length=kk/\lT kk ys/\bB wr cb Ac L cq (P+210*x+200)/\CB cb gq W wr) (fun i _=>kk-(intOf i).toNat)
    case atStart=>exact⟨0,_,by omega,rfl,uA.out,by simp,fun q hq=>by simp at hq;omega,IV.out,HC5.out⟩
    case round=>
     obtain⟨s,ys,dZ,rfl,hq,Fb,Dd,km,pC⟩:=hrel;have Hq:=zh hq;have xh:=zh Fb;have Fl:=zh Dd;have FC:=zh km;have XF:=zh pC;clear hq Fb Dd km pC
     by_cases eD:s<kk
     ·have m4:IntKind.i64.wrap ((s:Int)+1)=(s:Int)+1:=aE _ (by omega) (by omega)
      obtain⟨y,hy⟩:=ay ys s (by rw[xh.out];exact eD)
      have c1:=Hq.out.cell hy;have f1:=Hq.out.free s;have Fk:=zh (Hq.out.set (k:=s) (s:Int));clear hy;go_wp2;go_roundw
      case rel=>exact⟨s+1,_,by omega,by first | rfl | go_num,Fk.out,by rw[List.length_set];exact xh.out,Fl.out.set s (by omega),FC.out.ac2 (fun k hk=>Below.heap_setCell _ _ _ _ (by show k≠gq;omega)),XF.out.setCell (p:=⟨gq,s,none⟩) (.inl (Nat.le_refl _)) _⟩
      case measure=>simp[intOf];omega
     ·have e2:((s:Int)<(kk:Int))=False:=by simp;omega
      go_upto_region 14 with(fail);clear eD e2
      go_loopw [14] (fun i wr=>∃(s:Nat) (ys:List Int),(s=0\/s=2)/\i=.int .i64 s/\Own wr gq (.slice (some ⟨gq,0,none⟩) kk kk) ys/\ys.length=kk/\lT kk ys/\bB wr cb Ac L cq (P+210*x+200+s)/\CB cb gq W wr) (fun i _=>2-(intOf i).toNat)
      case atStart=>exact⟨0,ys,.inl rfl,by first | rfl | go_num,Hq.out,xh.out,Fl.out,FC.out,XF.out⟩
      case round=>
       obtain⟨s,ys,dZ,rfl,hq,Fb,Dd,km,pC⟩:=hrel;obtain⟨w8,rfl⟩:∃z,z=wr:=⟨_,rfl⟩
       have xh:=zh Fb;have Fl:=zh Dd;have xm:=zh km;have Vt:=zh pC;have Hq:=zh hq;clear hq Fb Dd km pC
       by_cases hgo:s=0/\kk=2
       ·obtain⟨rfl,nP⟩:=hgo
        obtain⟨y0,Jl⟩:=ay xs 0 (by rw[mw.out];omega)
        obtain⟨y1,JV⟩:=ay xs 1 (by rw[mw.out];omega)
        have h1k:((1:Int)<(kk:Int))=True:=by simp;omega
        have h0k:0<kk:=by omega
        have h1n:1<kk:=by omega
        clear nP dZ;have b0:=cB.out y0 (List.mem_of_getElem? Jl);have b1:=cB.out y1 (List.mem_of_getElem? JV);obtain⟨z0,rfl⟩:=Int.eq_ofNat_of_zero_le b0.1;obtain⟨z1,rfl⟩:=Int.eq_ofNat_of_zero_le b1.1;have n1:IntKind.i64.wrap 1=1:=aE 1 (by omega) (by omega);have n2:IntKind.i64.wrap 2=2:=aE 2 (by omega) (by omega);have eu:z0<kk:=by omega
        have dP:z1<kk:=by omega
        have acF:(z0:Int)<(kk:Int):=by omega
        have acG:(z1:Int)<(kk:Int):=by omega
        have Ue:gp≠cb:=by have h1:=(World.ownsRow.lt IK.out gp (by simp[Value.ownBlock])).1;have:=ny.out.size;have:=lE.out.below.size;have:=tL.out;omega
        have hpW:=aQ Pp.out (fun k hk=>(show k=gp by simpa[Value.ownBlock,eq_comm]using hk) ▸ Vt.out.block gp hgp Ue)
        have c0:=Own.cell hpW Jl;have c1:=Own.cell hpW JV;clear Jl JV b0 b1 hpW;go_wp2_with fail;refine(lF cb Ac L cq (P+210*x+200+0) 2 w8 xm.out (by omega) (by omega)).mono ?_;rintro e w9 ⟨bb,rfl,xA,Fx⟩;have Uf:gq<w8.heap.size:=(World.ownsRow.lt Hq.out gq (by simp[Value.ownBlock])).2;have VF:=zh (Vt.out.trans (Fx.mono (Nat.le_of_lt Uf)));have Yj:=zh (aQ Hq.out (fun k hk=>(show k=gq by simpa[Value.ownBlock,eq_comm]using hk) ▸ Fx.block gq Uf (by omega)))
        have Dg:=zh xA;have d0:=aq c0 Ue w9 Fx;have d1:=aq c1 Ue w9 Fx;have E0:=ab d0;have E1:=ab d1;clear c0 c1 xA Fx Uf d0 d1;cases bb
        ·go_wp2;go_roundw
         case rel=>exact⟨2,ys,.inr rfl,by first | rfl | go_num,Yj.out,xh.out,Fl.out,Dg.out.mono (by omega),VF.out⟩
         case measure=>simp[intOf]
        ·go_upto_region 17 with(fail);refine am 11 (aa w9) (by kernel_rfl) (by kernel_rfl) (by simp) (ag (ad _)) ?_;simp only[zT]
         iterate 4 (refine bF rfl ?_;simp only[zA])
         apply cG rfl;(intro W hW;have k1:=E0 W hW;go_simp;with_reducible rfl);simp only[zA]
         iterate 4 (refine bF rfl ?_;simp only[zA])
         apply cG rfl;(intro W hW;have k1:=E1 W hW;go_simp;with_reducible rfl);simp only[zA]
         refine bF rfl ?_;simp only[zA]
         intro W1 js;have iT:Own W1 gq (.slice (some ⟨gq,0,none⟩) kk kk) ys:=Own.since Yj.out js
         obtain⟨v0,G_⟩:=ay ys z0 (by rw[xh.out];exact eu)
         have cq0:=iT.cell G_;have fq0:=iT.free z0;have jh:=iT.set (k:=z0) (z1:Int);have FD:=(VF.out.trans (CB.of (js.below.mono (show gq<=w9.heap.size from Nat.le_of_lt (World.ownsRow.lt Yj.out gq (by simp[Value.ownBlock])).2)))).setCell (p:=⟨gq,z0,none⟩) (.inl (Nat.le_refl _)) (.int .i64 (z1:Int))
         have zF:bB (W1.setCell ⟨gq,z0,none⟩ (.int .i64 (z1:Int))) cb Ac L cq (P+210*x+200+0+2):=(Dg.out.since js).ac2 (fun k hk=>Below.heap_setCell _ _ _ _ (by show k≠gq;omega))
         have e0:(W1.setCell ⟨gq,z0,none⟩ (.int .i64 (z1:Int))).cell? ⟨gp,0,none⟩=some (.int .i64 (z0:Int)):=by rw[World.cell?_of_block (Below.heap_setCell _ _ _ gp (by show gp≠gq;omega))];exact E0 W1 js
         have e1:(W1.setCell ⟨gq,z0,none⟩ (.int .i64 (z1:Int))).cell? ⟨gp,1,none⟩=some (.int .i64 (z1:Int)):=by rw[World.cell?_of_block (Below.heap_setCell _ _ _ gp (by show gp≠gq;omega))];exact E1 W1 js
         clear G_ iT js E0 E1;go_upto_region 18 with(fail);obtain⟨nM,Ug⟩:∃z,z=W1.setCell ⟨gq,z0,none⟩ (.int .i64 (z1:Int)):=⟨_,rfl⟩
         rw[<- Ug];rw[<- Ug]at jh FD zF e0 e1;have E0:=ab e0;have E1:=ab e1;have Y_:Hid (Own nM gq (.slice (some ⟨gq,0,none⟩) kk kk) (ys.set z0 (z1:Int))):=jh;have abt:=zh FD;have xC:=zh zF;clear Ug jh FD zF e0 e1 cq0 fq0;refine am 11 (aa nM) (by kernel_rfl) (by kernel_rfl) (by simp) (ag (ad _)) ?_;simp only[zT]
         iterate 5 (refine bF rfl ?_;simp only[zA])
         apply cG rfl;(intro W hW;have k1:=E1 W hW;go_simp;with_reducible rfl);simp only[zA]
         iterate 3 (refine bF rfl ?_;simp only[zA])
         apply cG rfl;(intro W hW;have k1:=E0 W hW;go_simp;with_reducible rfl);simp only[zA]
         refine bF rfl ?_;simp only[zA]
         intro W2 gm;have lX:Own W2 gq (.slice (some ⟨gq,0,none⟩) kk kk) (ys.set z0 (z1:Int)):=Own.since Y_.out gm
         obtain⟨v1,M9⟩:=ay (ys.set z0 (z1:Int)) z1 (by rw[List.length_set,xh.out];exact dP)
         have cq1:=lX.cell M9;have fq1:=lX.free z1;have Za:=zh (lX.set (k:=z1) (z0:Int));have abu:=zh ((abt.out.trans (CB.of (gm.below.mono (show gq<=nM.heap.size from Nat.le_of_lt (World.ownsRow.lt Y_.out gq (by simp[Value.ownBlock])).2)))).setCell (p:=⟨gq,z1,none⟩) (.inl (Nat.le_refl _)) (.int .i64 (z0:Int)))
         have Zb:Hid (bB (W2.setCell ⟨gq,z1,none⟩ (.int .i64 (z0:Int))) cb Ac L cq (P+210*x+200+0+2)):=(xC.out.since gm).ac2 (fun k hk=>Below.heap_setCell _ _ _ _ (by show k≠gq;omega))
         have Uh:=zh ((Fl.out.set z0 (x:=(z1:Int)) (by omega)).set z1 (x:=(z0:Int)) (by omega));clear M9 lX gm E0 E1;go_wp2;go_roundw
         case rel=>exact⟨2,_,.inr rfl,by first | rfl | go_num,Za.out,by rw[List.length_set,List.length_set];exact xh.out,Uh.out,Zb.out.mono (by omega),abu.out⟩
         case measure=>simp[intOf]
       ·have h3k:IntKind.i64.wrap ((s:Int)+1)=(s:Int)+1:=aE _ (by omega) (by omega)
        have h4k:((s:Int)+1<(kk:Int))=False:=by simp;omega
        have acH:s<=2:=by omega
        clear hgo dZ;have HoQ:Hid (Own w8 w3.heap.size (.slice (some ⟨gq,0,none⟩) kk kk) ys):=Hq.out.mono h3q
        have Zc:Hid (bz w8 w3.heap.size (.slice AQ ps.length cQ) ps S):=(ep _ er).ac4 GR.out (fun k hk=>Vt.out.block k (VM.out k hk) (by have h1:=((ep _ er).range GR.out k hk).1;have:=lE.out.below.size;have:=tL.out;omega))
        have abv:Hid (bB w8 cb Ac L cq (P+210*x+202)):=xm.out.mono (by omega);have Mk:Hid (aY cb w3 w8):=CB.trans Bc.out (Vt.out.mono h3q)
        have Hgq:Hid (∀q,(Value.slice (some ⟨gq,0,none⟩) kk kk).ownBlock=some q->q∉S):=fun q hq hqs=>by
         simp[Value.ownBlock]at hq
         subst hq
         have:=VM.out _ hqs
         omega
        have ik:aa w8 (w8.alloc (.cells #[.slice (some ⟨gq,0,none⟩) kk kk] 28)):=ae _ (ad _);have Uc:=zh ((Own.since HoQ.out ik).mono (Nat.le_refl _));have Dr:=zh ((ep _ er).ac2 Zc.out ik.below)
        have Y7:Hid (ps.length+1<=4000000):=by show _<=_;have:=mo.out;omega
        have D4:Hid (w3.heap.size<=(w8.alloc (.cells #[.slice (some ⟨gq,0,none⟩) kk kk] 28)).heap.size):=Nat.le_trans Mk.out.size ik.below.size;have Ud:=zh (abv.out.since ik);have FA:=zh (Mk.out.after ik);clear ik
        go_wp2_with (at_builtin;refine mj (base:=w3.heap.size) (v:=.slice AQ ps.length cQ) (u:=.slice (some ⟨gq,0,none⟩) kk kk) (xs:=ys) rfl _ _ rfl rfl Dr.out w8.heap.size rfl (by simp) Uc.out Hgq.out Y7.out D4.out ?_;intro g9 c9 w9 S9 fV ka;have xl:=zh fV;have Dg:=zh (Ud.out.ac2 (fun k hk=>ka.block k (by have:=lE.out.below.size;have:=tL.out;omega)));have FB:=zh (FA.out.trans' ka);clear fV ka)
        go_roundw
        case rel=>exact⟨x+1,_,S9,by omega,by first | rfl | go_num,by have h7:=xl.out;have:=mo.out;simpa using h7,by simp;exact mo.out,fun q hq=>by
         rcases List.mem_append.1 hq with h7 | h7
         ·exact Hpp.out q h7
         ·have h8:q=ys:=by simpa using h7
          rw[h8];exact⟨xh.out,Fl.out⟩,Dg.out.mono (by omega),FB.out⟩
        case measure=>simp[intOf];omega
  ·obtain rfl:x=LL.length:=by omega
   clear aH hx;have gZ:aa w w3:=(show aa w w0 from bQ.out).after (mA.out.after lE.out);have HnO:=zh ((ni.out.ac2 gZ.below).seen ny.out kC).read;have Nv:=tL.out;have hwn:w.heap.size≠cb:=by omega
   have j0:=aq VP.out.1 (by exact hwn) wo ny.out;have j1:=aq VP.out.2.1 (by exact hwn) wo ny.out;have j2:=aq VP.out.2.2 (by exact hwn) wo ny.out;have J0:=ab j0;have J1:=ab j1;have J2:=ab j2;have Hrw:Hid (bA wo (w.heap.size+1) (.slice none 0 0) (.slice none 0 0) (.slice none 0 0)):=(ny.out.block _ (uq.out.since lE.out).lt (by omega)).trans (uq.out.since lE.out);have Ef:aa wo wo:=ad _;clear gZ;go_upto_region 24 with(fail);clear j0 j1 j2
   go_loopw [15,95] (fun u i wr=>∃(v:Nat) (ls:List Int),v<=n.ends.length/\i=.int .i64 v/\Own wr wo.heap.size u ls/\ls.length=v*kk/\(∀y∈ls,0<=y/\y<=1000)/\aa wo wr) (fun _ i _=>n.ends.length-(intOf i).toNat)
   case atStart=>exact⟨0,[],Nat.zero_le _,rfl,iP _ _,by simp,fun y hy=>by simp at hy,Ef⟩
   case round=>
    obtain⟨v,ls,hv,rfl,ho,t_,gX,fd⟩:=hrel;obtain⟨AU,cU,rfl,-,-,-⟩:=id ho.ints;have Ho:=zh ho;have yb:=zh t_;have qp:=zh gX;have HsR:=zh fd;clear ho t_ gX Ef
    by_cases aH:v<n.ends.length
    ·have m3:IntKind.i64.wrap ((v:Int)+1)=(v:Int)+1:=aE _ (by omega) (by omega);go_upto_region 27 with(fail)
     go_loopw [15,17] (fun u i wr=>∃(s:Nat) (ls:List Int),s<=kk/\i=.int .i64 s/\Own wr wo.heap.size u ls/\ls.length=v*kk+s/\(∀y∈ls,0<=y/\y<=1000)/\aa wo wr) (fun _ i _=>kk-(intOf i).toNat)
     case atStart=>exact⟨0,ls,by omega,rfl,Ho.out,yb.out,qp.out,HsR.out⟩
     case round=>
      obtain⟨s,ls2,dZ,rfl,ho,t_,gX,C_⟩:=hrel;obtain⟨AV,cV,rfl,-,-,-⟩:=id ho.ints;have nW:=zh ho;have Ui:=zh t_;have Zd:=zh gX;have Ze:=zh C_;clear ho t_ gX fd C_
      by_cases eD:s<kk
      ·have m4:IntKind.i64.wrap ((s:Int)+1)=(s:Int)+1:=aE _ (by omega) (by omega)
       have lM:Hid (ls2.length+1<=17592186044416):=by show _<=_;have:=Ui.out;have:=Y6.out;have:=Nat.mul_le_mul_right kk (Nat.le_of_lt aH);omega
       have M9:(v:Int)<=1000:=by omega
       go_wp2_with (at_builtin;refine po (w0:=wo) rfl _ _ rfl rfl (nW.out.since (ae _ (ad _))) wr.heap.size v rfl (by simp[go_sem]) lM.out (ae _ Ze.out) ?_;intro g9 E6 w9 fV OZ;have xl:=zh fV;have IQ:=zh OZ;clear fV OZ)
       go_roundw
       case rel=>exact⟨s+1,_,by omega,by first | rfl | go_num,xl.out,by have:=Ui.out;simp;omega,fun y hy=>by
        rcases List.mem_append.1 hy with h7 | h7
        ·exact Zd.out y h7
        ·have h8:y=(v:Int):=by simpa using h7
         omega,IQ.out⟩
       case measure=>simp[intOf];omega
      ·have e2:((s:Int)<(kk:Int))=False:=by simp;omega
       have gn:Hid (s=kk):=by show _=_;omega
       clear eD;go_wp2;clear e2;go_roundw
       case rel=>exact⟨v+1,ls2,by omega,by first | rfl | go_num,nW.out,by have:=Ui.out;have:=gn.out;rw[Nat.succ_mul];omega,Zd.out,Ze.out⟩
       case measure=>simp[intOf];omega
    ·have lW:v=n.ends.length:=by omega
     subst lW;clear aH hv;have y0:=J0 wr fd;have y1:=J1 wr fd;have y2:=J2 wr fd;have abw:=zh (bz.read ((ep _ er).ac2 Ua.out fd.below));have fU:Hid (L6 kk n ps):=⟨by rw[mo.out,Rb.out],fun p hp=>⟨(Hpp.out p hp).1,fun t ht=>(Hpp.out p hp).2 t ht⟩⟩
     clear J0 J1 J2;go_wp2_with fail;refine(L7 kk _ _ _ _ n ps wr YN.out (HnO.out.ac2 fd.below) Hg.out xU tH.out abw.out fU.out).mono ?_;rintro e w5 ⟨ve5,vi5,vn5,N5,S5,rfl,qo,Zf,mP⟩;obtain⟨D0,d0,rfl,-,-,-⟩:=id qo.read.1;obtain⟨D1,d1,rfl,-,-,-⟩:=id qo.read.2.1;obtain⟨D2,d2,rfl,-,-,-⟩:=id qo.read.2.2;have AD:aa wo w5:=fd.after (show aa wr w5 from mP);have eK:=Hrw.out.since AD;obtain⟨e0,Fh,e2,f0,f1,f2⟩:=eK.box.cells;have uA:=zh qo;have abx:=zh Zf;have oQ:=zh AD;have acI:=zh eK.lt;have Rc:=zh (Own.since Ho.out (show aa wr w5 from mP));clear qo Zf AD mP eK y0 y1 y2 fd;go_wp2;refine bodyPost_ret (v:=.tuple #[.agg #[.slice D0 N5.ends.length d0,.slice D1 N5.ids.length d1,.slice D2 N5.ac1.length d2],.slice AU ls.length cU]) (by simp[results,Tryz.results129,go_sem, *]) rfl ?_
     have eR:w.heap.size+2<=wo.heap.size:=by have:=lE.out.below.size;have:=ny.out.size;omega
     have hwr:=HsR.out.below.size;have Zg:∀j,w.heap.size+1<j->(ac5 w5 (w.heap.size+1) (.slice D0 N5.ends.length d0) (.slice D1 N5.ids.length d1) (.slice D2 N5.ac1.length d2)).heap[j]?=w5.heap[j]?:=fun j hj=>co _ _ _ _ _ (by omega)
     refine⟨_,_,_,_,N5,S5,ls,rfl,(uA.out.ac4 (fun j hj=>Zg j (by have:=(uA.out.range j hj).1;omega))).mono (by omega),abx.out,Own.mono (aQ Rc.out (fun j hj=>Zg j (by have:=(World.ownsRow.lt Rc.out j (by simpa using hj)).1;omega))) (by omega),⟨by have:=yb.out;have:=Y6.out;omega,qp.out⟩,?_,?_⟩
     ·exact((nt.out.since oQ.out).ac2 (fun k hk=>co _ _ _ _ _ (by omega))).mono (by omega)
     ·have h1:CB cb w.heap.size w w5:=(CB.of (Below.trans bQ.out ((mA.out.after lE.out).below.mono bQ.out.size))).trans (((ny.out.after oQ.out).mono (by have:=lE.out.below.size;omega)))
      exact((h1.setCell (p:=⟨w.heap.size+1,0,none⟩) (.inl (by simp)) _).setCell (p:=⟨w.heap.size+1,1,none⟩) (.inl (by simp)) _).setCell (p:=⟨w.heap.size+1,2,none⟩) (.inl (by simp)) _
def Rg (w:World) (v:Value) (L:Nat):Prop:=∃A c,v=.slice A L c/\L<=c/\c<=maxLen/\∀k,k<L->∃b off x,A=some ⟨b,off,none⟩/\w.cell? ⟨b,off+k,none⟩=some (.int .u8 x)/\0<=x/\x<256
theorem Rg.ac2 {w w':World} {v:Value} {L:Nat} (h:Rg w v L) (hb:Below w.heap.size w w'):Rg w' v L:=by
 obtain⟨A,c,h1,h2,h3,h4⟩:=h;refine⟨A,c,h1,h2,h3,fun k hk=>?_⟩
 obtain⟨b,off,x,e1,e2,e3,e4⟩:=h4 k hk;exact⟨b,off,x,e1,bc hb e2,e3,e4⟩
theorem GS {w w2:World} {A:Option Addr} {L c cb:Nat} {t:TypeId} (hb:∀k,k<L->∃b off x,A=some ⟨b,off,none⟩/\w.cell? ⟨b,off+k,none⟩=some (.int .u8 x)/\0<=x/\x<256) (hs:aa w w2) (ia:w.heap.size<=cb) (hc:w2.heap[cb]?=some (.cells #[.slice A L c,.int .i64 0,.int .u64 0] t)) (hL:L<=1048576) (Zh:L<=c):bB w2 cb A L c 0:=by
 refine⟨0,0,⟨⟨_,hc⟩,fun k hk=>?_,hL,Zh,by omega⟩,Nat.le_refl _⟩
 obtain⟨b,off,x,e1,e2,e3,e4⟩:=hb k hk
 have:=Gj e2
 exact⟨b,off,x,e1,by simp at this;omega,bc hs e2,e3,e4⟩
theorem Mb.mono {cb B pb:Nat} {A:Option Addr} {L c P P':Nat} {w W:World} {ve vi vn:Value} {N:aw} {S:List Nat} (h:Mb cb B pb A L c P w W ve vi vn N S) (hP:P<=P'):Mb cb B pb A L c P' w W ve vi vn N S:=⟨h.own,h.box,h.nb,h.cur.mono hP,h.far⟩
theorem I7 (cb:Nat) (A:Option Addr) (L c P B g q n:Nat) (xs:List Int) (w:World) (h:bB w cb A L c P) (hP:P<=4611686018427387000) (ho:Own w B (.slice (some ⟨g,0,none⟩) n q) xs) (hn:n=xs.length) (hB:cb<B) (hx:1<=xs.length) (sq:xs.length<=1048576):
  Calls Tryz.prog 46 #[.pointer (some ⟨cb,0,none⟩),.slice (some ⟨g,0,none⟩) n q] w fun e w'=>∃x,e=.returned (.int .i64 x)/\x∈xs/\bB w' cb A L c (P+2)/\CB cb w.heap.size w w':=by
 subst hn;exact kz cb A L c P B g q xs w h hP ho hB hx sq
section
variable {P : Program} {ops : Array Oper}
def oX (P:Program) (o:Oper) (A:Act) (W:World) (post:Value->World->Prop):Prop:=
 match (execOp A.eval o).run P W with
 | .ok (.value u) W'=>post u W'
 | .ok .skip W'=>post undef W'
 | .ok (.enter f args) W'=>Calls P f args W' fun e kM=>∃u,e=.returned u/\post u kM
 | _=>False
theorem cp {o:Oper} {A:Act} {W W':World} {u:Value} {post:Value->World->Prop} (h:(execOp A.eval o).run P W=.ok (.value u) W') (hp:post u W'):oX P o A W post:=by
 unfold oX;rw[h];exact hp
theorem jX {o:Oper} {A:Act} {W W':World} {post:Value->World->Prop} (h:(execOp A.eval o).run P W=.ok .skip W') (hp:post undef W'):oX P o A W post:=by
 unfold oX;rw[h];exact hp
theorem jY {o:Oper} {A:Act} {W W':World} {f:FuncId} {args:Array Value} {post:Value->World->Prop} (h:(execOp A.eval o).run P W=.ok (.enter f args) W') (hp:Calls P f args W' fun e kM=>∃u,e=.returned u/\post u kM):oX P o A W post:=by
 unfold oX;rw[h];exact hp
def Zi (ops:Array Oper) (k:Nat) (cs:List Nat):Bool:=
 (List.range k).all fun i=>match ops[i]? with
  | none=>true
  | some o=>match cs.findIdx? (fun x=>x==i) with
   | none=>true
   | some r=>r==0||(match cs[r-1]? with | some j=>(bU o).contains j | none=>false)
theorem yB {cs:List Nat} {i j r:Nat} (h:cs.findIdx? (fun x=>x==i)=some r) (h':cs.findIdx? (fun x=>x==j)=some r):i=j:=by
 obtain⟨hr,h1,-⟩:=List.findIdx?_eq_some_iff_getElem.1 h;obtain⟨Jm,JQ,-⟩:=List.findIdx?_eq_some_iff_getElem.1 h';have e1:cs[r]=i:=by simpa using h1
 have e2:cs[r]=j:=by simpa using JQ
 omega
end
section
variable {P : Program} {ops : Array Oper}
def RW (l:List (Value->World->Prop)):Nat->Value->World->Prop:=fun j u W=>match l[j]? with | some r=>r u W | none=>True
theorem RW.rel {l:List (Value->World->Prop)} {VQ:World->World->Prop} (h:∀r∈l,∀u W W',VQ W W'->r u W->r u W'):∀j u W W',VQ W W'->RW l j u W->RW l j u W':=by
 intro j u W W' hr hw
 unfold RW at hw ⊢
 cases e:l[j]? with
 | none=>trivial
 | some r=>rw[e]at hw;exact h r (List.mem_of_getElem? e) u W W' hr hw
end
structure C2 (cb rb:Nat) (W W':World):Prop where
 os:W'.os=W.os
 tape:W'.tape=W.tape
 output:W'.output=W.output
 size:W.heap.size<=W'.heap.size
 block:∀k,k<W.heap.size->k≠cb->k≠rb->W'.heap[k]?=W.heap[k]?
theorem C2.refl (cb rb:Nat) (W:World):C2 cb rb W W:=⟨rfl,rfl,rfl,Nat.le_refl _,fun _ _ _ _=>rfl⟩
theorem C2.trans {cb rb:Nat} {a b d:World} (h:C2 cb rb a b) (k:C2 cb rb b d):C2 cb rb a d:=
 ⟨k.os.trans h.os,k.tape.trans h.tape,k.output.trans h.output,Nat.le_trans h.size k.size,fun i hi hn nR=>(k.block i (by have:=h.size;omega) hn nR).trans (h.block i hi hn nR)⟩
theorem C2.of {cb rb:Nat} {W W':World} (h:aY cb W W'):C2 cb rb W W':=⟨h.os,h.tape,h.output,h.size,fun k hk hn _=>h.block k hk hn⟩
theorem C2.since {cb rb:Nat} {W W':World} (h:aa W W'):C2 cb rb W W':=.of ((aY.refl cb W).after h)
theorem C2.set (cb rb:Nat) (W:World) (x y z:Value):C2 cb rb W (ac5 W rb x y z):=by
 have h:CB rb W.heap.size W (ac5 W rb x y z):=(((CB.refl rb W.heap.size W).setCell (p:=⟨rb,0,none⟩) (.inr rfl) x).setCell (p:=⟨rb,1,none⟩) (.inr rfl) y).setCell (p:=⟨rb,2,none⟩) (.inr rfl) z;exact⟨h.os,h.tape,h.output,h.size,fun k hk _ hn=>h.block k hk hn⟩
theorem C2.net {cb rb B:Nat} {W W':World} (h:C2 cb rb W W') (hc:cb<B) (hr:rb<B) {ve vi vn:Value} {N:aw} {S:List Nat} (ho:au W B ve vi vn N S):au W' B ve vi vn N S:=
 ho.ac4 fun k hk=>h.block k (ho.range k hk).2 (by have:=(ho.range k hk).1;omega) (by have:=(ho.range k hk).1;omega)
theorem C2.cb {cb rb B:Nat} {w W W':World} (h:C2 cb rb W W') (h0:CB cb B w W) (hB:B<=rb) (hz:B<=W.heap.size):CB cb B w W':=
 h0.trans ⟨h.os,h.tape,h.output,h.size,fun k hk hn=>h.block k (by omega) hn (by omega)⟩
def yC (B:Nat) (xs:List Int) (u:Value) (W:World):Prop:=∃g q,u=.slice (some ⟨g,0,none⟩) xs.length q/\Own W B u xs
theorem yC.new {B:Nat} (W:World) (xs:List Int) (hm:xs.length<=maxLen) (hB:B<=W.heap.size):yC B xs (.slice (some ⟨W.heap.size,0,none⟩) xs.length xs.length) (W.alloc (.cells (xs.map (Value.int .i64)).toArray 3)):=
 ⟨_,_,rfl,(dv W xs hm).mono hB⟩
def Ml (z:Int) (u:Value) (_:World):Prop:=∃x:Nat,u=.int .i64 x/\(x=0\/(x:Int)<z)
def nT (v:Value) (u:Value) (_:World):Prop:=u=v
structure acJ (cb rb:Nat) (A:Option Addr) (L c P0 K nc:Nat) (wS:World) (T:World->Prop) (q:Nat) (W:World):Prop where
 cur:q<=nc->bB W cb A L c (P0+K*q)
 rel:C2 cb rb wS W
 box:q<=nc->bA W rb (.slice none 0 0) (.slice none 0 0) (.slice none 0 0)
 done:nc<q->T W
section
variable {cb rb : Nat} {A : Option Addr} {L c P0 K nc : Nat} {wS W W' : World} {T : World → Prop} {q : Nat}
end
theorem bA.ac5 {W:World} {b:Nat} {x y z:Value} (h:bA W b x y z) (x' y' z':Value):bA (Go.Proofs.YtnioemnkfojmkaaGreat.ac5 W b x' y' z') b x' y' z':=by
 unfold Go.Proofs.YtnioemnkfojmkaaGreat.ac5;exact((h.adl _).adr _).adn _
end Go.Proofs.YtnioemnkfojmkaaGreat
