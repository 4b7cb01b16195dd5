/- Parts of the proof: walks of functions and plain laws. -/
import Derived.Test.YtnioemnkfojmkaaGreatP21
set_option maxRecDepth 100000
set_option maxHeartbeats 16000000
namespace Go.Proofs.YtnioemnkfojmkaaGreat
open Go Go.RowKit
def supN (p:aq) (M:List (List Int)) (v i:Nat) (a:Int):Bool:=iZ p (M.getD v []) i a p.labels.toNat p.degree.toNat []
theorem LI (X:World) (u:Value) (t:TypeId) (N:Nat) (h:X.heap.size=N):(X.alloc (.cells #[u] t)).cell? ⟨N,0,none⟩=some u:=by
 subst h;simp
theorem Pd {w0 w2:World} {b4 b9 b6 b5 gl cl d i:Nat} {a:Int} (t:TypeId) (hs:ab w0 w2) (c9:w2.cell? ⟨b9,0,none⟩=some (.slice (some ⟨gl,0,none⟩) d cl)) (ho:Own w2 w0.heap.size (.slice (some ⟨gl,0,none⟩) d cl) (List.replicate d (-1))) (h9:b9≠gl) (hg:w0.heap.size<=gl) (hi:i<d):
  JD w0 b4 b9 b6 w2.heap.size b5 gl cl d i a 0 [] ((List.replicate d (-1)).set i a) ((w2.setCell ⟨gl,i,none⟩ (.int .i64 a)).alloc (.cells #[.func (.func 184) #[] #[.pointer (some ⟨b4,0,none⟩),.pointer (some ⟨b9,0,none⟩),.pointer (some ⟨b6,0,none⟩),.pointer (some ⟨w2.heap.size,0,none⟩),.pointer (some ⟨b5,0,none⟩)]] t)):=by
 have qz:=ad (W:=w2.setCell ⟨gl,i,none⟩ (.int .i64 a)) (.cells #[.func (.func 184) #[] #[.pointer (some ⟨b4,0,none⟩),.pointer (some ⟨b9,0,none⟩),.pointer (some ⟨b6,0,none⟩),.pointer (some ⟨w2.heap.size,0,none⟩),.pointer (some ⟨b5,0,none⟩)]] t) (aa _)
 refine⟨(show ab w0 (w2.setCell ⟨gl,i,none⟩ (.int .i64 a))from hs.setCell (p:=⟨gl,i,none⟩) hg _).after qz,(ae ?_) _ qz,?_,?_,zS,zS,by rw[Zav (by simpa using hi)]⟩
 ·rw[Zam (Zan _ _ _ b9 (by exact h9))];exact c9
 ·exact LI _ _ _ _ (by rw[iC])
 ·have h1:=ho.set (k:=i) a;have h2:Own (w2.setCell ⟨gl,i,none⟩ (.int .i64 a)) w0.heap.size (.slice (some ⟨gl,0,none⟩) d cl) ((List.replicate d (-1)).set i a):=by simpa using h1
  exact h2.since qz
theorem II (mb:Nat) (pa pb va vb vc vm:Value) (p:aq) (n:ao) (M:List (List Int)) (v i a:Nat) (w:World) (hB:fF w mb (Xf p pa pb va vb vc vm)) (hp:el w pa pb p) (hm:bS w vm M) (cC:bV p=true) (hM:uA n M) (hst:eR p.nodes) (iM:p.nodes.length<=1048576) {es:List (Int×Int)} (aU:n.ends[v]?=some es) (hi:i<es.length) (hd:(es.length:Int)=p.degree) (Zv:es.length<=4):
  Calls Tryz.prog 145 #[.pointer (some ⟨mb,0,none⟩),.int .i64 v,.int .i64 i,.int .i64 a] w fun e w'=>e=.returned (.bool (supN p M v i a))/\Below w.heap.size w w':=by
 obtain⟨eV,-⟩:=aE cC;obtain⟨row,x,aG,CK,hx,-,pc⟩:=hM.at aU hi;obtain⟨d,FW⟩:=J_ es.length
 obtain⟨lb,eK⟩:∃z:Nat,p.labels=(z:Int):=⟨p.labels.toNat,zO⟩
 have hpd:p.degree=(d:Int):=by rw[FW,hd]
 have ae1:Hid (supN p M v i a=iZ p row i a lb d []):=by
  show _=_
  unfold supN;rw[ag aG,eK,hpd];rfl
 obtain⟨AM,cM,rfl⟩:∃A c,vm=.slice A M.length c:=by obtain⟨A,c,e,-⟩:=hm;exact⟨A,c,e⟩
 obtain⟨bm,om,br,ob,zb,rfl,VV,-⟩:=kB hm aG hx
 have F7:∀(k:Nat) (y:Int),row[k]?=some y->w.cell? ⟨br,ob+k,none⟩=some (.int .i64 y):=fun k y hk=>by
  obtain⟨b1,o1,b2,o2,z1,e,c1,c2⟩:=kB hm aG hk;cases e;rw[c1]at VV;cases VV;exact c2
 obtain⟨d0,d1,d2,d3,-,-,-,d7⟩:=eC hB;rw[eK]at d0;rw[hpd]at d1;rw[CK,<- FW]at VV;obtain⟨b4,pu⟩:=J_ w.heap.size
 obtain⟨Gf,rO⟩:=J_ (w.alloc (.cells #[.pointer (some ⟨mb,0,none⟩)] 114))
 have Tx:Gf.heap.size=b4+1:=by rw[rO,pu];simp
 have rP:ab w Gf:=by rw[rO];exact ad _ (aa _)
 have k4':Gf.cell? ⟨b4,0,none⟩=some (.pointer (some ⟨mb,0,none⟩)):=by rw[rO,pu];simp
 obtain⟨Ty,BF⟩:=J_ (Gf.alloc (.cells #[.int .i64 v] 3))
 have Tz:Ty.heap.size=b4+1+1:=by rw[BF];simp;omega
 have wX:ab Gf Ty:=by rw[BF];exact ad _ (aa _)
 have k5':Ty.cell? ⟨b4+1,0,none⟩=some (.int .i64 v):=by rw[BF,<- Tx];simp
 obtain⟨w0,bj⟩:=J_ (Ty.alloc (.cells #[.int .i64 i] 3))
 have e_:w0.heap.size=b4+3:=by rw[bj];simp;omega
 have IJ:ab Ty w0:=by rw[bj];exact ad _ (aa _)
 have k6:w0.cell? ⟨b4+1+1,0,none⟩=some (.int .i64 i):=by rw[bj,<- Tz];simp
 have k4:=(ae k4') w0 (wX.after IJ);have k5:=(ae k5') w0 IJ;have aK:ab w w0:=(rP.after wX).after IJ;have P4:=ae k4;have P5:=ae k5;have P6:=ae k6;have ic:=zh aK;have D0:=fun W (hW:ab w0 W)=>(ae d0) W (aK.after hW)
 have D1:=fun W (hW:ab w0 W)=>(ae d1) W (aK.after hW)
 have D2:=fun W (hW:ab w0 W)=>(ae d2) W (aK.after hW)
 have D3:=fun W (hW:ab w0 W)=>(ae d3) W (aK.after hW)
 have D7:=fun W (hW:ab w0 W)=>(ae d7) W (aK.after hW)
 have DW:=fun W (hW:ab w0 W)=>(ae VV) W (aK.after hW)
 have DR:Hid (∀(k:Nat) (y:Int),row[k]?=some y->∀W,ab w0 W->W.cell? ⟨br,ob+k,none⟩=some (.int .i64 y)):=fun k y hk W hW=>(ae (F7 k y hk)) W (aK.after hW)
 have DP:Hid (∀W,ab w0 W->el W pa pb p):=fun W hW=>hp.agU (aK.after hW)
 have cD:Hid (((w.alloc (.cells #[.pointer (some ⟨mb,0,none⟩)] 114)).alloc (.cells #[.int .i64 v] 3)).alloc (.cells #[.int .i64 i] 3)=w0):=by show _=_;rw[bj,BF,rO]
 obtain⟨j5,iS,ka,Hpd⟩:=C_ pu e_ eK hpd
 have yD:Hid (row.length=d):=by show _=_;rw[CK,FW]
 obtain⟨dT,HM,nr⟩:=B_ aG hM hst;have hid:i<d:=zO
 have hd5:d<=4:=zO
 have pY:1<=lb/\lb<=8:=zO
 have Hvl:Hid (v<M.length):=ah aG;clear k4' k5' k4 k5 k6 rP wX IJ rO BF bj Tx Tz e_ pu aK d0 d1 d2 d3 d7 VV F7 hB hp hm cC hM hst aU hi hd Zv eV aG CK hx pc eK hpd FW
 go_enter Tryz.func145,Tryz.ntmps145
 go_upto_region 1 with(fail);rw[cD.out,<- j5.out];have Pc:ab w0 w0:=aa _;go_wp2_with fail;refine(Ak w0.heap.size 1 (-1) d _ zO zS).mono ?_;rintro e w1 ⟨u,rfl,gL,aP⟩;have qz:ab w0 (w0.alloc (.cells #[.int .i64 (-1)] 3)):=ad _ Pc;rcases gL.cases with⟨rfl,h0⟩ | ⟨gl,cl,rfl,tC,ut⟩
 ·exfalso
  have:=congrArg List.length h0
  simp at this
  omega
 simp only[Zbb]at gL ⊢
 have dw:ab w0 w1:=qz.after aP;obtain⟨w2,ip⟩:=J_ (w1.alloc (.cells #[.slice (some ⟨gl,0,none⟩) d cl] 28))
 obtain⟨b9,lO⟩:=J_ w1.heap.size
 have qT:ab w1 w2:=by rw[ip];exact ad _ (aa _)
 have c9:w2.cell? ⟨b9,0,none⟩=some (.slice (some ⟨gl,0,none⟩) d cl):=by rw[ip,lO];simp
 obtain⟨yH,vC⟩:=A_ ip lO;have agG:w0.heap.size<gl:=Zal zS tC
 have agH:gl<b9:=by rw[lO];exact ut
 have dD:=Own.mono (gL.since qT) (show w0.heap.size<=(w0.alloc (.cells #[.int .i64 (-1)] 3)).heap.size from qz.below.size);have hci:(List.replicate d (-1:Int))[i]?=some (-1):=by rw[Zch,if_pos hid]
 have ci:=dD.cell hci;have fi:=dD.free i;have fH:ab w0 w2:=dw.after qT;obtain⟨mg,eU⟩:=A_ dD fH;have p6:=P6 w2 fH;clear gL aP qz Pc dw qT ip lO hci dD tC ut;go_upto_region 2 with(fail);rw[<- yH.out,<- vC.out];go_wp2_with fail
 have hC:FlC w0 mb b4 b9 (b4+1+1) w2.heap.size (b4+1) gl cl d bm om br ob zb M.length cM lb p pa pb row v i (a:Int):=
  ⟨P4,P6,P5,D0,D1,D2,D3,D7,DW,DR,DP,nr,iM,yD,fun k y hk=>HM.rng v row k y dT hk,ka,Hpd,pY,hd5,hid,Hvl,zO,by have:=(Zad mg gl (by simp[Value.ownBlock])).2;omega,zO,zO,eU.out.below.size⟩
 have kZ:=Tw hC d 0 [] ((List.replicate d (-1)).set i (a:Int)) _ zO rfl (Pd 78 eU c9 mg zO zO hid);rw[show(((0:Nat):Int))=0 from rfl]at kZ;refine kZ.mono ?_;rintro e w3 ⟨rfl,L1,nq⟩;have ym:=zh (ic.out.after nq.sn);clear hC kZ nq c9 ci fi p6;go_wp2;go_ret;exact⟨bG (by rw[ae1.out]),ym⟩
def Sub (s M:List (List Int)):Prop:=∀v i,ax s v i->aO (ak M v i) (ak s v i).toNat=true
structure lR (p:aq) (n:ao) (s:List (List Int)):Prop where
 shp:dv n s
 rng:∀v i,ax s v i->0<=ak s v i/\ak s v i<=p.labels-1
 held:f7 p n.ends s=true
theorem lR.of {p:aq} {n:ao} {l s:List (List Int)} (hs:dv n l) (h:C0 p n l s):lR p n s:=
 ⟨hs.same h.shp,fun v i hi=>h.rng v i (hi.same h.shp.symm),h.held⟩
theorem TA {p:aq} {n:ao} {s M:List (List Int)} (hn:ar n=true) (h:lR p n s) (hM:Sub s M) {v i:Nat} (hi:ax s v i):s_ p n M v i (ak s v i)=true:=by
 have hv:v<s.length:=hi.lt;obtain⟨-,h2⟩:=(eO.1 h.held) v hv;have hp:=h2 i hi;obtain⟨m1,m2,m3⟩:=pT hn h.shp hi;have r1:=h.rng v i hi;have r2:=h.rng _ _ m1
 have he:edgeB p (ak s v i) (ak s (cF n v i).1 (cF n v i).2)=true:=by
  unfold tK at hp;simp only[Zbp,decide_eq_true_eq]at hp;rcases hp with h | h | h
  ·omega
  ·omega
  ·exact h
 unfold s_
 split
 ·rename_i he2
  rw[m3]at he2
  have e1:(cF n v i).1=v:=by have:=congrArg Prod.fst he2;simp at this;omega
  have e2:(cF n v i).2=i:=by have:=congrArg Prod.snd he2;simp at this;omega
  rw[e1,e2]at he;exact he
 ·rw[Zcg];refine⟨(ak s (cF n v i).1 (cF n v i).2).toNat,Zab.2 zO,?_⟩;rw[hM _ _ m1,show(((ak s (cF n v i).1 (cF n v i).2).toNat:Nat):Int)=ak s (cF n v i).1 (cF n v i).2 by omega,he]
  rfl
theorem TB {p:aq} {row rQ:List Int} {i:Nat} {a:Int} {L:Nat} (hl:row.length=rQ.length) (hi:rQ[i]?=some a) (hb:∀(k:Nat) (x:Int),rQ[k]?=some x->0<=x/\x<(L:Int)/\aO (row.getD k 0) x.toNat=true) (hc:p.nodes.contains (dz rQ)=true):
  ∀(r:Nat) (xs:List Int),xs.length+r=rQ.length->rQ.take xs.length=xs->iZ p row i a L r xs=true:=by
 intro r
 induction r with
 | zero=>
  intro xs h1 h2
  have:xs=rQ:=by rw[<- h2,Zbz zO]
  rw[iZ,this];exact hc
 | succ r ih=>
  intro xs h1 h2;obtain⟨x,hx⟩:=au rQ xs.length zO
  have TC:rQ.take (xs.length+1)=xs++[x]:=by rw[List.take_add_one,h2,hx];rfl
  rw[iZ]
  by_cases hk:xs.length=i
  ·rw[if_pos hk]
   have e:x=a:=by rw[hk,hi]at hx;exact(Zbx hx).symm
   rw[e]at TC
   exact ih (xs++[a]) (by simp;omega) (by rw[Zay];exact TC)
  ·rw[if_neg hk,Zcg];obtain⟨b1,b2,b3⟩:=hb _ x hx;refine⟨x.toNat,Zab.2 zO,?_⟩
   rw[b3,show((x.toNat:Nat):Int)=x by omega,ih (xs++[x]) (by simp;omega) (by rw[Zay];exact TC)]
   rfl
theorem TF {p:aq} {n:ao} {s M:List (List Int)} (hp:bV p=true) (h:lR p n s) (hM:Sub s M) (hMs:dv n M) {v i:Nat} (hi:ax s v i) (hd:((n.ends.getD v []).length:Int)=p.degree):supN p M v i (ak s v i)=true:=by
 have hv:v<s.length:=hi.lt;obtain⟨h1,-⟩:=(eO.1 h.held) v hv;obtain⟨rQ,eD⟩:=au s v hv;have Z0:rQ.length=(n.ends.getD v []).length:=gz h.shp eD
 obtain⟨row,aG⟩:=au M v (by rw[hMs.1,<- h.shp.1];exact hv)
 have nd:row.length=(n.ends.getD v []).length:=gz hMs aG;have e1:s.getD v []=rQ:=ag eD;have e2:M.getD v []=row:=ag aG
 have dU:∀(k:Nat) (x:Int),rQ[k]?=some x->ak s v k=x/\ax s v k:=fun k x hk=>by
  refine⟨by unfold ak;rw[e1,ag hk],by unfold ax;rw[e1];exact ah hk⟩
 have hix:rQ[i]?=some (ak s v i):=by
  obtain⟨x,hx⟩:=au rQ i (by unfold ax at hi;rw[e1]at hi;exact hi)
  rw[(dU i x hx).1,hx]
 have hnn:∀x∈rQ,0<=x:=fun x hx=>by
  obtain⟨k,hk⟩:=List.getElem?_of_mem hx;obtain⟨c1,c2⟩:=dU k x hk
  have:=h.rng v k c2
  omega
 have hc:p.nodes.contains (dz rQ)=true:=by
  rw[e1,kG hp hnn]at h1;unfold l_ at h1;simp only[Zbp]at h1;rcases h1 with h1 | h1
  ·exfalso
   rw[Z0,hd]at h1;simp at h1
  ·exact h1
 unfold supN;rw[e2]
 refine TB (by rw[nd,Z0]) hix (fun k x hk=>?_) hc _ [] (by simp;omega) rfl
 obtain⟨c1,c2⟩:=dU k x hk;have r1:=h.rng v k c2;have r2:=hM v k c2;unfold ak at r2;rw[e2,e1,ag hk]at r2;exact⟨zO,zO,r2⟩
def BG (M:List (List Int)):Nat:=(M.map fun r=>(r.map Int.toNat).sum).sum
theorem MU {l:List Nat} {k x y:Nat} (h:l[k]?=some x) (hy:y<x):(l.set k y).sum<l.sum:=by
 induction l generalizing k with
 | nil=>simp at h
 | cons z l ih=>
  cases k with
  | zero=>simp at h;subst h;simp;omega
  | succ k=>simp at h;have:=ih h;simp;omega
theorem IK {M:List (List Int)} {v i:Nat} {row:List Int} {x y:Int} (hv:M[v]?=some row) (hi:row[i]?=some x) (h0:0<=y) (hy:y<x):BG (M.set v (row.set i y))<BG M:=by
 unfold BG;rw[List.map_set]
 refine MU (x:=(row.map Int.toNat).sum) (by rw[Zbr,hv];rfl) ?_
 rw[List.map_set]
 exact MU (x:=x.toNat) (by rw[Zbr,hi];rfl) zO
theorem eJ {M:List (List Int)} {v i:Nat} {row:List Int} {y:Int} (hv:M[v]?=some row) (hi:i<row.length) (u j:Nat):ak (M.set v (row.set i y)) u j=if u=v/\j=i then y else ak M u j:=by
 unfold ak;simp only[zDd,Zci]
 by_cases e:v=u
 ·subst e;rw[if_pos rfl,if_pos (ah hv)];simp only[Option.getD_some,hv,Zci]
  by_cases e2:i=j
  ·subst e2;rw[if_pos rfl,if_pos hi];simp
  ·rw[if_neg e2];have e3:¬j=i:=fun h=>e2 h.symm
   simp[e3]
 ·rw[if_neg e];have e3:¬u=v:=fun h=>e h.symm
  simp[e3]
theorem Ee {s M:List (List Int)} {v i b:Nat} {row:List Int} {x y:Int} (h:Sub s M) (hv:M[v]?=some row) (hi:row[i]?=some x) (hb:∀c,c<8->aO y c=(aO x c && !decide (c=b))) (hr:∀u j,ax s u j->(ak s u j).toNat<8) (hn:ax s v i->(ak s v i).toNat≠b):Sub s (M.set v (row.set i y)):=fun u j hj=>by
 rw[eJ hv (ah hi)]
 split
 ·rename_i e
  obtain⟨rfl,rfl⟩:=e;rw[hb _ (hr _ _ hj)];have h1:=h _ _ hj
  have e1:ak M u j=x:=by unfold ak;rw[ag hv,ag hi]
  rw[e1]at h1;rw[h1];simpa using hn hj
 ·exact h u j hj
theorem IL {x:Int} {b:Nat} (hx:0<=x/\x<256) (hb:b<8):∃y:Int,bits BinOp.andNot IntKind.i64 x (IntKind.i64.wrap (2^b))=y/\(0<=y/\y<256)/\(∀c,c<8->aO y c=(aO x c && !decide (c=b)))/\(aO x b=true->y<x):=by
 obtain⟨y,h1,h2⟩:=Xd hx hb;rw[Int.one_mul]at h1;exact⟨y,h1,h2⟩
def ta (p:aq) (n:ao) (M:List (List Int)) (v i:Nat) (a:Int):Bool:=s_ p n M v i a&&(!decide (((n.ends.getD v []).length:Int)=p.degree)||supN p M v i a)
def Dn (p:aq) (n:ao) (M:List (List Int)) (lb v i a:Nat):Prop:=∀u j c:Nat,c<lb->ax M u j->(u<v\/u=v/\(j<i\/j=i/\c<a))->aO (ak M u j) c=true->ta p n M u j (c:Int)=true
theorem Dn.step {p:aq} {n:ao} {M:List (List Int)} {lb v i a:Nat} (h:Dn p n M lb v i a) (h':aO (ak M v i) a=true->ta p n M v i (a:Int)=true):Dn p n M lb v i (a+1):=fun u j c hc hi hl hb=>by
 rcases hl with h1 | ⟨h1,h2 | ⟨h2,h3⟩⟩
 ·exact h u j c hc hi (.inl h1) hb
 ·exact h u j c hc hi (.inr ⟨h1,.inl h2⟩) hb
 ·rcases Zbi c a with h4 | h4
  ·exact h u j c hc hi (.inr ⟨h1,.inr ⟨h2,h4⟩⟩) hb
  ·obtain rfl:c=a:=zO
   subst h1 h2;exact h' hb
theorem Dn.port {p:aq} {n:ao} {M:List (List Int)} {lb v i:Nat} (h:Dn p n M lb v i lb):Dn p n M lb v (i+1) 0:=fun u j c hc hi hl hb=>by
 refine h u j c hc hi ?_ hb;rcases hl with h1 | ⟨h1,h2 | ⟨h2,h3⟩⟩
 ·exact .inl h1
 ·exact .inr ⟨h1,zO⟩
 ·omega
theorem Dn.node {p:aq} {n:ao} {M:List (List Int)} {lb v i:Nat} (h:Dn p n M lb v i 0) (hl:¬ax M v i):Dn p n M lb (v+1) 0 0:=fun u j c hc hi hx hb=>by
 refine h u j c hc hi ?_ hb;rcases hx with h1 | ⟨h1,h2 | ⟨h2,h3⟩⟩
 ·rcases Zbi u v with h4 | h4
  ·exact .inl h4
  ·obtain rfl:u=v:=zO
   right
   unfold ax at hl hi;exact⟨rfl,.inl zO⟩
 ·omega
 ·omega
structure IM (wS:World) (mb g cm m:Nat) (p:aq) (pa pb va vb vc:Value) (M:List (List Int)) (S:List Nat) (W:World):Prop where
 sn:ab wS W
 bx:fF W mb (Xf p pa pb va vb vc (.slice (some ⟨g,0,none⟩) m cm))
 ow:bu W wS.heap.size (.slice (some ⟨g,0,none⟩) m cm) M S
 nm:mb∉S
 mS:wS.heap.size<=mb
section
variable {wS W W' : World} {mb g cm m : Nat} {p : aq} {pa pb va vb vc : Value} {M : List (List Int)} {S : List Nat}
theorem IM.agU (h:IM wS mb g cm m p pa pb va vb vc M S W) (hs:ab W W'):IM wS mb g cm m p pa pb va vb vc M S W':=
 ⟨h.sn.after hs,h.bx.below hs.below h.bx.lt,aL.agU h.ow hs.below,h.nm,h.mS⟩
theorem IM.put (h:IM wS mb g cm m p pa pb va vb vc M S W) {v i:Nat} {row:List Int} {x:Int} (hv:M[v]?=some row) (hi:row[i]?=some x):
  ∃gr cr,W.cell? ⟨g,v,none⟩=some (.slice (some ⟨gr,0,none⟩) row.length cr)/\W.cell? ⟨gr,i,none⟩=some (.int .i64 x)/\W.frozen? ⟨gr,i,none⟩=false/\∀y,IM wS mb g cm m p pa pb va vb vc (M.set v (row.set i y)) S (W.setCell ⟨gr,i,none⟩ (.int .i64 y)):=by
 obtain⟨gr,cr,h1,h2,h3,h4,h5,h6⟩:=eY h.ow hv hi
 exact⟨gr,cr,h1,h2,h3,fun y=>⟨h.sn.setCell (p:=⟨gr,i,none⟩) (aL.range h.ow gr h4).1 _,h.bx.set (fun e=>h.nm (by have e:gr=mb:=e;exact e ▸ h4)),h6 y,h.nm,h.mS⟩⟩
end
theorem uA.put {n:ao} {M:List (List Int)} (h:uA n M) {v i:Nat} {row:List Int} {y:Int} (hv:M[v]?=some row) (hy:0<=y/\y<256):uA n (M.set v (row.set i y)):=by
 refine⟨sK y h.shp hv,fun u r j x hu hj=>?_⟩
 rw[Zci]at hu
 by_cases e:v=u
 ·subst e;rw[if_pos rfl,if_pos (ah hv)]at hu;cases hu;rw[Zci]at hj
  by_cases e2:i=j
  ·rw[if_pos e2]at hj
   split at hj
   ·cases hj;exact hy
   ·cases hj
  ·rw[if_neg e2]at hj;exact h.rng v row j x hv hj
 ·rw[if_neg e]at hu;exact h.rng u r j x hu hj
def pj (p:aq) (n:ao) (M:List (List Int)) (lb v i a:Nat) (t:Value) (M':List (List Int)):Prop:=uA n M'/\((∀s,lR p n s->Sub s M->Sub s M')/\∀u j c:Nat,c<8->aO (ak M' u j) c=true->aO (ak M u j) c=true)/\((t=.bool false/\M'=M/\Dn p n M lb v i a)\/(t=.bool true/\BG M'<BG M))
theorem pj.port {p:aq} {n:ao} {M M':List (List Int)} {lb v i:Nat} {t:Value} (h:pj p n M lb v i lb t M'):pj p n M lb v (i+1) 0 t M':=⟨h.1,h.2.1,h.2.2.imp (fun q=>⟨q.1,q.2.1,q.2.2.port⟩) id⟩
theorem pj.node {p:aq} {n:ao} {M M':List (List Int)} {lb v i:Nat} {t:Value} (h:pj p n M lb v i 0 t M') (hl:¬ax M' v i):pj p n M lb (v+1) 0 0 t M':=⟨h.1,h.2.1,h.2.2.imp (fun q=>⟨q.1,q.2.1,q.2.2.node (q.2.1 ▸ hl)⟩) id⟩
theorem pj.skip {p:aq} {n:ao} {M M':List (List Int)} {lb v i a:Nat} {t:Value} (h:pj p n M lb v i a t M') (h':aO (ak M' v i) a=true->ta p n M' v i (a:Int)=true):pj p n M lb v i (a+1) t M':=⟨h.1,h.2.1,h.2.2.imp (fun q=>⟨q.1,q.2.1,q.2.2.step (q.2.1 ▸ h')⟩) id⟩
theorem pj.cut {p:aq} {n:ao} {M M':List (List Int)} {lb v i a:Nat} {t:Value} (h:pj p n M lb v i a t M') (hp:bV p=true) (hn:ar n=true) (eK:p.labels<=8) {row:List Int} {x y:Int} (hv:M'[v]?=some row) (hi:row[i]?=some x) (hy:0<=y/\y<256) (hb:∀c,c<8->aO y c=(aO x c && !decide (c=a))) (aA:y<x) (i_:ta p n M' v i (a:Int)=false):pj p n M lb v i (a+1) (.bool true) (M'.set v (row.set i y)):=by
 refine⟨h.1.put hv hy,⟨fun s hs hM=>?_,fun u j c hc t_=>?_⟩,.inr ⟨rfl,?_⟩⟩
 ·have h1:=h.2.1.1 s hs hM
  refine Ee h1 hv hi hb (fun u j hj=>zX (hs.rng u j hj)) fun hj e=>?_
  have ea:ak s v i=(a:Int):=zX (hs.rng v i hj)
  have h2:=TA hn hs h1 hj;rw[ea]at h2;unfold ta at i_;rw[h2,Bool.true_and]at i_;simp only[Zbn,Zbo,decide_eq_true_eq]at i_;have h3:=TF hp hs h1 h.1.shp hj i_.1;rw[ea]at h3;rw[h3]at i_;cases i_.2
 ·rw[eJ hv (ah hi)]at t_
  split at t_
  ·rename_i e
   obtain⟨rfl,rfl⟩:=e;rw[hb c hc]at t_
   have e1:ak M' u j=x:=by unfold ak;rw[ag hv,ag hi]
   refine h.2.1.2 u j c hc ?_;rw[e1];simp only[Zai]at t_;exact t_.1
  ·exact h.2.1.2 u j c hc t_
 ·have h4:=IK hv hi hy.1 aA;rcases h.2.2 with q | q
  ·rw[<- q.2.1];exact h4
  ·omega
theorem LJ (wS:World) (mb g cm:Nat) (p:aq) (pa pb va vb vc:Value) (n:ao) (M:List (List Int)) (S:List Nat) (w:World) (hK:IM wS mb g cm n.ends.length p pa pb va vb vc M S w) (hM:uA n M) (cC:bV p=true) (hn:ar n=true) (hp:el wS pa pb p) (h:aR wS va vb vc n) (hst:eR p.nodes) (iM:p.nodes.length<=1048576) (gM:p.agW.length<=1048576):
  Calls Tryz.prog 95 #[.pointer (some ⟨mb,0,none⟩)] w fun e w'=>∃(sh:Bool) (M':List (List Int)),e=.returned (.bool sh)/\IM wS mb g cm n.ends.length p pa pb va vb vc M' S w'/\pj p n M p.labels.toNat n.ends.length 0 0 (.bool sh) M':=by
 obtain⟨eV,-⟩:=aE cC;obtain⟨iX,iz⟩:=eX hn;obtain⟨lb,eK⟩:∃z:Nat,p.labels=(z:Int):=⟨p.labels.toNat,zO⟩
 obtain⟨m,hm⟩:=J_ n.ends.length
 rw[show p.labels.toNat=lb from by omega]
 rw[<- hm]at hK ⊢;have pY:1<=lb/\lb<=8:=zO
 have TG:m<=40:=zO
 have ri:1<=p.degree/\p.degree<=4:=by
  have h9:=cC;unfold bV at h9;simp only[Zai,aB]at h9;exact h9.2.1
 obtain⟨jB,Hn,H6,ka,Hm,HP,HN,nr,HM⟩:=H_ cC hn iz eK hm hp h hst hM;obtain⟨HK,ae2⟩:=A_ hK ri;have k7:=(eC hK.bx).2.2.2.2.2.2.2;clear cC hn iz eV eK hm iX hp h hst hM hK ri
 go_enter Tryz.func95,Tryz.ntmps95
 go_upto_region 3 with(fail);clear k7
 go_loopw [3,12] (fun t i wr=>∃(v:Nat) (M':List (List Int)),v<=m/\i=.int .i64 v/\IM wS mb g cm m p pa pb va vb vc M' S wr/\pj p n M lb v 0 0 t M') (fun _ i _=>m-(intOf i).toNat)
 case atStart=>exact⟨0,M,Zac _,rfl,HK,HM,⟨fun s _ h=>h,fun _ _ _ _ h=>h⟩,.inl ⟨rfl,rfl,fun u j c _ _ hl=>zO⟩⟩
 case round=>
  clear HK;obtain⟨v,M',hv,rfl,hK,hR⟩:=hrel;obtain⟨HK,HR⟩:=A_ hK hR;have k7:=(eC hK.bx).2.2.2.2.2.2.2;clear hK hR
  by_cases aA:v<m
  ·have m1:=zw v
   obtain⟨es,aU⟩:=au n.ends v (by rw[<- Hm.out];exact aA)
   obtain⟨q,hq⟩:=J_ es.length
   have hq6:q<=6:=by rw[hq];exact H6 v es aU
   obtain⟨row,aG⟩:=au M' v (by rw[HR.out.1.shp.1,<- Hm.out];exact aA)
   have hrq:row.length=q:=by rw[gz HR.out.1.shp aG,ag aU,hq]
   obtain⟨AR,cR,pd,-,-,DJ⟩:=mo HK.ow aG;rw[hrq]at pd;obtain⟨ni,Hq⟩:=A_ aU hq;have HqI:Hid (∀M2,uA n M2->(M2.getD v []).length=q):=fun M2 h2=>by rw[h2.shp.2 v,ag aU,hq]
   obtain⟨wo,rfl⟩:=J_ wr
   clear aU hq aG hrq;go_upto_region 6 with(fail);clear pd k7
   go_loopw [3,23] (fun t i wr=>∃(j:Nat) (M':List (List Int)),j<=q/\i=.int .i64 j/\IM wS mb g cm m p pa pb va vb vc M' S wr/\pj p n M lb v j 0 t M') (fun _ i _=>q-(intOf i).toNat)
   case atStart=>exact⟨0,M',Zac _,rfl,HK,HR⟩
   case round=>
    clear HK HR;obtain⟨j,M',hj,rfl,hK,hR⟩:=hrel;obtain⟨HK,HR⟩:=A_ hK hR;have k0:=(eC hK.bx).1;rw[ka.out]at k0;clear hK hR
    by_cases ij:j<q
    ·have m2:=zw j;obtain⟨wo2,rfl⟩:=J_ wr
     go_upto_region 9 with(fail);clear k0
     go_loopw [3,31] (fun t i wr=>∃(a:Nat) (M':List (List Int)),a<=lb/\i=.int .i64 a/\IM wS mb g cm m p pa pb va vb vc M' S wr/\pj p n M lb v j a t M') (fun _ i _=>lb-(intOf i).toNat)
     case atStart=>exact⟨0,M',Zac _,rfl,HK,HR⟩
     case round=>
      clear HK HR;obtain⟨a,M',ha,rfl,hK,hR⟩:=hrel;obtain⟨HK,HR⟩:=A_ hK hR;clear hK hR
      by_cases Xg:a<lb
      ·have m3:=zw a
       obtain⟨row,x,aG,nd,hx,ti,pc⟩:=HR.out.1.at ni.out (show j<es.length by rw[<- Hq.out];exact ij)
       rw[<- Hq.out]at nd;obtain⟨gr,cr,h1,h2,h3,kh⟩:=HK.put aG hx;rw[nd]at h1;obtain⟨z,hz,dP,e_,Xh⟩:=rK pc (show a<8 by omega)
       obtain⟨yN,iS,dT,yD,Hx,YX,Il,TH⟩:=G_ dP e_ aG nd hx pc kh ti;obtain⟨-,-,-,-,-,-,-,k7⟩:=eC HK.bx;obtain⟨wi,rfl⟩:=J_ wr
       obtain⟨H2,H3,H1⟩:=B_ h2 h3 h1;clear dP e_ aG hx pc kh ti nd h3;cases oc:aO x a
       ·have D9:(z=0)=True:=by rw[iS.out oc];simp
        have Qj:(z==0)=true:=by rw[iS.out oc];rfl
        go_wp2;go_roundw
        exact⟨a+1,M',zO,zN,HK,HR.skip (fun hb=>by rw[TH.out,oc]at hb;cases hb)⟩
        simp[intOf];omega
       ·have D9:(z=0)=False:=by rw[yN.out oc];simp
        have Qj:(z==0)=false:=by rw[yN.out oc];rfl
        go_upto_region 12 with(fail);clear hz D9 Qj h1 h2 k7
        have Qk:=zh (show ∀W,ab wi W->Calls Tryz.prog 144 #[.pointer (some ⟨mb,0,none⟩),.int .i64 v,.int .i64 j,.int .i64 a] W fun e w'=>e=.returned (.bool (s_ p n M' v j (a:Int)))/\Below W.heap.size W w' from fun W hW=>by
         have hk:=HK.agU hW
         exact IG mb pa pb va vb vc _ p n M' v j a W hk.bx (HP.agU hk.sn) (HN.agU hk.sn.below) hk.ow.read jB Hn HR.1 gM ni (by rw[<- Hq.out];exact ij))
        have b7:=ae (eC HK.bx).2.2.2.2.2.2.2;have b1:=ae (eC HK.bx).2.1;have bw:=ae H1
        by_cases lP:(q:Int)=p.degree
        ·have HcN:=zh (show ∀W,ab wi W->Calls Tryz.prog 145 #[.pointer (some ⟨mb,0,none⟩),.int .i64 v,.int .i64 j,.int .i64 a] W fun e w'=>e=.returned (.bool (supN p M' v j (a:Int)))/\Below W.heap.size W w' from fun W hW=>by
          have hk:=HK.agU hW
          exact II mb pa pb va vb vc _ p n M' v j a W hk.bx (HP.agU hk.sn) hk.ow.read jB HR.1 nr iM ni (by rw[<- Hq.out];exact ij) (by rw[<- Hq.out];exact lP) (by rw[<- Hq.out];have:=ae2.out;omega))
         have hdb:((q:Int)==p.degree)=true:=by rw[lP];simp
         have hdp:((q:Int)=p.degree)=True:=by simp[lP]
         have uz:Hid (((n.ends.getD v []).length:Int)=p.degree):=by show _=_;rw[ag ni.out,<- Hq.out];exact lP
         clear lP;refine ap 30 (ab wi) zK zK zS (aj (aa _)) ?_;simp only[zT]
         iterate 4 (refine ch rfl ?_;simp only[zA])
         apply dE _ rfl;(intro W hW;unfold a_;go_simp;with_reducible exact zQ (Qk.out W hW));simp only[zA]
         iterate 2 (refine ch rfl ?_;simp only[zA])
         iterate 15 (refine iT rfl rfl ?_;simp only[zA])
         iterate 4 (apply iI rfl rfl;(intro hb aS;intro W hW;go_simp;with_reducible rfl);simp only[zA])
         apply oI rfl rfl;(intro hb aS;intro W hW;unfold a_;go_simp;with_reducible exact zQ (HcN.out W hW));simp only[zA]
         apply iI rfl rfl;(intro hb aS;intro W hW;go_simp;with_reducible rfl);simp only[zA]
         refine oJ rfl rfl rfl ?_;simp only[zA]
         (first | refine db rfl rfl ?_ | (refine ch rfl ?_));simp only[zA]
         intro W hW;have Ql:=zh (HK.out.agU hW);clear hW b7 b1 bw
         cases hG:(!s_ p n M' v j (a:Int)||true && !supN p M' v j (a:Int))
         ·have TI:ta p n M' v j (a:Int)=true:=by
           unfold ta
           revert hG
           cases s_ p n M' v j (a:Int) <;> cases supN p M' v j (a:Int) <;> simp
          go_wp2;go_roundw
          exact⟨a+1,M',zO,zN,Ql,HR.skip (fun _=>TI)⟩
          simp[intOf];omega
         ·have i_:ta p n M' v j (a:Int)=false:=by
           unfold ta;rw[uz.out]
           revert hG
           cases s_ p n M' v j (a:Int) <;> cases supN p M' v j (a:Int) <;> simp
          obtain⟨y,hy,qv,Iy,IN⟩:=IL YX.out (show a<8 by omega)
          obtain⟨Vn,WX,a1,a2,-,-⟩:=Ql.put dT Hx;rw[yD.out]at a1;have b7:=ae (eC Ql.bx).2.2.2.2.2.2.2;have b1:=ae a1;have b2:=ae a2;obtain⟨IP,Vj,TJ⟩:=B_ qv Iy IN;have m64:min a 64=a:=zO
          clear a1 a2 qv Iy IN;go_upto_region 13 with(fail);refine ap 14 (ab W) zK zK zS (aj (aa _)) ?_;simp only[zT]
          iterate 14 (refine ch rfl ?_;simp only[zA])
          intro W2 pt;have MV:=Ql.agU pt;obtain⟨gr3,cr3,a1,a2,a3,kh⟩:=MV.put dT Hx;have yP:=b1 W2 pt;rw[yD.out,yP]at a1
          injection a1 with a1
          injection a1 with a1 a4 a5
          injection a1 with a1
          injection a1 with a1
          subst a1;have HKf:=zh (kh y);clear kh pt b7 b1 b2 yP a4 a5 MV;go_wp2;go_roundw
          exact⟨a+1,_,zO,zN,HKf.out,HR.out.cut jB.out Hn.out (zX ka.out) dT.out Hx.out IP.out Vj.out (TJ.out oc) i_⟩
          simp[intOf];omega
        ·have hdb:((q:Int)==p.degree)=false:=by rw[beq_eq_false_iff_ne];exact lP
         have hdp:((q:Int)=p.degree)=False:=by simp[lP]
         have uz:Hid (¬((n.ends.getD v []).length:Int)=p.degree):=by show ¬_;rw[ag ni.out,<- Hq.out];exact lP
         clear lP;refine ap 30 (ab wi) zK zK zS (aj (aa _)) ?_;simp only[zT]
         iterate 4 (refine ch rfl ?_;simp only[zA])
         apply dE _ rfl;(intro W hW;unfold a_;go_simp;with_reducible exact zQ (Qk.out W hW));simp only[zA]
         iterate 2 (refine ch rfl ?_;simp only[zA])
         iterate 15 (refine iT rfl rfl ?_;simp only[zA])
         iterate 4 (apply iI rfl rfl;(intro hb aS;intro W hW;go_simp;with_reducible rfl);simp only[zA])
         apply oI rfl rfl;(intro hb aS;intro W hW;unfold a_;go_simp;with_reducible exact zQ ((show Calls Tryz.prog 145 #[.pointer (some ⟨mb,0,none⟩),.int .i64 v,.int .i64 j,.int .i64 a] W fun e w'=>e=.returned (.bool (supN p M' v j (a:Int)))/\Below W.heap.size W w' from absurd aS zS)));simp only[zA]
         apply iI rfl rfl;(intro hb aS;intro W hW;go_simp;with_reducible rfl);simp only[zA]
         refine oJ rfl rfl rfl ?_;simp only[zA]
         (first | refine db rfl rfl ?_ | (refine ch rfl ?_));simp only[zA]
         intro W hW;have Ql:=zh (HK.out.agU hW);clear hW b7 b1 bw
         cases hG:(!s_ p n M' v j (a:Int)||false && !supN p M' v j (a:Int))
         ·have TI:ta p n M' v j (a:Int)=true:=by
           unfold ta;rw[decide_eq_false uz.out]
           revert hG
           cases s_ p n M' v j (a:Int) <;> simp
          go_wp2;go_roundw
          exact⟨a+1,M',zO,zN,Ql,HR.skip (fun _=>TI)⟩
          simp[intOf];omega
         ·have i_:ta p n M' v j (a:Int)=false:=by
           unfold ta
           revert hG
           cases s_ p n M' v j (a:Int) <;> simp
          obtain⟨y,hy,qv,Iy,IN⟩:=IL YX.out (show a<8 by omega)
          obtain⟨Vn,WX,a1,a2,-,-⟩:=Ql.put dT Hx;rw[yD.out]at a1;have b7:=ae (eC Ql.bx).2.2.2.2.2.2.2;have b1:=ae a1;have b2:=ae a2;obtain⟨IP,Vj,TJ⟩:=B_ qv Iy IN;have m64:min a 64=a:=zO
          clear a1 a2 qv Iy IN;go_upto_region 13 with(fail);refine ap 14 (ab W) zK zK zS (aj (aa _)) ?_;simp only[zT]
          iterate 14 (refine ch rfl ?_;simp only[zA])
          intro W2 pt;have MV:=Ql.agU pt;obtain⟨gr3,cr3,a1,a2,a3,kh⟩:=MV.put dT Hx;have yP:=b1 W2 pt;rw[yD.out,yP]at a1
          injection a1 with a1
          injection a1 with a1 a4 a5
          injection a1 with a1
          injection a1 with a1
          subst a1;have HKf:=zh (kh y);clear kh pt b7 b1 b2 yP a4 a5 MV;go_wp2;go_roundw
          exact⟨a+1,_,zO,zN,HKf.out,HR.out.cut jB.out Hn.out (zX ka.out) dT.out Hx.out IP.out Vj.out (TJ.out oc) i_⟩
          simp[intOf];omega
      ·obtain rfl:a=lb:=zO
       go_wp2;go_roundw
       exact⟨j+1,M',zO,zN,HK,HR.port⟩
       simp[intOf];omega
    ·obtain rfl:j=q:=zO
     go_wp2;go_roundw
     exact⟨v+1,M',zO,zN,HK,HR.node (by unfold ax;rw[HqI.out M' HR.out.1];omega)⟩
     simp[intOf];omega
  ·obtain rfl:v=m:=zO
   clear k7
   have hb:∃sh:Bool,u3=.bool sh:=by
    rcases HR.out.2.2 with q | q
    ·exact⟨false,q.1⟩
    ·exact⟨true,q.1⟩
   obtain⟨sh,rfl⟩:=hb;go_wp2;go_ret;exact⟨sh,M',rfl,HK,HR⟩
def yY (l s:List (List Int)):Prop:=∀v i,ax l v i->0<=ak l v i->ak s v i=ak l v i
def Bs (l:List (List Int)) (lb:Nat) (M:List (List Int)) (v i:Nat):Prop:=∀c,c<8->aO (ak M v i) c=(decide (c<lb)&&(decide (ak l v i<0)||decide (ak l v i=(c:Int))))
theorem TK:∀lb:Fin 9,IntKind.i64.wrap ((2:Int)^lb.1)=((2^lb.1:Nat):Int)/\IntKind.i64.wrap (((2^lb.1:Nat):Int)-1)=((2^lb.1-1:Nat):Int)/\2^lb.1-1<256/\∀c:Fin 8,(2^lb.1-1).testBit c.1=decide (c.1<lb.1):=by decide +kernel
theorem pZ:∀a:Fin 8,IntKind.i64.wrap ((2:Int)^a.1)=((2^a.1:Nat):Int)/\2^a.1<256/\∀c:Fin 8,(2^a.1).testBit c.1=decide (c.1=a.1):=by decide +kernel
theorem Ef {lb:Nat} (h:lb<=8):∃pw fu:Int,IntKind.i64.wrap ((2:Int)^lb)=pw/\IntKind.i64.wrap (pw-1)=fu/\(0<=fu/\fu<256)/\∀c,c<8->aO fu c=decide (c<lb):=by
 obtain⟨h1,h2,h3,h4⟩:=TK ⟨lb,zO⟩
 refine⟨_,_,h1,h2,⟨Int.natCast_nonneg _,by show((2^lb-1:Nat):Int)<256;simp only at h3;omega⟩,fun c hc=>?_⟩
 exact h4 ⟨c,hc⟩
theorem IQ {a:Nat} (h:a<8):∃y:Int,IntKind.i64.wrap ((2:Int)^a)=y/\(0<=y/\y<256)/\∀c,c<8->aO y c=decide (c=a):=by
 obtain⟨h1,h3,h4⟩:=pZ ⟨a,h⟩
 exact⟨_,h1,⟨Int.natCast_nonneg _,by show((2^a:Nat):Int)<256;simp only at h3;omega⟩,fun c hc=>h4 ⟨c,hc⟩⟩
structure Xi (p:aq) (n:ao) (l M:List (List Int)):Prop where
 ms:uA n M
 sol:∀s,lR p n s->yY l s->Sub s M
 sub:∀v i c:Nat,c<8->ax M v i->aO (ak M v i) c=true->c<p.labels.toNat/\(ak l v i<0\/ak l v i=(c:Int))
 fix:Dn p n M p.labels.toNat n.ends.length 0 0
def vH (W:World) (p:Addr):Nat:=match W.cell? p with | some (.int _ x)=>x.toNat | _=>0
def Fv (W:World) (u:Option Value):Nat:=match u with | some (.slice (some ⟨gr,0,none⟩) q _)=>((List.range q).map fun i=>vH W ⟨gr,i,none⟩).sum | _=>0
def nO (W:World) (g m:Nat):Nat:=((List.range m).map fun k=>Fv W (W.cell? ⟨g,k,none⟩)).sum
theorem BH {α:Type} (l:List α) (d:α):(List.range l.length).map (fun k=>l.getD k d)=l:=by
 refine Zck fun k=>?_
 rw[Zbr]
 by_cases h:k<l.length
 ·rw[Zcj h,Zbu h];simp[zDd,h]
 ·rw[Zce (by simpa using h),Zce zO];rfl
theorem TL {W:World} {B g m c k:Nat} {M:List (List Int)} {S:List Nat} {row:List Int} (h:bu W B (.slice (some ⟨g,0,none⟩) m c) M S) (hk:M[k]?=some row):Fv W (W.cell? ⟨g,k,none⟩)=(row.map Int.toNat).sum:=by
 cases row with
 | nil=>
  obtain⟨A,cr,h1,-⟩:=mo h hk;rw[h1];unfold Fv
  split
  ·rename_i e
   cases e;rfl
  ·rfl
 | cons x0 tl=>
  obtain⟨gr,cr,h1,-⟩:=eY h hk (show(x0::tl)[0]?=some x0 from rfl);rw[h1];unfold Fv;simp only
  congr 1
  rw[<- BH (x0::tl) 0,List.map_map];simp only[List.length_map,List.length_range];refine List.map_congr_left fun i hi=>?_
  have jS:=Zab.1 hi;obtain⟨y,hy⟩:=au (x0::tl) i (by simpa using jS);obtain⟨Vn,WX,a1,a2,-⟩:=eY h hk hy;rw[h1]at a1;cases a1
  show vH W ⟨gr,i,none⟩=((x0::tl).getD i 0).toNat
  unfold vH;rw[a2,ag hy]
theorem vI {W:World} {B g m c:Nat} {M:List (List Int)} {S:List Nat} (h:bu W B (.slice (some ⟨g,0,none⟩) m c) M S) (hm:M.length=m):nO W g m=BG M:=by
 unfold nO BG
 congr 1
 rw[<- hm]
 conv=>rhs;rw[<- BH M []]
 rw[List.map_map];refine List.map_congr_left fun k hk=>?_
 obtain⟨row,aG⟩:=au M k (Zab.1 hk);rw[TL h aG];show _=(((M.getD k []).map Int.toNat).sum)
 rw[ag aG]
def Pg (l:List (List Int)) (lb v i:Nat) (M:List (List Int)):Prop:=∀u j,ax l u j->(u<v\/u=v/\j<i)->Bs l lb M u j/\(0<=ak M u j/\ak M u j<256)
theorem Pg.put {l M:List (List Int)} {lb v i:Nat} (h:Pg l lb v i M) {row:List Int} {y:Int} (hv:M[v]?=some row) (hi:i<row.length) (hb:∀c,c<8->aO y c=(decide (c<lb)&&(decide (ak l v i<0)||decide (ak l v i=(c:Int))))) (hy:0<=y/\y<256):Pg l lb v (i+1) (M.set v (row.set i y)):=fun u j hj hl=>by
 by_cases e:u=v/\j=i
 ·refine⟨fun c hc=>?_,?_⟩
  ·rw[eJ hv hi,if_pos e,e.1,e.2];exact hb c hc
  ·rw[eJ hv hi,if_pos e];exact hy
 ·obtain⟨h1,h2⟩:=h u j hj zO;refine⟨fun c hc=>?_,?_⟩
  ·rw[eJ hv hi,if_neg e];exact h1 c hc
  ·rw[eJ hv hi,if_neg e];exact h2
theorem Pg.pre {l M:List (List Int)} {lb v i:Nat} (h:Pg l lb v i M) {row:List Int} {y:Int} (hv:M[v]?=some row) (hi:i<row.length):Pg l lb v i (M.set v (row.set i y)):=fun u j hj hl=>by
 have e:¬(u=v/\j=i):=zO
 obtain⟨h1,h2⟩:=h u j hj hl;refine⟨fun c hc=>?_,?_⟩
 ·rw[eJ hv hi,if_neg e];exact h1 c hc
 ·rw[eJ hv hi,if_neg e];exact h2
theorem Pg.next {l M:List (List Int)} {lb v i:Nat} (h:Pg l lb v i M) (hl:¬ax l v i):Pg l lb (v+1) 0 M:=fun u j hj hx=>by
 refine h u j hj ?_;rcases Zbi u v with h1 | h1
 ·exact .inl h1
 ·obtain rfl:u=v:=zO
  unfold ax at hl hj;exact .inr ⟨rfl,zO⟩
theorem Pg.mks {n:ao} {l M:List (List Int)} {lb:Nat} (h:Pg l lb n.ends.length 0 M) (hl:dv n l) (hM:dv n M):uA n M:=by
 refine⟨hM,fun v row i x hv hi=>?_⟩
 have e1:ak M v i=x:=by unfold ak;rw[ag hv,ag hi]
 have xA:v<n.ends.length:=by have:=ah hv;rwa [hM.1]at this
 have cH:ax l v i:=by
  unfold ax;rw[hl.2 v,<- hM.2 v,ag hv];exact ah hi
 have:=(h v i cH (.inl xA)).2
 rwa [e1]at this
theorem Pg.sub {p:aq} {n:ao} {l M s:List (List Int)} {lb:Nat} (eK:p.labels=(lb:Int)) (yS:lb<=8) (h:Pg l lb n.ends.length 0 M) (hl:dv n l) (hs:lR p n s) (he:yY l s):Sub s M:=fun v i hi=>by
 have rq:ax l v i:=by unfold ax at hi ⊢;rw[hl.2 v,<- hs.shp.2 v];exact hi
 have xA:v<n.ends.length:=by have:=hi.lt;rwa [hs.shp.1]at this
 have hr:=hs.rng v i hi;have hb:=(h v i rq (.inl xA)).1 (ak s v i).toNat zO;rw[hb];simp only[Zai,Zbp,decide_eq_true_eq];refine⟨zO,?_⟩
 by_cases h0:ak l v i<0
 ·exact .inl h0
 ·right
  have:=he v i rq zO
  omega
def Kp (p:aq) (n:ao) (l M:List (List Int)) (lb:Nat):Prop:=uA n M/\(∀s,lR p n s->yY l s->Sub s M)/\∀v i c:Nat,c<8->ax M v i->aO (ak M v i) c=true->c<lb/\(ak l v i<0\/ak l v i=(c:Int))
theorem IR {n:ao} {l M:List (List Int)} (hl:dv n l) (hM:dv n M) {v i:Nat} (h:ax M v i):ax l v i:=by
 unfold ax at h ⊢
 rw[hl.2 v,<- hM.2 v];exact h
theorem Pe {n:ao} {M:List (List Int)} (hM:dv n M) {v i:Nat} (h:ax M v i):v<n.ends.length:=by
 have:=h.lt
 rwa [hM.1]at this
theorem Kp.start {p:aq} {n:ao} {l M:List (List Int)} {lb:Nat} (eK:p.labels=(lb:Int)) (yS:lb<=8) (h:Pg l lb n.ends.length 0 M) (hl:dv n l) (hM:dv n M):Kp p n l M lb:=by
 refine⟨h.mks hl hM,fun s hs he=>h.sub eK yS hl hs he,fun v i c hc hi hb=>?_⟩
 have rq:=IR hl hM hi;have h1:=(h v i rq (.inl (Pe hM hi))).1 c hc;rw[hb]at h1;have h2:=h1.symm;simp only[Zai,Zbp,decide_eq_true_eq]at h2;exact h2
theorem Kp.shr {p:aq} {n:ao} {l M M':List (List Int)} {lb:Nat} {t:Value} (h:Kp p n l M lb) (hs:pj p n M lb n.ends.length 0 0 t M'):Kp p n l M' lb:=⟨hs.1,fun s h1 h2=>hs.2.1.1 s h1 (h.2.1 s h1 h2),fun v i c hc hi hb=>h.2.2 v i c hc (IR h.1.shp hs.1.shp hi) (hs.2.1.2 v i c hc hb)⟩
theorem Kp.done {p:aq} {n:ao} {l M M':List (List Int)} {lb:Nat} (eK:p.labels=(lb:Int)) (h:Kp p n l M lb) (hs:pj p n M lb n.ends.length 0 0 (.bool false) M'):M'=M/\Xi p n l M:=by
 rcases hs.2.2 with⟨-,h1,h2⟩ | ⟨h1,-⟩
 ·refine⟨h1,h.1,h.2.1,fun v i c hc hi hb=>?_,?_⟩
  ·rw[show p.labels.toNat=lb from by omega];exact h.2.2 v i c hc hi hb
  ·rw[show p.labels.toNat=lb from by omega];exact h2
 ·cases h1
theorem Kp.less {p:aq} {n:ao} {M M':List (List Int)} {lb:Nat} (hs:pj p n M lb n.ends.length 0 0 (.bool true) M'):BG M'<BG M:=by
 rcases hs.2.2 with⟨h1,-⟩ | ⟨-,h1⟩
 ·cases h1
 ·exact h1
theorem Xj {M:List (List Int)} {v:Nat} {row:List Int} (hv:M[v]?=some row) (h:nj row 0=true):∃v i,ax M v i/\ak M v i=0:=by
 unfold nj at h;rw[Zbv]at h;obtain⟨i,hi⟩:=List.mem_iff_getElem?.1 h;refine⟨v,i,?_,?_⟩
 ·unfold ax;rw[ag hv];exact ah hi
 ·unfold ak;rw[ag hv,ag hi]
theorem TM (wS:World) (mb g cm m lb:Nat) (p:aq) (pa pb va vb vc:Value) (n:ao) (M:List (List Int)) (S:List Nat) (w:World) (hm:m=n.ends.length) (eK:p.labels=(lb:Int)) (hK:IM wS mb g cm m p pa pb va vb vc M S w) (hM:uA n M) (cC:bV p=true) (hn:ar n=true) (hp:el wS pa pb p) (h:aR wS va vb vc n) (hst:eR p.nodes) (iM:p.nodes.length<=1048576) (gM:p.agW.length<=1048576):
  Calls Tryz.prog 95 #[.pointer (some ⟨mb,0,none⟩)] w fun e w'=>∃(sh:Bool) (M':List (List Int)),e=.returned (.bool sh)/\IM wS mb g cm m p pa pb va vb vc M' S w'/\pj p n M lb n.ends.length 0 0 (.bool sh) M':=by
 subst hm;obtain rfl:lb=p.labels.toNat:=zO
 exact LJ wS mb g cm p pa pb va vb vc n M S w hK hM cC hn hp h hst iM gM
theorem p8 (pa pb va vb vc vl:Value) (p:aq) (n:ao) (l:List (List Int)) (w:World) (hp:el w pa pb p) (h:aR w va vb vc n) (hl:bS w vl l) (cC:bV p=true) (hn:ar n=true) (iR:fB p n l=true) (hst:eR p.nodes) (iM:p.nodes.length<=1048576) (gM:p.agW.length<=1048576):
  Calls Tryz.prog 44 #[.agg #[.int .i64 p.labels,.int .i64 p.degree,pa,pb],.agg #[va,vb,vc],vl] w fun e w'=>∃(u:Value) (ok:Bool) (M:List (List Int)) (S:List Nat),e=.returned (.tuple #[u,.bool ok])/\bu w' w.heap.size u (if ok=true then M else []) S/\Xi p n l M/\(ok=false->∃v i,ax M v i/\ak M v i=0)/\(ok=true->∀v i,ax M v i->ak M v i≠0)/\Below w.heap.size w w':=by
 obtain⟨eV,-⟩:=aE cC;obtain⟨iX,iz⟩:=eX hn;obtain⟨LK,ac6⟩:=ru iR;have hlN:dv n l:=dv.of LK
 obtain⟨w0,A,c,A2,c2,A3,c3,P0,iG,P1,it,rfl,rfl,rfl,fR,hm,gC,jz,HA,H,rfl,rfl,jj,jk,jl,jm,jn,jo,HP,cD,aY,fp,fE,fM,ku,nY,oW,oX⟩:=Ah hp h;clear hp h
 obtain⟨HL,gO,iD⟩:=B_ (GQ (hl.agU aY.out)) (show el w0 (.slice P0 p.nodes.length iG) (.slice P1 p.agW.length it) p from HP.out) (show aR w0 (.slice A n.ends.length c) (.slice A2 n.ids.length c2) (.slice A3 n.agT.length c3) n from H.out);obtain⟨AL,cL,rfl,-,VR,-⟩:=HL w0 (aa _);unfold maxLen at VR;obtain⟨lb,eK⟩:∃z:Nat,p.labels=(z:Int):=⟨p.labels.toNat,zO⟩
 obtain⟨m,hm⟩:=J_ n.ends.length
 have Cj:l.length=m:=by rw[hlN.1,hm]
 have pY:1<=lb/\lb<=8:=zO
 have TG:1<=m/\m<=40:=zX (bK hn)
 obtain⟨jB,Hn,H6,ka,Hm,HlN,wE,nr,xC⟩:=H_ cC hn (O9 hlN iX iz) eK hm hlN ac6 hst Cj;rw[Cj];have aK:ab w0 w0:=aa _;have aaP:=fp;rw[eK]at aaP;clear cC hn iz eV hm iX hl hst iR LK hlN ac6 eK Cj
 go_enter Tryz.func44,Tryz.ntmps44
 go_upto_region 1 with(fail);rw[<- cD.out];refine dO (w0:=w0) 6 [false,false,false,true,true,true] zK zK (aa _) ?_;simp only[ew,dM,zT]
 iterate 3 (apply ef rfl;(intro W hW;go_simp;with_reducible rfl);simp only[zA])
 intro W hW;refine Or.inl ⟨rfl,?_⟩
 go_simp
 (with_reducible refine(ro _ l W w0.heap.size hW.below.size (by have h9:=HL.out _ hW;rwa [xC.out]at h9) (by rw[xC.out];omega) (fun v row hv=>zX (H6.out.2 v row hv))).mono ?_)
 rintro e W' ⟨u1,S1,rfl,gL,aP⟩;refine⟨_,rfl,hW.trans aP,?_⟩
 replace hW:=hW.trans aP
 obtain⟨g,cm,rfl⟩:=O8 gL (by rw[xC.out];omega)
 have Ck:Hid (bu W' w0.heap.size (.slice (some ⟨g,0,none⟩) m cm) l S1):=(by have h9:=gL;rwa [xC.out]at h9)
 rw[xC.out];clear gL aP;obtain⟨w1,rfl⟩:=J_ W'
 (try simp only[zA])
 refine fj (v:=?_) rfl ?_ hW ?_;rotate_left;(go_simp;with_reducible rfl)
 simp only[zA]
 refine nD (v:=?_) (ob:=?_) rfl ?_ hW ?_;rotate_left 2
 (go_simp;first | with_reducible rfl | (refine⟨?_,?_⟩ <;> with_reducible rfl))
 intro w2 Kw Rq
 replace hW:=Rq
 clear Rq;skip
 (try simp only[zA])
 simp only[bP];obtain⟨mb,vX⟩:=J_ w1.heap.size
 have rs:ab w1 w2:=by rw[Kw];exact ad _ (aa _)
 have MV:IM w0 mb g cm m p (.slice P0 p.nodes.length iG) (.slice P1 p.agW.length it) (.slice A n.ends.length c) (.slice A2 n.ids.length c2) (.slice A3 n.agT.length c3) l S1 w2:=by
  refine⟨hW,?_,aL.agU Ck.out rs.below,fun hj=>zX ((aL.range Ck.out _ hj).2),?_⟩
  ·rw[Kw,vX];exact fF.new _ _ _
  ·rw[vX];exact Zak (Zaj _) (by
    have h9:=(aL.range Ck.out g (by obtain⟨vs,Ss,-,-,-,e,-⟩:=Ck.out;rw[e];simp[Value.ownBlock]));omega)
 obtain⟨OT,Cy,LL⟩:=B_ MV vX aaP;clear vX rs MV Kw aK hW fp fE fM ku nY oW oX aaP;rw[<- Cy.out];go_upto_region 3 with(fail)
 go_loopw [22] (fun i wr=>∃(v:Nat) (M:List (List Int)),v<=m/\i=.int .i64 v/\IM w0 mb g cm m p (.slice P0 p.nodes.length iG) (.slice P1 p.agW.length it) (.slice A n.ends.length c) (.slice A2 n.ids.length c2) (.slice A3 n.agT.length c3) M S1 wr/\dv n M/\Pg l lb v 0 M) (fun i _=>m-(intOf i).toNat)
 case atStart=>exact⟨0,l,Zac _,rfl,OT,HlN,fun u j _ hx=>zO⟩
 case round=>
  clear OT;obtain⟨v,M,hv,rfl,hK,TO,TP⟩:=hrel;obtain⟨HK,Eg,Gg⟩:=B_ hK TO TP;clear hK TO TP
  by_cases aA:v<m
  ·have m1:=zw v
   obtain⟨od,lS⟩:=au l v (by rw[xC.out];exact aA)
   obtain⟨q,hq⟩:=J_ od.length
   have hq6:q<=6:=by rw[hq];exact H6.2 v od lS
   have hlI:=HL w0 (aa _);obtain⟨AL',cL',eL,-,-,sL⟩:=id hlI;rw[xC.out]at eL;cases eL;obtain⟨bL,oL,uL,YQ,Df,ac7⟩:=sL v od lS;subst YQ;obtain⟨AR,cR,rfl,-,DJ,U4⟩:=ac7;rw[<- hq]at Df;obtain⟨HcL,HRR⟩:=A_ (ae Df) U4;have ae3:=HcL wr HK.sn;obtain⟨Hq,qB⟩:=A_ hq lS
   have TQ:Hid (∀M2,dv n M2->∃row,M2[v]?=some row/\row.length=q):=fun M2 h2=>by
    obtain⟨row,aG⟩:=au M2 v (by rw[h2.1,<- Hm.out];exact aA)
    exact⟨row,aG,by rw[gz h2 aG,hq,gz HlN.out lS]⟩
   unfold maxLen at DJ;obtain⟨wo,rfl⟩:=J_ wr
   clear hlI sL U4 hq lS Df;go_upto_region 6 with(fail);clear ae3
   go_loopw [30] (fun i wr=>∃(j:Nat) (M:List (List Int)),j<=q/\i=.int .i64 j/\IM w0 mb g cm m p (.slice P0 p.nodes.length iG) (.slice P1 p.agW.length it) (.slice A n.ends.length c) (.slice A2 n.ids.length c2) (.slice A3 n.agT.length c3) M S1 wr/\dv n M/\Pg l lb v j M) (fun i _=>q-(intOf i).toNat)
   case atStart=>exact⟨0,M,Zac _,rfl,HK,Eg,Gg⟩
   case round=>
    clear HK Eg Gg;obtain⟨j,M,hj,rfl,hK,TO,TP⟩:=hrel;obtain⟨HK,Eg,Gg⟩:=B_ hK TO TP;clear hK TO TP
    by_cases ij:j<q
    ·have m2:=zw j
     obtain⟨x,hx⟩:=au od j (by rw[<- Hq.out];exact ij)
     have pc:=wE v od j x qB hx;rw[ka.out]at pc
     have ti:ak l v j=x:=by unfold ak;rw[ag qB.out,ag hx]
     obtain⟨bY,oY,e,cY⟩:=HRR j x hx;subst e;have cY2:=(ae cY) wr HK.sn;obtain⟨row,aG,nd⟩:=TQ M Eg;obtain⟨z,hz⟩:=au row j zO;obtain⟨pw,fu,LD,Yv,oF,tZ⟩:=Ef pY.2;have Xh:min lb 64=lb:=zO
     obtain⟨TH,dT,yD,Hz,Hfr,Hfb⟩:=E_ ti aG nd hz oF tZ;have q0:∀W,ab wr W->W.cell? ⟨w.heap.size,0,none⟩=some (.int .i64 lb):=fun W pt=>LL W (HK.sn.after pt)
     obtain⟨wi,rfl⟩:=J_ wr
     clear ti hx cY aG nd hz oF tZ;go_upto_region 8 with(fail);clear cY2;have b7:=ae (eC HK.bx).2.2.2.2.2.2.2;obtain⟨oA,cr1,a1,-⟩:=HK.put dT Hz;rw[yD.out]at a1;have b1:=ae a1;clear a1;refine ap 13 (ab wi) zK zK zS (aj (aa _)) ?_;simp only[zT]
     iterate 13 (refine ch rfl ?_;simp only[zA])
     intro WE1 aaQ;obtain⟨gr3,cr3,a1,a2,a3,kh⟩:=(HK.agU aaQ).put dT Hz;have yP:=b1 WE1 aaQ;rw[yD.out,yP]at a1
     injection a1 with a1
     injection a1 with a1 a4 a5
     injection a1 with a1
     injection a1 with a1
     subst a1;have TS:=zh (kh fu);clear kh aaQ b7 b1 yP a4 a5
     obtain⟨ae4,ac8⟩:=A_ (Gg.out.pre (y:=fu) dT.out (by rw[yD.out];exact ij)) (sK (i:=j) fu Eg dT)
     have IS:Hid ((M.set v (row.set j fu))[v]?=some (row.set j fu)):=by show _=_;rw[Zav (ah dT.out)]
     have yN:Hid ((row.set j fu)[j]?=some fu):=by show _=_;rw[Zav (by rw[yD.out];exact ij)]
     have aaR:Hid ((row.set j fu).length=q):=by show _=_;rw[Zau];exact yD
     go_upto_region 9 with(fail);obtain⟨w8,lz⟩:=J_ (WE1.setCell ⟨oA,j,none⟩ (.int .i64 fu))
     rw[<- lz];rw[<- lz]at TS;clear lz a2 a3 LD Yv q0
     by_cases nG:x<0
     ·have hxd:((0:Int)<=x)=False:=by simp;omega
      go_wp2;go_roundw
      exact⟨j+1,_,zO,zN,TS,ac8,Gg.put dT (by rw[yD.out];exact ij) (fun c hc=>by rw[Hfb.out c hc,TH.out,decide_eq_true nG];simp) Hfr⟩
      simp[intOf];omega
     ·have hxd:((0:Int)<=x)=True:=by simp;omega
      obtain⟨an,rfl⟩:∃z:Nat,x=(z:Int):=⟨x.toNat,zO⟩
      have ha8:an<8:=zO
      obtain⟨y,hy,qv,Iy⟩:=IQ ha8;have WE:min an 64=an:=zO
      have IP:=zh qv
      have aaS:Hid (∀c,c<8->aO y c=(decide (c<lb)&&(decide (ak l v j<0)||decide (ak l v j=(c:Int))))):=fun c hc=>by
       rw[Iy c hc,TH.out,show decide ((an:Int)<0)=false from zS,Bool.false_or,Zbl]
       simp
       omega
      clear qv Iy;go_upto_region 10 with(fail);have b7:=ae (eC TS.bx).2.2.2.2.2.2.2;obtain⟨Vn,WX,a1,-⟩:=TS.put IS yN;rw[aaR.out]at a1;have b1:=ae a1;clear a1;refine ap 11 (ab w8) zK zK zS (aj (aa _)) ?_;simp only[zT]
      iterate 11 (refine ch rfl ?_;simp only[zA])
      intro WE2 aaT;obtain⟨gr3,cr3,a1,a2,a3,kh⟩:=(TS.agU aaT).put IS yN;have yP:=b1 WE2 aaT;rw[aaR.out,yP]at a1
      injection a1 with a1
      injection a1 with a1 a4 a5
      injection a1 with a1
      injection a1 with a1
      subst a1;have ae5:=zh (kh y);clear kh aaT b7 b1 yP a4 a5;go_wp2;go_roundw
      exact⟨j+1,_,zO,zN,ae5,sK (i:=j) y ac8 IS,ae4.put IS (by rw[aaR.out];exact ij) aaS IP⟩
      simp[intOf];omega
    ·obtain rfl:j=q:=zO
     go_wp2;go_roundw
     exact⟨v+1,M,zO,zN,HK,Eg,Gg.next (by unfold ax;rw[ag qB.out,<- Hq.out];omega)⟩
     simp[intOf];omega
  ·obtain rfl:v=m:=zO
   obtain⟨wl,rfl⟩:=J_ wr
   have Cn:Hid (uA n M):=Pg.mks (lb:=lb) (by have h9:=Gg.out;rwa [Hm.out]at h9) HlN.out Eg.out
   have YY:Hid (Kp p n l M lb):=Kp.start ka.out pY.2 (by have h9:=Gg.out;rwa [Hm.out]at h9) HlN.out Eg.out
   clear Gg;go_upto_region 13 with(fail)
   go_loopw [] (fun wr=>∃M',IM w0 mb g cm v p (.slice P0 p.nodes.length iG) (.slice P1 p.agW.length it) (.slice A n.ends.length c) (.slice A2 n.ids.length c2) (.slice A3 n.agT.length c3) M' S1 wr/\Kp p n l M' lb) (fun wr=>nO wr g v)
   case atStart=>exact⟨M,HK,YY⟩
   case round=>
    clear HK YY Cn Eg;obtain⟨M1,hK,hKp⟩:=hrel;obtain⟨HK,YY⟩:=A_ hK hKp;clear hK hKp;obtain⟨wi,rfl⟩:=J_ wr
    go_wp2_with fail;refine(TM w0 mb g cm v lb p _ _ _ _ _ n M1 S1 wi Hm ka HK YY.1 jB Hn gO iD nr iM gM).mono ?_;rintro e W1 ⟨sh,M2,rfl,MV,vx⟩;cases sh
    ·obtain⟨rfl,hpm⟩:=YY.done ka vx;obtain⟨OT,Hpm⟩:=A_ MV hpm;clear MV vx hpm HK;have b7:=ae (eC OT.bx).2.2.2.2.2.2.2;obtain⟨wm,rfl⟩:=J_ W1
     go_upto_region 15 with(fail)
     go_loopw [70] (fun i wr=>∃k:Nat,k<=v/\i=.int .i64 k/\(∀j,j<k->nj (M2.getD j []) 0=false)/\ab wm wr) (fun i _=>v-(intOf i).toNat)
     case atStart=>exact⟨0,zO,rfl,fun j hj=>zO,aa _⟩
     case round=>
      obtain⟨k,hk,rfl,JE,hs⟩:=hrel;have Qm:=zh JE;clear JE
      by_cases oV:k<v
      ·have m4:=zw k
       obtain⟨row,aG⟩:=au M2 k (by rw[Hpm.out.ms.shp.1,<- Hm.out];exact oV)
       obtain⟨A',c',e,-,-,sL⟩:=OT.ow.read
       injection e with e1 e2 e3
       subst e1;obtain⟨bY,oY,uY,e4,cY,hI⟩:=sL k row aG
       injection e4 with e4
       injection e4 with e4 e5
       subst e4;subst e5;have cY2:=(ae cY) wr hs;rw[Zba]at cY2;obtain⟨HI,dT,Hs⟩:=B_ (bs.agU hI hs.below) aG hs;obtain⟨wr1,rfl⟩:=J_ wr
       clear sL cY hI aG e2 e3 hs;go_wp2_with fail;refine(CW _ row 0 wr1 HI).mono ?_;rintro e Wc ⟨rfl,rfl⟩
       by_cases e_:nj row 0=true
       ·have Hz:=zh (Xj dT.out e_);go_wp2
        go_ret2
        exact⟨_,false,M2,[],rfl,sr _ _,Hpm.out,(fun _=>Hz.out),(fun h=>by cases h),(ab.after aY.out (OT.out.sn.after Hs.out)).below⟩
       ·have dP:nj row 0=false:=by simpa using e_
        have ae6:Hid (∀j,j<k+1->nj (M2.getD j []) 0=false):=fun j hj=>by
         rcases Zbi j k with h2 | h2
         ·exact Qm j h2
         ·rw[show j=k by omega,ag dT.out];exact dP
        go_wp2;go_roundw
        exact⟨k+1,zO,zN,ae6,Hs⟩
        simp[intOf];omega
      ·obtain rfl:k=v:=zO
       have Hs:=zh hs;have b8:=b7 wr hs
       have ae7:Hid (∀u i,ax M2 u i->ak M2 u i≠0):=fun u i hi h0=>by
        have h1:=Qm u (by have:=hi.lt;rw[Hpm.out.ms.shp.1,<- Hm.out]at this;exact this)
        unfold ax at hi;obtain⟨y,hy⟩:=au (M2.getD u []) i hi;unfold ak at h0;rw[ag hy]at h0;unfold nj at h1;rw[Zbv.2 (h0 ▸ Zaq hy)]at h1;cases h1
       clear hs b7;go_wp2
       go_ret2
       exact⟨_,true,M2,S1,rfl,aL.mono (aL.agU OT.out.ow Hs.out.below) aY.out.size,Hpm.out,(fun h=>by cases h),(fun _=>ae7.out),(ab.after aY.out (OT.out.sn.after Hs.out)).below⟩
    ·have aA:=Kp.less vx;have e1:=vI HK.ow (by rw[YY.out.1.shp.1,<- Hm.out]);have e2:=vI MV.ow (by rw[vx.1.shp.1,<- Hm.out]);obtain⟨OT,ae8⟩:=A_ MV (YY.out.shr vx)
     have Hme:Hid (nO W1 g v<nO wi g v):=by show _<_;rw[e1,e2];exact aA
     clear MV vx aA e1 e2 HK YY;go_wp2;go_roundw
     exact⟨_,OT,ae8⟩
     case measure=>exact Hme
end Go.Proofs.YtnioemnkfojmkaaGreat
