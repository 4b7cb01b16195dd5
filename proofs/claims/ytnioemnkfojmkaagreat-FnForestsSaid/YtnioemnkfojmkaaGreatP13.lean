/- Parts of the proof: walks of functions and plain laws. -/
import Derived.Test.YtnioemnkfojmkaaGreatP12
set_option maxRecDepth 100000
set_option maxHeartbeats 16000000
namespace Go.Proofs.YtnioemnkfojmkaaGreat
open Go Go.RowKit
theorem nL (n:Nat) (hn:n<=1000000) (w:World):Calls Tryz.prog 131 #[.int .i64 n] w (tB w (dQ n)):=by
 have m1:=Gs n hn;have m2:=q9 n hn
 go_enter Tryz.func131,Tryz.ntmps131
 go_wp2
 go_region
 ·go_wp2;refine bodyPost_ret (v:=.agg #[.slice (some ⟨w.heap.size+1,0,none⟩) n n,.slice none 0 0,.slice (some ⟨w.heap.size+1+1,0,none⟩) n n]) (by simp[results,Tryz.results131,go_sem]) rfl ?_;exact⟨_,_,_,_,rfl,(JW w _ n hn).drew,(QB _ _ _ _).drew⟩
 ·go_wp2;refine bodyPost_ret (v:=.agg #[.slice (some ⟨w.heap.size+1+1,0,none⟩) n n,.slice none 0 0,.slice (some ⟨w.heap.size+1,0,none⟩) n n]) (by simp[results,Tryz.results131,go_sem]) rfl ?_;exact⟨_,_,_,_,rfl,(Gu w _ n hn).drew,(QB _ _ _ _).drew⟩
structure tO (n:ao):Prop where
 ends:n.ends.length<=1000
 row:∀(k:Nat) (es:List (Int×Int)),n.ends[k]?=some es->es.length<=1000
 sz:qm n<=1048576
def bZ (n:ao) (v:Nat):List (Int×Int):=n.ends.getD v []
def tP (n:ao) (v:Nat) (e:Int×Int):ao:={ n with ends:=n.ends.set v (bZ n v++[e]) }
def mK (n:ao) (v:Nat):ao:=tP n v ((v:Int),((bZ n v).length:Int))
def dR (n:ao) (v u:Nat):ao:=tP (tP n v ((u:Int),if v=u then ((bZ n u).length:Int)+1 else ((bZ n u).length:Int))) u ((v:Int),((bZ n v).length:Int))
theorem df {n:ao} {v:Nat} (hv:v<n.ends.length):n.ends[v]?=some (bZ n v):=by
 unfold bZ;rw[zDd,Zbu hv];rfl
theorem jv (n:ao) (v:Nat) (e:Int×Int):(tP n v e).ends.length=n.ends.length:=by simp[tP]
theorem aw.head {w:World} {base k c:Nat} {A:Option Addr} {vi vn:Value} {N:ao} {S:List Nat} (h:aw w base (.slice A k c) vi vn N S) (h0:0<N.ends.length):∃g,A=some ⟨g,0,none⟩/\k=N.ends.length:=by
 obtain⟨S1,S2,S3,⟨vs,Ss,h1,_⟩,_⟩:=h;have h3:=cj h1;rcases h3 with⟨hv,h2⟩ | ⟨g,c',hv,_⟩
 ·omega
 ·cases hv;exact⟨g,rfl,rfl⟩
theorem sB {wc w8 w9:World} {base g c k v g9 cc:Nat} {vi vn u:Value} {N:ao} {S T:List Nat} {x:List (Int×Int)} {y:Int×Int}
  (qk:∀(u':Value) (x':List (Int×Int)) (T':List Nat) (w':World),eE w' base u' x' T'->aV T wc w'->(∀j∈T',j∈T\/wc.heap.size<=j)->∃S',aw (w'.setCell ⟨g,v,none⟩ u') base (.slice (some ⟨g,0,none⟩) k c) vi vn { N with ends:=N.ends.set v x' } S'/\∀j∈S',j∈S\/wc.heap.size<=j)
  (hR:eE wc base u x T) (h8:ab wc w8) (gj:eE w9 base (.slice (some ⟨g9,0,none⟩) (x.length+1) cc) (x++[y]) [g9]) (vV:w8.grownBy w9 u.ownBlock) (C4:u.ownBlock=some g9\/g9=w8.heap.size) (VF:∀j∈T,j∈S) (zr:g∈S):
  ∃S',aw (w9.setCell ⟨g,v,none⟩ (.slice (some ⟨g9,0,none⟩) (x.length+1) cc)) base (.slice (some ⟨g,0,none⟩) k c) vi vn { N with ends:=N.ends.set v (x++[y]) } S'/\(∀j∈S',j∈S\/wc.heap.size<=j)/\aV S wc (w9.setCell ⟨g,v,none⟩ (.slice (some ⟨g9,0,none⟩) (x.length+1) cc)):=by
 have hT:T=u.ownBlock.toList:=hR.2
 have h19:aV T wc w9:=by rw[hT];exact(aV.ag2 h8).trans (aV.agZ vV)
 obtain⟨S',h1,h2⟩:=qk _ _ _ _ gj h19 (fun j hj=>by
  simp at hj;subst hj
  rcases C4 with h | h
  ·left;rw[hT,h];simp
  ·right;rw[h];exact h8.size)
 exact⟨S',h1,h2,(h19.mono VF).setCell (.inl zr) _⟩
theorem K7 (ve vi vn:Value) (n:ao) (v:Nat) (w:World) (h:aR w ve vi vn n) (hv:v<n.ends.length) (hn:tO n):
  Calls Tryz.prog 127 #[.agg #[ve,vi,vn],.int .i64 v] w (tB w (mK n v)):=by
 have MC:=zh hn;clear hn
 obtain⟨w0,A,c,A2,c2,A3,c3,rfl,rfl,rfl,fR,hm,gC,jz,HA,H,cD,aY,fp,fE,fM⟩:=zB h;clear h
 obtain⟨wa,mF⟩:=J_ (w0.alloc (.cells #[.slice none 0 0,.slice none 0 0,.slice none 0 0] 30))
 have pQ:ab w0 wa:=by rw[mF];exact ad _ (aa _)
 have pL:w0.heap.size=w.heap.size+1:=by rw[cD.out];simp
 have GR:Hid (wa.heap.size=w.heap.size+1+1):=by show _=_;rw[mF,<- pL];simp
 have Ap:Hid (∀X,ab wa X->bD X (w.heap.size+1) (.slice none 0 0) (.slice none 0 0) (.slice none 0 0)):=fun X hX=>by
  refine bD.since (W:=wa) ?_ hX;rw[mF,<- pL];show(w0.heap.push _)[w0.heap.size]?=_
  rw[Zbc]
 have U6:=al fp pQ;have U7:=al fE pQ;have U8:=al fM pQ;obtain⟨Kr,py⟩:=A_ mF pQ;have jR:Hid (Below w.heap.size w wa):=Zbw aY (pQ.below.mono aY.size);clear mF pQ pL fp fE fM
 go_enter Tryz.func127,Tryz.ntmps127
 go_upto_region 1 with(fail);rw[<- cD.out,<- Kr.out];have hs:ab wa wa:=aa _;go_wp2_with fail;refine(mi _ _ _ n wa (H.agU py.below) MC.ends MC.row MC.sz).mono ?_;rintro e w1 ⟨we,wi,wn,S,rfl,ho,aP⟩;obtain⟨A1,c1,rfl,-,-,-⟩:=id ho.read.1;obtain⟨AI,cI,rfl,-,-,-⟩:=id ho.read.2.1;obtain⟨AN,cN,rfl,-,-,-⟩:=id ho.read.2.2;obtain⟨g,rfl,-⟩:=ho.head zO;obtain⟨base,mz⟩:=J_ wa.heap.size
 rw[<- mz]at ho;have dw:ab wa w1:=hs.trans aP;obtain⟨w2,ip⟩:=J_ (w1.alloc (.cells #[.slice (some ⟨g,0,none⟩) n.ends.length c1,.slice AI n.ids.length cI,.slice AN n.agT.length cN] 30))
 obtain⟨bo,kv⟩:=J_ w1.heap.size
 have qT:ab w1 w2:=by rw[ip];exact ad _ (aa _)
 have H9:bB w2 bo (.slice (some ⟨g,0,none⟩) n.ends.length c1) (.slice AI n.ids.length cI) (.slice AN n.agT.length cN):=by rw[ip,kv];exact bB.new _ _ _ _ _
 have Ke:bo∉S:=fun hj=>zX ((ho.range _ hj).2)
 obtain⟨Bc,yH,yF,Aq,Ia,FU,eU⟩:=F_ mz ip kv (ho.agU qT.below) H9 Ke (dw.after qT)
 have Ib:Hid (base<=bo/\bo<w2.heap.size):=⟨by rw[mz,kv];exact dw.below.size,by rw[ip,kv];simp⟩
 have xW:=df hv;obtain⟨xv,lK⟩:=J_ (bZ n v)
 rw[<- lK]at xW;obtain⟨Co,HX2⟩:=A_ lK xW;have md:Hid (xv.length<=1000):=MC.row _ _ xW;clear mz ip kv ho H9 Ke dw qT aP hs lK xW U6 U7 U8;have qs:=md.out
 have HL2:Hid (xv.length+1<=1000000):=by show _<=_;omega
 have Be:Hid (base<=w2.heap.size):=by show _<=_;have:=Ib.out;omega
 clear qs;go_upto_region 2 with(fail);rw[<- yH.out,<- yF.out];obtain⟨u2,T2,EE,Mf,vx,tQ,Bf,vy,mL⟩:=Aq.ag5 HX2;obtain⟨xX,xY,rfl,-,-,-⟩:=id vx.read;obtain⟨C5,tR⟩:=A_ vx mL;have Ic:g≠bo:=fun h=>FU.out (h ▸ vy)
 obtain⟨acm,K8,K9,La,Sd,Z7⟩:=E_ Ic Bf vy tQ EE Mf;have Lb:Hid (bo∉T2):=fun h=>FU (tQ _ h)
 have rc:=zh (bB.cells Ia.out);clear Ic Bf vy tQ EE Mf vx mL;refine az (fun W=>W.cell? ⟨bo,0,none⟩=some (.slice (some ⟨g,0,none⟩) n.ends.length c1)/\W.cell? ⟨g,v,none⟩=some (.slice xX xv.length xY)) 18 [false,false,false,false,false,false,false,false,false,false,false,false,false,false,false,false,true,true] zK zK (show(World.drew w2).cell? ⟨bo,0,none⟩=some (.slice (some ⟨g,0,none⟩) n.ends.length c1)/\(World.drew w2).cell? ⟨g,v,none⟩=some (.slice xX xv.length xY)from⟨rc.1,Sd⟩) ?_
 simp only[ew,dM,zT]
 iterate 16 (apply bC rfl;(intro W hW;(obtain⟨k0,k1⟩:=hW);go_simp;with_reducible rfl);simp only[zA])
 obtain⟨W,dh⟩:=J_ (World.drew w2)
 rw[<- dh];have hW:=(show(World.drew w2).cell? ⟨bo,0,none⟩=some (.slice (some ⟨g,0,none⟩) n.ends.length c1)/\(World.drew w2).cell? ⟨g,v,none⟩=some (.slice xX xv.length xY)from⟨rc.1,Sd⟩);rw[<- dh]at hW;have fK:=zh dh;clear dh
 refine ca (v:=?_) (ob:=?_) rfl ?_ ?_ ?_;rotate_left 2
 (go_simp;first | with_reducible rfl | (refine⟨?_,?_⟩ <;> with_reducible rfl))
 exact⟨bc (am _ _) hW.1,bc (am _ _) hW.2⟩;intro w8 k9 mD
 replace hW:=mD
 clear mD
 have Ie:Hid (w8=(World.drew w2).alloc (.cells #[.int .i64 (v:Int),.int .i64 (xv.length:Int)] 104)):=by show _=_;rw[k9,fK.out]
 have j6:Hid (ab w2 w8):=by show ab _ _;rw[Ie.out];exact ad _ (aj (aa _))
 have vT:Hid (eE w8 base (.slice xX xv.length xY) xv T2):=gY.agU C5 j6.below
 have DZ:Hid (w8.cell? ⟨w2.heap.size,0,none⟩=some (.int .i64 (v:Int))/\w8.cell? ⟨w2.heap.size,1,none⟩=some (.int .i64 (xv.length:Int))):=by show _/\_;rw[Ie.out];exact mJ (World.drew w2) _ _ _
 rw[show W.heap.size=w2.heap.size from by rw[fK.out];rfl]
 clear k9 fK
 (try simp only[zA])
 refine dA (fun Q' HQ=>?_)
 (refine lf (base:=base) (v:=.slice xX xv.length xY) (xs:=xv) rfl _ _ rfl rfl vT w2.heap.size ((v:Int),(xv.length:Int)) rfl DZ.1 DZ.2 HL2 (Zak Be j6.below.size) ?_);intro g9 ON w9 gj vV C4;have fg:=aV.agZ vV;have Bg:(Value.slice xX xv.length xY).ownBlock.toList=T2:=(C5.2).symm;have ly:(⟨bo,0,none⟩:Addr).block∉(Value.slice xX xv.length xY).ownBlock.toList:=(by rw[Bg];exact Lb);have rC:(⟨g,v,none⟩:Addr).block∉(Value.slice xX xv.length xY).ownBlock.toList:=(by rw[Bg];exact K8);have lW:=fg.cell ly hW.1;have sV:=fg.cell rC hW.2;have PS:=fg.fz rC hW.2 (bf j6.below Sd Z7);refine HQ _ _ ⟨lW,sV⟩ ?_;have vW:=zh (sB tR.out C5.out j6.out gj vV C4 La.out K9.out);clear gj vV C4 ly rC fg Bg hW
 (try simp only[zA])
 simp only[bP];go_upto_region 3 with(fail);obtain⟨Sw5,dP,dY,qt⟩:=vW.out;obtain⟨w5,hw⟩:=J_ (w9.setCell ⟨g,v,none⟩ (.slice (some ⟨g9,0,none⟩) (xv.length+1) ON))
 rw[<- hw]at dP qt ⊢;obtain⟨Se,Ws,xZ⟩:=B_ dP dY qt;clear hw dP dY qt vW lW sV PS
 have Yp:Hid (aw w5 base (.slice (some ⟨g,0,none⟩) n.ends.length c1) (.slice AI n.ids.length cI) (.slice AN n.agT.length cN) (mK n v) Sw5):=by show aw _ _ _ _ _ _ _;unfold mK tP;rw[<- Co.out];exact Se
 have HBf:Hid (bB w5 bo (.slice (some ⟨g,0,none⟩) n.ends.length c1) (.slice AI n.ids.length cI) (.slice AN n.agT.length cN)):=by obtain⟨r,hr⟩:=Ia.out;exact⟨r,(xZ.block bo Ib.2 FU).trans hr⟩
 have If:Hid (Below base w2 w5):=xZ.below base Be (fun j hj=>(Aq.range j hj).1)
 have gP:bD w5 (w.heap.size+1) (.slice none 0 0) (.slice none 0 0) (.slice none 0 0):=(If.out.block _ (by have h2:=Bc.out;have h3:=GR.out;omega)).trans (Ap.out w2 eU.out)
 obtain⟨d0,d1,d2,-,-,-⟩:=HBf.cells;obtain⟨e0,e1,e2,f0,f1,f2⟩:=gP.box.cells;clear gP;go_wp2;refine bodyPost_ret (v:=.agg #[.slice (some ⟨g,0,none⟩) n.ends.length c1,.slice AI n.ids.length cI,.slice AN n.agT.length cN]) (by simp[results,Tryz.results127,go_sem, *]) rfl ?_;have hbz:=Bc.out;have hza:=GR.out;refine⟨_,_,_,_,rfl,(Yp.out.agV (fun j hj=>?_)).mono (show w.heap.size<=base by omega),?_⟩
 ·have zZ:=(Yp.range j hj).1;rw[Zan _ _ _ j (by simp;omega),Zan _ _ _ j (by simp;omega),Zan _ _ _ j (by simp;omega)]
 ·have hk:Below w.heap.size w w5:=(Zbw jR (eU.below.mono zO)).trans (If.mono zO);exact((hk.setCell zS _).setCell zS _).setCell zS _
theorem mM (ve vi vn:Value) (n:ao) (v u:Nat) (w:World) (h:aR w ve vi vn n) (hv:v<n.ends.length) (Lc:u<n.ends.length) (hn:tO n):
  Calls Tryz.prog 149 #[.agg #[ve,vi,vn],.int .i64 v,.int .i64 u] w (tB w (dR n v u)):=by
 have MC:=zh hn;clear hn
 obtain⟨w0,A,c,A2,c2,A3,c3,rfl,rfl,rfl,fR,hm,gC,jz,HA,H,cD,aY,fp,fE,fM⟩:=zB h;clear h
 obtain⟨wa,mF⟩:=J_ (w0.alloc (.cells #[.slice none 0 0,.slice none 0 0,.slice none 0 0] 30))
 have pQ:ab w0 wa:=by rw[mF];exact ad _ (aa _)
 have pL:w0.heap.size=w.heap.size+1:=by rw[cD.out];simp
 have GR:Hid (wa.heap.size=w.heap.size+1+1):=by show _=_;rw[mF,<- pL];simp
 have Ap:Hid (∀X,ab wa X->bD X (w.heap.size+1) (.slice none 0 0) (.slice none 0 0) (.slice none 0 0)):=fun X hX=>by
  refine bD.since (W:=wa) ?_ hX;rw[mF,<- pL];show(w0.heap.push _)[w0.heap.size]?=_
  rw[Zbc]
 have U6:=al fp pQ;have U7:=al fE pQ;have U8:=al fM pQ;obtain⟨Kr,py⟩:=A_ mF pQ;have jR:Hid (Below w.heap.size w wa):=Zbw aY (pQ.below.mono aY.size);clear mF pQ pL fp fE fM
 go_enter Tryz.func149,Tryz.ntmps149
 go_upto_region 1 with(fail);rw[<- cD.out,<- Kr.out];have hs:ab wa wa:=aa _;go_wp2_with fail;refine(mi _ _ _ n wa (H.agU py.below) MC.ends MC.row MC.sz).mono ?_;rintro e w1 ⟨we,wi,wn,S,rfl,ho,aP⟩;obtain⟨A1,c1,rfl,-,-,-⟩:=id ho.read.1;obtain⟨AI,cI,rfl,-,-,-⟩:=id ho.read.2.1;obtain⟨AN,cN,rfl,-,-,-⟩:=id ho.read.2.2;obtain⟨g,rfl,-⟩:=ho.head zO;obtain⟨base,mz⟩:=J_ wa.heap.size
 rw[<- mz]at ho;have dw:ab wa w1:=hs.trans aP;obtain⟨w2,ip⟩:=J_ (w1.alloc (.cells #[.slice (some ⟨g,0,none⟩) n.ends.length c1,.slice AI n.ids.length cI,.slice AN n.agT.length cN] 30))
 obtain⟨bo,kv⟩:=J_ w1.heap.size
 have qT:ab w1 w2:=by rw[ip];exact ad _ (aa _)
 have H9:bB w2 bo (.slice (some ⟨g,0,none⟩) n.ends.length c1) (.slice AI n.ids.length cI) (.slice AN n.agT.length cN):=by rw[ip,kv];exact bB.new _ _ _ _ _
 have Ke:bo∉S:=fun hj=>zX ((ho.range _ hj).2)
 obtain⟨Bc,yH,yF,Aq,Ia,FU,eU⟩:=F_ mz ip kv (ho.agU qT.below) H9 Ke (dw.after qT)
 have Ib:Hid (base<=bo/\bo<w2.heap.size):=⟨by rw[mz,kv];exact dw.below.size,by rw[ip,kv];simp⟩
 have xW:=df hv;obtain⟨xv,lK⟩:=J_ (bZ n v)
 rw[<- lK]at xW;obtain⟨Co,HX2⟩:=A_ lK xW;have md:Hid (xv.length<=1000):=MC.row _ _ xW;clear mz ip kv ho H9 Ke dw qT aP hs lK xW U6 U7 U8
 have Yq:=df Lc;obtain⟨xu,lK⟩:=J_ (bZ n u)
 rw[<- lK]at Yq;obtain⟨Hxu,HXu⟩:=A_ lK Yq;have Z8:Hid (xu.length<=1000):=MC.row _ _ Yq;have qs:=md.out;have CK:=Z8.out
 have HL2:Hid (xv.length+1<=1000000):=by show _<=_;omega
 have Be:Hid (base<=w2.heap.size):=by show _<=_;have:=Ib.out;omega
 have m1:IntKind.i64.wrap ((xu.length:Int)+1)=(xu.length:Int)+1:=bU _ zO zO;clear qs CK lK Yq;obtain⟨uv,Tv,EH,-,hRv,-,-,-⟩:=Aq.ag0 HX2;obtain⟨Av,cv,rfl,-,-,-⟩:=id hRv.read;obtain⟨uu,Tu,f8,-,hRu,-,-,-⟩:=Aq.ag0 HXu;obtain⟨Au,cu,rfl,-,-,-⟩:=id hRu.read;have dK:=Ia.cells.1;clear hRv hRu
 by_cases hvu:v=u
 ·subst hvu;obtain rfl:xv=xu:=by rw[Hxu.out,Co.out]
  go_upto_region 2 with(fail);rw[<- yH.out,<- yF.out];have htt:((v:Int)=(v:Int))=True:=zS
  go_upto_region 6 with(fail);clear EH f8 dK htt;obtain⟨u2,T2,EE,Mf,vx,tQ,Bf,vy,mL⟩:=Aq.ag5 HX2;obtain⟨xX,xY,rfl,-,-,-⟩:=id vx.read;obtain⟨C5,tR⟩:=A_ vx mL;have Ic:g≠bo:=fun h=>FU.out (h ▸ vy)
  obtain⟨acm,K8,K9,La,Sd,Z7⟩:=E_ Ic Bf vy tQ EE Mf;have Lb:Hid (bo∉T2):=fun h=>FU (tQ _ h)
  have rc:=zh (bB.cells Ia.out);clear Ic Bf vy tQ EE Mf vx mL;refine az (fun W=>W.cell? ⟨bo,0,none⟩=some (.slice (some ⟨g,0,none⟩) n.ends.length c1)/\W.cell? ⟨g,v,none⟩=some (.slice xX xv.length xY)) 13 [false,false,false,false,false,false,false,false,false,false,false,true,true] zK zK (show(World.drew w2).cell? ⟨bo,0,none⟩=some (.slice (some ⟨g,0,none⟩) n.ends.length c1)/\(World.drew w2).cell? ⟨g,v,none⟩=some (.slice xX xv.length xY)from⟨rc.1,Sd⟩) ?_
  simp only[ew,dM,zT]
  iterate 11 (apply bC rfl;(intro W hW;(obtain⟨k0,k1⟩:=hW);go_simp;with_reducible rfl);simp only[zA])
  obtain⟨W,dh⟩:=J_ (World.drew w2)
  rw[<- dh];have hW:=(show(World.drew w2).cell? ⟨bo,0,none⟩=some (.slice (some ⟨g,0,none⟩) n.ends.length c1)/\(World.drew w2).cell? ⟨g,v,none⟩=some (.slice xX xv.length xY)from⟨rc.1,Sd⟩);rw[<- dh]at hW;have fK:=zh dh;clear dh
  refine ca (v:=?_) (ob:=?_) rfl ?_ ?_ ?_;rotate_left 2
  (go_simp;first | with_reducible rfl | (refine⟨?_,?_⟩ <;> with_reducible rfl))
  exact⟨bc (am _ _) hW.1,bc (am _ _) hW.2⟩;intro w8 k9 mD
  replace hW:=mD
  clear mD
  have Ie:Hid (w8=(World.drew w2).alloc (.cells #[.int .i64 (v:Int),.int .i64 ((xv.length:Int)+1)] 104)):=by show _=_;rw[k9,fK.out]
  have j6:Hid (ab w2 w8):=by show ab _ _;rw[Ie.out];exact ad _ (aj (aa _))
  have vT:Hid (eE w8 base (.slice xX xv.length xY) xv T2):=gY.agU C5 j6.below
  have DZ:Hid (w8.cell? ⟨w2.heap.size,0,none⟩=some (.int .i64 (v:Int))/\w8.cell? ⟨w2.heap.size,1,none⟩=some (.int .i64 ((xv.length:Int)+1))):=by show _/\_;rw[Ie.out];exact mJ (World.drew w2) _ _ _
  rw[show W.heap.size=w2.heap.size from by rw[fK.out];rfl]
  clear k9 fK
  (try simp only[zA])
  refine dA (fun Q' HQ=>?_)
  (refine lf (base:=base) (v:=.slice xX xv.length xY) (xs:=xv) rfl _ _ rfl rfl vT w2.heap.size ((v:Int),((xv.length:Int)+1)) rfl DZ.1 DZ.2 HL2 (Zak Be j6.below.size) ?_);intro g9 ON w9 gj vV C4;have fg:=aV.agZ vV;have Bg:(Value.slice xX xv.length xY).ownBlock.toList=T2:=(C5.2).symm;have ly:(⟨bo,0,none⟩:Addr).block∉(Value.slice xX xv.length xY).ownBlock.toList:=(by rw[Bg];exact Lb);have rC:(⟨g,v,none⟩:Addr).block∉(Value.slice xX xv.length xY).ownBlock.toList:=(by rw[Bg];exact K8);have lW:=fg.cell ly hW.1;have sV:=fg.cell rC hW.2;have PS:=fg.fz rC hW.2 (bf j6.below Sd Z7);refine HQ _ _ ⟨lW,sV⟩ ?_;have vW:=zh (sB tR.out C5.out j6.out gj vV C4 La.out K9.out);clear gj vV C4 ly rC fg Bg hW
  (try simp only[zA])
  simp only[bP];go_upto_region 7 with(fail);obtain⟨Sw5,dP,dY,qt⟩:=vW.out;obtain⟨w5,hw⟩:=J_ (w9.setCell ⟨g,v,none⟩ (.slice (some ⟨g9,0,none⟩) (xv.length+1) ON))
  rw[<- hw]at dP qt ⊢;obtain⟨Se,Ws,xZ⟩:=B_ dP dY qt;clear hw dP dY qt vW lW sV PS
  have Sf:Hid (bB w5 bo (.slice (some ⟨g,0,none⟩) n.ends.length c1) (.slice AI n.ids.length cI) (.slice AN n.agT.length cN)):=by obtain⟨r,hr⟩:=Ia.out;exact⟨r,(xZ.block bo Ib.2 FU).trans hr⟩
  have N3:Hid (bo∉Sw5):=fun hj=>by
   have h2:=Ib.out;rcases Ws.out _ hj with h1 | h1
   ·exact FU h1
   ·omega
  obtain⟨xw,Wt⟩:=J_ (xv++[((v:Int),(xv.length:Int)+1)])
  have HX5:Hid ((n.ends.set v (xv++[((v:Int),((xv.length:Int)+1))]))[v]?=some xw):=by show _=_;rw[Wt];rw[Zav zO]
  have HL5:Hid (xw.length+1<=1000000):=by show _<=_;have h1:=md.out;have h2:=Z8.out;rw[Wt];simp;omega
  have Bh:Hid (Below base w2 w5):=xZ.below base Be (fun j hj=>(Aq.range j hj).1)
  have Sg:Hid (base<=w5.heap.size):=Zak Be Bh.size;have Hxw:=zh Wt;clear Wt;have Mj:=Se;obtain⟨u5,T5,hu5,hf5,Z9,Ld,Sh,Le,Bi⟩:=Mj.ag5 HX5;obtain⟨Ig,Ih,rfl,-,-,-⟩:=id Z9.read;obtain⟨Z_,Lf⟩:=A_ Z9 Bi;have Si:g≠bo:=fun h=>N3.out (h ▸ Le)
  obtain⟨aes,aaa,aab,aac,Hu5,Hf5⟩:=E_ Si Sh Le Ld hu5 hf5;have aad:Hid (bo∉T5):=fun h=>N3 (Ld _ h)
  have XX:=zh (bB.cells Sf.out);clear Si Sh Le Ld hu5 hf5 Z9 Bi;refine az (fun W=>W.cell? ⟨bo,0,none⟩=some (.slice (some ⟨g,0,none⟩) n.ends.length c1)/\W.cell? ⟨g,v,none⟩=some (.slice Ig xw.length Ih)) 13 [false,false,false,false,false,false,false,false,false,false,false,true,true] zK zK (show(World.drew w5).cell? ⟨bo,0,none⟩=some (.slice (some ⟨g,0,none⟩) n.ends.length c1)/\(World.drew w5).cell? ⟨g,v,none⟩=some (.slice Ig xw.length Ih)from⟨XX.1,Hu5⟩) ?_
  simp only[ew,dM,zT]
  iterate 11 (apply bC rfl;(intro W hW;(obtain⟨k0,k1⟩:=hW);go_simp;with_reducible rfl);simp only[zA])
  obtain⟨W,dh⟩:=J_ (World.drew w5)
  rw[<- dh];have hW:=(show(World.drew w5).cell? ⟨bo,0,none⟩=some (.slice (some ⟨g,0,none⟩) n.ends.length c1)/\(World.drew w5).cell? ⟨g,v,none⟩=some (.slice Ig xw.length Ih)from⟨XX.1,Hu5⟩);rw[<- dh]at hW;have fK:=zh dh;clear dh
  refine ca (v:=?_) (ob:=?_) rfl ?_ ?_ ?_;rotate_left 2
  (go_simp;first | with_reducible rfl | (refine⟨?_,?_⟩ <;> with_reducible rfl))
  exact⟨bc (am _ _) hW.1,bc (am _ _) hW.2⟩;intro w8 k9 mD
  replace hW:=mD
  clear mD
  have Ie:Hid (w8=(World.drew w5).alloc (.cells #[.int .i64 (v:Int),.int .i64 (xv.length:Int)] 104)):=by show _=_;rw[k9,fK.out]
  have j6:Hid (ab w5 w8):=by show ab _ _;rw[Ie.out];exact ad _ (aj (aa _))
  have vT:Hid (eE w8 base (.slice Ig xw.length Ih) xw T5):=gY.agU Z_ j6.below
  have DZ:Hid (w8.cell? ⟨w5.heap.size,0,none⟩=some (.int .i64 (v:Int))/\w8.cell? ⟨w5.heap.size,1,none⟩=some (.int .i64 (xv.length:Int))):=by show _/\_;rw[Ie.out];exact mJ (World.drew w5) _ _ _
  rw[show W.heap.size=w5.heap.size from by rw[fK.out];rfl]
  clear k9 fK
  (try simp only[zA])
  refine dA (fun Q' HQ=>?_)
  (refine lf (base:=base) (v:=.slice Ig xw.length Ih) (xs:=xw) rfl _ _ rfl rfl vT w5.heap.size ((v:Int),(xv.length:Int)) rfl DZ.1 DZ.2 HL5 (Zak Sg j6.below.size) ?_);intro g9 ON w9 gj vV C4;have fg:=aV.agZ vV;have Bg:(Value.slice Ig xw.length Ih).ownBlock.toList=T5:=(Z_.2).symm;have ly:(⟨bo,0,none⟩:Addr).block∉(Value.slice Ig xw.length Ih).ownBlock.toList:=(by rw[Bg];exact aad);have rC:(⟨g,v,none⟩:Addr).block∉(Value.slice Ig xw.length Ih).ownBlock.toList:=(by rw[Bg];exact aaa);have lW:=fg.cell ly hW.1;have sV:=fg.cell rC hW.2;have PS:=fg.fz rC hW.2 (bf j6.below Hu5 Hf5);refine HQ _ _ ⟨lW,sV⟩ ?_;have vW:=zh (sB Lf.out Z_.out j6.out gj vV C4 aac.out aab.out);clear gj vV C4 ly rC fg Bg hW
  (try simp only[zA])
  simp only[bP];go_upto_region 8 with(fail);obtain⟨Sw7,dP,dY,qt⟩:=vW.out;obtain⟨w7,hw⟩:=J_ (w9.setCell ⟨g,v,none⟩ (.slice (some ⟨g9,0,none⟩) (xw.length+1) ON))
  rw[<- hw]at dP qt ⊢;obtain⟨aae,aet,Ii⟩:=B_ dP dY qt;clear hw dP dY qt vW lW sV PS
  have Yp:Hid (aw w7 base (.slice (some ⟨g,0,none⟩) n.ends.length c1) (.slice AI n.ids.length cI) (.slice AN n.agT.length cN) (dR n v v) Sw7):=by
   have h1:=aae.out
   have e:({ ends:=(n.ends.set v (xv++[((v:Int),((xv.length:Int)+1))])).set v (xw++[((v:Int),(xv.length:Int))]),ids:=n.ids,agT:=n.agT }:ao)=dR n v v:=by
    have h2:=HX5.out
    have h3:bZ ({ ends:=n.ends.set v (xv++[((v:Int),((xv.length:Int)+1))]),ids:=n.ids,agT:=n.agT }:ao) v=xw:=by unfold bZ;rw[zDd];show((n.ends.set v _)[v]?).getD []=xw;rw[h2];rfl
    unfold dR;rw[if_pos rfl,<- Co.out];unfold tP;rw[<- Co.out,h3]
   rw[<- e];exact h1
  have HBf:Hid (bB w7 bo (.slice (some ⟨g,0,none⟩) n.ends.length c1) (.slice AI n.ids.length cI) (.slice AN n.agT.length cN)):=by obtain⟨r,hr⟩:=Sf.out;exact⟨r,(Ii.out.block bo (zY Ib.out Bh.out.size) N3.out).trans hr⟩
  have If:Hid (Below base w2 w7):=Bh.trans (Ii.below base Sg (fun j hj=>(Mj.range j hj).1))
  have gP:bD w7 (w.heap.size+1) (.slice none 0 0) (.slice none 0 0) (.slice none 0 0):=(If.out.block _ (by have h2:=Bc.out;have h3:=GR.out;omega)).trans (Ap.out w2 eU.out)
  obtain⟨d0,d1,d2,-,-,-⟩:=HBf.cells;obtain⟨e0,e1,e2,f0,f1,f2⟩:=gP.box.cells;clear gP;go_wp2;refine bodyPost_ret (v:=.agg #[.slice (some ⟨g,0,none⟩) n.ends.length c1,.slice AI n.ids.length cI,.slice AN n.agT.length cN]) (by simp[results,Tryz.results149,go_sem, *]) rfl ?_;have hbz:=Bc.out;have hza:=GR.out;refine⟨_,_,_,_,rfl,(Yp.out.agV (fun j hj=>?_)).mono (show w.heap.size<=base by omega),?_⟩
  ·have zZ:=(Yp.range j hj).1;rw[Zan _ _ _ j (by simp;omega),Zan _ _ _ j (by simp;omega),Zan _ _ _ j (by simp;omega)]
  ·have hk:Below w.heap.size w w7:=(Zbw jR (eU.below.mono zO)).trans (If.mono zO);exact((hk.setCell zS _).setCell zS _).setCell zS _
 ·have jh:((v:Int)=(u:Int))=False:=by simp;omega
  go_upto_region 2 with(fail);rw[<- yH.out,<- yF.out];go_upto_region 6 with(fail);clear EH f8 dK jh;obtain⟨u2,T2,EE,Mf,vx,tQ,Bf,vy,mL⟩:=Aq.ag5 HX2;obtain⟨xX,xY,rfl,-,-,-⟩:=id vx.read;obtain⟨C5,tR⟩:=A_ vx mL;have Ic:g≠bo:=fun h=>FU.out (h ▸ vy)
  obtain⟨acm,K8,K9,La,Sd,Z7⟩:=E_ Ic Bf vy tQ EE Mf;have Lb:Hid (bo∉T2):=fun h=>FU (tQ _ h)
  have rc:=zh (bB.cells Ia.out);clear Ic Bf vy tQ EE Mf vx mL;refine az (fun W=>W.cell? ⟨bo,0,none⟩=some (.slice (some ⟨g,0,none⟩) n.ends.length c1)/\W.cell? ⟨g,v,none⟩=some (.slice xX xv.length xY)) 13 [false,false,false,false,false,false,false,false,false,false,false,true,true] zK zK (show(World.drew w2).cell? ⟨bo,0,none⟩=some (.slice (some ⟨g,0,none⟩) n.ends.length c1)/\(World.drew w2).cell? ⟨g,v,none⟩=some (.slice xX xv.length xY)from⟨rc.1,Sd⟩) ?_
  simp only[ew,dM,zT]
  iterate 11 (apply bC rfl;(intro W hW;(obtain⟨k0,k1⟩:=hW);go_simp;with_reducible rfl);simp only[zA])
  obtain⟨W,dh⟩:=J_ (World.drew w2)
  rw[<- dh];have hW:=(show(World.drew w2).cell? ⟨bo,0,none⟩=some (.slice (some ⟨g,0,none⟩) n.ends.length c1)/\(World.drew w2).cell? ⟨g,v,none⟩=some (.slice xX xv.length xY)from⟨rc.1,Sd⟩);rw[<- dh]at hW;have fK:=zh dh;clear dh
  refine ca (v:=?_) (ob:=?_) rfl ?_ ?_ ?_;rotate_left 2
  (go_simp;first | with_reducible rfl | (refine⟨?_,?_⟩ <;> with_reducible rfl))
  exact⟨bc (am _ _) hW.1,bc (am _ _) hW.2⟩;intro w8 k9 mD
  replace hW:=mD
  clear mD
  have Ie:Hid (w8=(World.drew w2).alloc (.cells #[.int .i64 (u:Int),.int .i64 (xu.length:Int)] 104)):=by show _=_;rw[k9,fK.out]
  have j6:Hid (ab w2 w8):=by show ab _ _;rw[Ie.out];exact ad _ (aj (aa _))
  have vT:Hid (eE w8 base (.slice xX xv.length xY) xv T2):=gY.agU C5 j6.below
  have DZ:Hid (w8.cell? ⟨w2.heap.size,0,none⟩=some (.int .i64 (u:Int))/\w8.cell? ⟨w2.heap.size,1,none⟩=some (.int .i64 (xu.length:Int))):=by show _/\_;rw[Ie.out];exact mJ (World.drew w2) _ _ _
  rw[show W.heap.size=w2.heap.size from by rw[fK.out];rfl]
  clear k9 fK
  (try simp only[zA])
  refine dA (fun Q' HQ=>?_)
  (refine lf (base:=base) (v:=.slice xX xv.length xY) (xs:=xv) rfl _ _ rfl rfl vT w2.heap.size ((u:Int),(xu.length:Int)) rfl DZ.1 DZ.2 HL2 (Zak Be j6.below.size) ?_);intro g9 ON w9 gj vV C4;have fg:=aV.agZ vV;have Bg:(Value.slice xX xv.length xY).ownBlock.toList=T2:=(C5.2).symm;have ly:(⟨bo,0,none⟩:Addr).block∉(Value.slice xX xv.length xY).ownBlock.toList:=(by rw[Bg];exact Lb);have rC:(⟨g,v,none⟩:Addr).block∉(Value.slice xX xv.length xY).ownBlock.toList:=(by rw[Bg];exact K8);have lW:=fg.cell ly hW.1;have sV:=fg.cell rC hW.2;have PS:=fg.fz rC hW.2 (bf j6.below Sd Z7);refine HQ _ _ ⟨lW,sV⟩ ?_;have vW:=zh (sB tR.out C5.out j6.out gj vV C4 La.out K9.out);clear gj vV C4 ly rC fg Bg hW
  (try simp only[zA])
  simp only[bP];go_upto_region 7 with(fail);obtain⟨Sw5,dP,dY,qt⟩:=vW.out;obtain⟨w5,hw⟩:=J_ (w9.setCell ⟨g,v,none⟩ (.slice (some ⟨g9,0,none⟩) (xv.length+1) ON))
  rw[<- hw]at dP qt ⊢;obtain⟨Se,Ws,xZ⟩:=B_ dP dY qt;clear hw dP dY qt vW lW sV PS
  have Sf:Hid (bB w5 bo (.slice (some ⟨g,0,none⟩) n.ends.length c1) (.slice AI n.ids.length cI) (.slice AN n.agT.length cN)):=by obtain⟨r,hr⟩:=Ia.out;exact⟨r,(xZ.block bo Ib.2 FU).trans hr⟩
  have N3:Hid (bo∉Sw5):=fun hj=>by
   have h2:=Ib.out;rcases Ws.out _ hj with h1 | h1
   ·exact FU h1
   ·omega
  obtain⟨xw,Wt⟩:=J_ xu
  have HX5:Hid ((n.ends.set v (xv++[((u:Int),(xu.length:Int))]))[u]?=some xw):=by show _=_;rw[Wt];rw[Zaw hvu];exact HXu
  have HL5:Hid (xw.length+1<=1000000):=by show _<=_;have h1:=md.out;have h2:=Z8.out;rw[Wt];omega
  have Bh:Hid (Below base w2 w5):=xZ.below base Be (fun j hj=>(Aq.range j hj).1)
  have Sg:Hid (base<=w5.heap.size):=Zak Be Bh.size;have Hxw:=zh Wt;clear Wt;have Mj:=Se;obtain⟨u5,T5,hu5,hf5,Z9,Ld,Sh,Le,Bi⟩:=Mj.ag5 HX5;obtain⟨Ig,Ih,rfl,-,-,-⟩:=id Z9.read;obtain⟨Z_,Lf⟩:=A_ Z9 Bi;have Si:g≠bo:=fun h=>N3.out (h ▸ Le)
  obtain⟨aes,aaa,aab,aac,Hu5,Hf5⟩:=E_ Si Sh Le Ld hu5 hf5;have aad:Hid (bo∉T5):=fun h=>N3 (Ld _ h)
  have XX:=zh (bB.cells Sf.out);clear Si Sh Le Ld hu5 hf5 Z9 Bi;refine az (fun W=>W.cell? ⟨bo,0,none⟩=some (.slice (some ⟨g,0,none⟩) n.ends.length c1)/\W.cell? ⟨g,u,none⟩=some (.slice Ig xw.length Ih)) 13 [false,false,false,false,false,false,false,false,false,false,false,true,true] zK zK (show(World.drew w5).cell? ⟨bo,0,none⟩=some (.slice (some ⟨g,0,none⟩) n.ends.length c1)/\(World.drew w5).cell? ⟨g,u,none⟩=some (.slice Ig xw.length Ih)from⟨XX.1,Hu5⟩) ?_
  simp only[ew,dM,zT]
  iterate 11 (apply bC rfl;(intro W hW;(obtain⟨k0,k1⟩:=hW);go_simp;with_reducible rfl);simp only[zA])
  obtain⟨W,dh⟩:=J_ (World.drew w5)
  rw[<- dh];have hW:=(show(World.drew w5).cell? ⟨bo,0,none⟩=some (.slice (some ⟨g,0,none⟩) n.ends.length c1)/\(World.drew w5).cell? ⟨g,u,none⟩=some (.slice Ig xw.length Ih)from⟨XX.1,Hu5⟩);rw[<- dh]at hW;have fK:=zh dh;clear dh
  refine ca (v:=?_) (ob:=?_) rfl ?_ ?_ ?_;rotate_left 2
  (go_simp;first | with_reducible rfl | (refine⟨?_,?_⟩ <;> with_reducible rfl))
  exact⟨bc (am _ _) hW.1,bc (am _ _) hW.2⟩;intro w8 k9 mD
  replace hW:=mD
  clear mD
  have Ie:Hid (w8=(World.drew w5).alloc (.cells #[.int .i64 (v:Int),.int .i64 (xv.length:Int)] 104)):=by show _=_;rw[k9,fK.out]
  have j6:Hid (ab w5 w8):=by show ab _ _;rw[Ie.out];exact ad _ (aj (aa _))
  have vT:Hid (eE w8 base (.slice Ig xw.length Ih) xw T5):=gY.agU Z_ j6.below
  have DZ:Hid (w8.cell? ⟨w5.heap.size,0,none⟩=some (.int .i64 (v:Int))/\w8.cell? ⟨w5.heap.size,1,none⟩=some (.int .i64 (xv.length:Int))):=by show _/\_;rw[Ie.out];exact mJ (World.drew w5) _ _ _
  rw[show W.heap.size=w5.heap.size from by rw[fK.out];rfl]
  clear k9 fK
  (try simp only[zA])
  refine dA (fun Q' HQ=>?_)
  (refine lf (base:=base) (v:=.slice Ig xw.length Ih) (xs:=xw) rfl _ _ rfl rfl vT w5.heap.size ((v:Int),(xv.length:Int)) rfl DZ.1 DZ.2 HL5 (Zak Sg j6.below.size) ?_);intro g9 ON w9 gj vV C4;have fg:=aV.agZ vV;have Bg:(Value.slice Ig xw.length Ih).ownBlock.toList=T5:=(Z_.2).symm;have ly:(⟨bo,0,none⟩:Addr).block∉(Value.slice Ig xw.length Ih).ownBlock.toList:=(by rw[Bg];exact aad);have rC:(⟨g,u,none⟩:Addr).block∉(Value.slice Ig xw.length Ih).ownBlock.toList:=(by rw[Bg];exact aaa);have lW:=fg.cell ly hW.1;have sV:=fg.cell rC hW.2;have PS:=fg.fz rC hW.2 (bf j6.below Hu5 Hf5);refine HQ _ _ ⟨lW,sV⟩ ?_;have vW:=zh (sB Lf.out Z_.out j6.out gj vV C4 aac.out aab.out);clear gj vV C4 ly rC fg Bg hW
  (try simp only[zA])
  simp only[bP];go_upto_region 8 with(fail);obtain⟨Sw7,dP,dY,qt⟩:=vW.out;obtain⟨w7,hw⟩:=J_ (w9.setCell ⟨g,u,none⟩ (.slice (some ⟨g9,0,none⟩) (xw.length+1) ON))
  rw[<- hw]at dP qt ⊢;obtain⟨aae,aet,Ii⟩:=B_ dP dY qt;clear hw dP dY qt vW lW sV PS
  have Yp:Hid (aw w7 base (.slice (some ⟨g,0,none⟩) n.ends.length c1) (.slice AI n.ids.length cI) (.slice AN n.agT.length cN) (dR n v u) Sw7):=by
   have h1:=aae.out
   have e:({ ends:=(n.ends.set v (xv++[((u:Int),(xu.length:Int))])).set u (xw++[((v:Int),(xv.length:Int))]),ids:=n.ids,agT:=n.agT }:ao)=dR n v u:=by
    have h2:=HX5.out
    have h3:bZ ({ ends:=n.ends.set v (xv++[((u:Int),(xu.length:Int))]),ids:=n.ids,agT:=n.agT }:ao) u=xw:=by unfold bZ;rw[zDd];show((n.ends.set v _)[u]?).getD []=xw;rw[h2];rfl
    unfold dR;rw[if_neg hvu,<- Co.out,<- Hxu.out];unfold tP;rw[<- Co.out,h3]
   rw[<- e];exact h1
  have HBf:Hid (bB w7 bo (.slice (some ⟨g,0,none⟩) n.ends.length c1) (.slice AI n.ids.length cI) (.slice AN n.agT.length cN)):=by obtain⟨r,hr⟩:=Sf.out;exact⟨r,(Ii.out.block bo (zY Ib.out Bh.out.size) N3.out).trans hr⟩
  have If:Hid (Below base w2 w7):=Bh.trans (Ii.below base Sg (fun j hj=>(Mj.range j hj).1))
  have gP:bD w7 (w.heap.size+1) (.slice none 0 0) (.slice none 0 0) (.slice none 0 0):=(If.out.block _ (by have h2:=Bc.out;have h3:=GR.out;omega)).trans (Ap.out w2 eU.out)
  obtain⟨d0,d1,d2,-,-,-⟩:=HBf.cells;obtain⟨e0,e1,e2,f0,f1,f2⟩:=gP.box.cells;clear gP;go_wp2;refine bodyPost_ret (v:=.agg #[.slice (some ⟨g,0,none⟩) n.ends.length c1,.slice AI n.ids.length cI,.slice AN n.agT.length cN]) (by simp[results,Tryz.results149,go_sem, *]) rfl ?_;have hbz:=Bc.out;have hza:=GR.out;refine⟨_,_,_,_,rfl,(Yp.out.agV (fun j hj=>?_)).mono (show w.heap.size<=base by omega),?_⟩
  ·have zZ:=(Yp.range j hj).1;rw[Zan _ _ _ j (by simp;omega),Zan _ _ _ j (by simp;omega),Zan _ _ _ j (by simp;omega)]
  ·have hk:Below w.heap.size w w7:=(Zbw jR (eU.below.mono zO)).trans (If.mono zO);exact((hk.setCell zS _).setCell zS _).setCell zS _
def Ij (n:ao) (e:Int×Int):Prop:=∃(a b:Nat) (fs:List (Int×Int)),e=((a:Int),(b:Int))/\n.ends[a]?=some fs/\b<fs.length
def Vg (n:ao):Prop:=∀(k:Nat) (es:List (Int×Int)),n.ends[k]?=some es->∀e∈es,Ij n e
def rD (n N:ao):Prop:=∀(k:Nat) (es:List (Int×Int)),N.ends[k]?=some es->∀e∈es,Ij n e
structure kL (n N:ao):Prop where
 ids:N.ids=n.ids
 agT:N.agT=n.agT
 len:N.ends.length=n.ends.length
 row:∀(k:Nat) (es:List (Int×Int)),n.ends[k]?=some es->∃fs,N.ends[k]?=some fs/\fs.length=es.length
theorem kL.refl (n:ao):kL n n:=⟨rfl,rfl,rfl,fun _ es h=>⟨es,h,rfl⟩⟩
theorem Ij.sh {n N:ao} (h:kL n N) {e:Int×Int} (he:Ij n e):Ij N e:=by
 obtain⟨a,b,fs,h1,h2,h3⟩:=he;obtain⟨gs,h4,h5⟩:=h.row a fs h2;exact⟨a,b,gs,h1,h4,zO⟩
theorem rD.wf {n N:ao} (h:kL n N) (ha:rD n N):Vg N:=fun k es he e hm=>(ha k es he e hm).sh h
theorem kL.put {n N:ao} (h:kL n N) {k j:Nat} {es:List (Int×Int)} (hx:N.ends[k]?=some es) (y:Int×Int):kL n { N with ends:=N.ends.set k (es.set j y) }:=⟨h.ids,h.agT,by show(N.ends.set k _).length=_;rw[Zau];exact h.len,fun q fs hq=>by
 obtain⟨gs,h1,h2⟩:=h.row q fs hq
 by_cases e:q=k
 ·subst e;refine⟨es.set j y,?_,?_⟩
  ·show(N.ends.set q _)[q]?=_
   rw[Zav (ah hx)]
  ·rw[hx]at h1;cases h1;rw[Zau];exact h2
 ·exact⟨gs,by show(N.ends.set k _)[q]?=_;rw[Zaw (Ne.symm e)];exact h1,h2⟩⟩
theorem rD.put {n N:ao} (h:rD n N) {k j:Nat} {es:List (Int×Int)} (hx:N.ends[k]?=some es) {y:Int×Int} (hy:Ij n y):rD n { N with ends:=N.ends.set k (es.set j y) }:=fun q fs hq e he=>by
 by_cases hqk:q=k
 ·subst hqk;have Yg:(N.ends.set q (es.set j y))[q]?=some fs:=hq;rw[Zav (ah hx)]at Yg;cases Yg;rcases List.mem_or_eq_of_mem_set he with h1 | h1
  ·exact h q es hx e h1
  ·rw[h1];exact hy
 ·have Yg:(N.ends.set k (es.set j y))[q]?=some fs:=hq;rw[Zaw (Ne.symm hqk)]at Yg;exact h q fs Yg e he
structure Cp (wa W:World) (ob g c m:Nat) (vi vn:Value) (N:ao) (S:List Nat):Prop where
 own:aw W wa.heap.size (.slice (some ⟨g,0,none⟩) m c) vi vn N S
 box:bB W ob (.slice (some ⟨g,0,none⟩) m c) vi vn
 nb:ob∉S
 since:ab wa W
theorem Cp.agU {wa W W':World} {ob g c m:Nat} {vi vn:Value} {N:ao} {S:List Nat} (h:Cp wa W ob g c m vi vn N S) (hs:ab W W'):Cp wa W' ob g c m vi vn N S:=
 ⟨h.own.agU hs.below,h.box.below hs h.box.lt,h.nb,h.since.after hs⟩
theorem Cp.put {wa W:World} {ob g c m:Nat} {vi vn:Value} {N:ao} {S:List Nat} (h:Cp wa W ob g c m vi vn N S) {p:Addr} (hp:wa.heap.size<=p.block) (hS:p.block∉S) (ho:p.block≠ob) (u:Value):Cp wa (W.setCell p u) ob g c m vi vn N S:=
 ⟨h.own.agV (fun k hk=>Zan _ _ _ _ (fun e=>hS (e ▸ hk))),h.box.set ho,h.nb,h.since.setCell hp _⟩
theorem Cp.port {wa W:World} {ob g c m:Nat} {vi vn:Value} {N:ao} {S:List Nat} (h:Cp wa W ob g c m vi vn N S) {k j:Nat} {es:List (Int×Int)} (hx:N.ends[k]?=some es) (hj:j<es.length):
  ∃gr cr:Nat,W.cell? ⟨g,k,none⟩=some (.slice (some ⟨gr,0,none⟩) es.length cr)/\es.length<=cr/\cr<=9223372036854775807/\gr∈S/\g≠gr/\gr≠ob/\W.frozen? ⟨gr,j*2,none⟩=false/\W.frozen? ⟨gr,j*2+1,none⟩=false/\(∃z,W.cell? ⟨gr,j*2,none⟩=some z)/\(∃z,W.cell? ⟨gr,j*2+1,none⟩=some z) /\
   ∀y:Int×Int,Cp wa ((W.setCell ⟨gr,j*2,none⟩ (.int .i64 y.1)).setCell ⟨gr,j*2+1,none⟩ (.int .i64 y.2)) ob g c m vi vn { N with ends:=N.ends.set k (es.set j y) } S:=by
 obtain⟨gr,cr,c1,c2,c3,c4,c5,c6,⟨c7,c8⟩,c9,c10,kh⟩:=h.own.ag7 hx hj;have hgs:wa.heap.size<=gr:=(h.own.range gr c5).1;have hn:gr≠ob:=fun e=>h.nb (e ▸ c5)
 unfold maxLen at c3;exact⟨gr,cr,c1,c2,zO,c5,c6,hn,c7,c8,c9,c10,fun y=>⟨kh y,(h.box.set hn).set hn,h.nb,(h.since.setCell hgs _).setCell hgs _⟩⟩
def acn (w:World) (n:ao) (e:Ending) (w':World):Prop:=∃N,kL n N/\Vg N/\tB w N e w'
theorem Ik (ve vi vn vp:Value) (n:ao) (v:Nat) (xs:List Int) (w:World) (h:aR w ve vi vn n) (hv:v<n.ends.length) (hn:tO n) (Wu:Vg n) (hp:bs w vp xs) (VU:xs.length=(bZ n v).length) (dV:tN (bZ n v).length xs):
  Calls Tryz.prog 174 #[.agg #[ve,vi,vn],.int .i64 v,vp] w (acn w n):=by
 obtain⟨xv,lK⟩:=J_ (bZ n v)
 rw[<- lK]at VU dV;have xW:=df hv;rw[<- lK]at xW;obtain⟨dG,Mq,HXV,MC,Hwf⟩:=D_ dV VU xW hn Wu;have md:Hid (xv.length<=1000):=hn.row _ _ xW;clear hn Wu xW lK VU dV;obtain⟨AP,cP,rfl,hlP,hmP,-⟩:=id hp
 obtain⟨w0,A,c,A2,c2,A3,c3,rfl,rfl,rfl,fR,hm,gC,jz,HA,H,cD,aY,fp,fE,fM⟩:=zB h;clear h
 obtain⟨wa,mF⟩:=J_ (w0.alloc (.cells #[.slice none 0 0,.slice none 0 0,.slice none 0 0] 30))
 have pQ:ab w0 wa:=by rw[mF];exact ad _ (aa _)
 have pL:w0.heap.size=w.heap.size+1:=by rw[cD.out];simp
 have GR:Hid (wa.heap.size=w.heap.size+1+1):=by show _=_;rw[mF,<- pL];simp
 have Ap:Hid (∀X,ab wa X->bD X (w.heap.size+1) (.slice none 0 0) (.slice none 0 0) (.slice none 0 0)):=fun X hX=>by
  refine bD.since (W:=wa) ?_ hX;rw[mF,<- pL];show(w0.heap.push _)[w0.heap.size]?=_
  rw[Zbc]
 obtain⟨HP,HN⟩:=A_ (show ∀X,ab wa X->bs X (.slice AP xs.length cP) xs from fun X hX=>(hp.agU aY.out).agU (pQ.after hX).below) (show ∀X,ab wa X->aR X (.slice A n.ends.length c) (.slice A2 n.ids.length c2) (.slice A3 n.agT.length c3) n from fun X hX=>H.out.agU (pQ.after hX).below)
 have U6:=al fp pQ;have U7:=al fE pQ;have U8:=al fM pQ;obtain⟨Kr,py⟩:=A_ mF pQ;have jR:Hid (Below w.heap.size w wa):=Zbw aY (pQ.below.mono aY.size);clear mF pQ pL fp fE fM hp
 go_enter Tryz.func174,Tryz.ntmps174
 go_upto_region 1 with(fail);rw[<- cD.out,<- Kr.out];have hs:ab wa wa:=aa _;go_wp2_with fail;refine(mi _ _ _ n wa (HN _ hs) MC.ends MC.row MC.sz).mono ?_;rintro e w1 ⟨we,wi,wn,S,rfl,ho,aP⟩;obtain⟨A1,c1,rfl,-,-,-⟩:=id ho.read.1;obtain⟨AI,cI,rfl,-,-,-⟩:=id ho.read.2.1;obtain⟨AN,cN,rfl,-,-,-⟩:=id ho.read.2.2;obtain⟨g,rfl,-⟩:=ho.head zO;have dw:ab wa w1:=hs.trans aP;obtain⟨w2,ip⟩:=J_ (w1.alloc (.cells #[.slice (some ⟨g,0,none⟩) n.ends.length c1,.slice AI n.ids.length cI,.slice AN n.agT.length cN] 30))
 obtain⟨bo,kv⟩:=J_ w1.heap.size
 have qT:ab w1 w2:=by rw[ip];exact ad _ (aa _)
 have Fj:Cp wa w2 bo g c1 n.ends.length (.slice AI n.ids.length cI) (.slice AN n.agT.length cN) n S:=by
  refine⟨ho.agU qT.below,by rw[ip,kv];exact bB.new _ _ _ _ _,fun hj=>zX ((ho.range _ hj).2),dw.after qT⟩
 obtain⟨Hcp,yH,yF⟩:=B_ Fj ip kv;have fH:=dw.after qT
 have Ib:Hid (wa.heap.size<=bo/\bo<w2.heap.size):=⟨by rw[kv];exact dw.below.size,by rw[ip,kv];simp⟩
 have HSr:Hid (∀j∈S,wa.heap.size<=j/\j<w2.heap.size):=Fj.own.range;obtain⟨br,CV,cr0,ur,hA0,-,hrc,hEr⟩:=iK (HN wa (aa _)).es HXV;cases hA0;obtain⟨A9,y9,rfl,dP,dY,hA9⟩:=hEr;unfold maxLen at dY;have HA9:=zh hA9;have r0:=al (ae hrc) fH;have m00:=al U6 fH;have m01:=al U7 fH;have m02:=al U8 fH;have dK:=Fj.box.cells.1;clear hA9 hrc Fj kv ip ho dw qT aP hs U6 U7 U8;go_upto_region 2 with(fail);rw[<- yH.out,<- yF.out];have eU:=zh fH;clear fH dK;have yt:=r0 w2 (aa _);have m0':=m00 w2 (aa _);clear r0 m00 m01 m02;go_wp2;clear yt m0'
 go_loopw [18] (fun i wr=>∃(k:Nat) (N:ao),k<=xv.length/\i=.int .i64 k/\Cp wa wr bo g c1 n.ends.length (.slice AI n.ids.length cI) (.slice AN n.agT.length cN) N S/\kL n N/\rD n N) (fun i _=>xv.length-(intOf i).toNat)
 case atStart=>exact⟨0,n,Zac _,rfl,Hcp,kL.refl _,Hwf⟩
 case round=>
  obtain⟨k,N,hk,rfl,Fj,iR,hal⟩:=hrel;obtain⟨aeu,wH,Hal,qu⟩:=C_ Fj iR hal Fj.since;clear iR hal
  by_cases aA:k<xv.length
  ·obtain⟨e,he⟩:=au xv k aA;obtain⟨a,b,fs,rfl,Wv,oU⟩:=Hwf v xv HXV e (Zaq he);obtain⟨b9,o9,rfl,yj,uJ⟩:=HA9 k _ he;have s1:=ae yj wr qu;have s2:=ae uJ wr qu
   obtain⟨p,hp⟩:=au xs k (by rw[Mq.out];exact aA)
   obtain⟨AP',cP',Ww,-,-,hP⟩:=HP wr qu;simp only[Value.slice.injEq]at Ww;obtain⟨rfl,-,rfl⟩:=Ww;obtain⟨bp,op,rfl,jg⟩:=hP k p hp;obtain⟨hp0,Me⟩:=dG p (Zaq hp);obtain⟨pn,rfl⟩:∃pn:Nat,p=(pn:Int):=⟨p.toNat,zO⟩
   have XT:pn<xv.length:=zO
   have m4:=zw k;obtain⟨w3,ib⟩:=J_ (wr.alloc (.cells #[.int .i64 (a:Int),.int .i64 (b:Int)] 104))
   obtain⟨eb,tG⟩:=J_ wr.heap.size
   have h3:ab wr w3:=by rw[ib];exact ad _ (aa _)
   have hE3:fF w3 eb #[.int .i64 (a:Int),.int .i64 (b:Int)]:=by rw[ib,tG];exact fF.new _ _ _
   have HE3:=zh hE3
   have Wx:Hid (eb∉S):=fun hj=>zX ((Fj.own.range _ hj).2)
   have aev:Hid (eb≠bo):=fun e=>zX Fj.box.lt
   have aew:Hid (wa.heap.size<=eb):=by show _<=_;rw[tG];exact Fj.since.below.size
   have aaf:=zh (Fj.agU h3);have t1:=(hE3.cell 0 _ rfl).1;have t2:=(hE3.cell 1 _ rfl).1;have f2:=(hE3.cell 1 _ rfl).2;have pc3:=bc h3.below jg;obtain⟨yI,Wm,Hp,Hfa,Hx,H3⟩:=E_ ib tG hp Wv hE3 h3;clear Fj he yj uJ hp0 Me hp jg hP ib tG hE3 h3 Wv;go_upto_region 5 with(fail);rw[<- yI.out,<- Wm.out];clear s1 s2
   by_cases hav:a=v
   ·subst hav
    obtain rfl:fs=xv:=by have h1:=Hfa.out;rw[HXV.out]at h1;cases h1;rfl
    obtain⟨q,hq⟩:=au xs b (by rw[Mq.out];exact oU)
    obtain⟨AP',cP',Ww,-,-,hP⟩:=HP w3 (qu.after H3);simp only[Value.slice.injEq]at Ww;obtain⟨Ww,-,rfl⟩:=Ww;obtain⟨bp',op',hA7,hqc⟩:=hP b q hq
    obtain⟨rfl,rfl⟩:bp=bp'/\op=op':=by rw[hA7]at Ww;simpa using Ww
    obtain⟨hq0,th⟩:=dG q (Zaq hq);have Sj:Hid (Ij n ((a:Int),q)):=⟨a,q.toNat,fs,by rw[Zcl hq0],HXV,zO⟩
    clear Ww hA7 hP hq hq0 th;have htt:((a:Int)=(a:Int))=True:=zS
    have agp:b<xs.length:=by rw[Mq.out];exact oU
    go_upto_region 8 with(fail);obtain⟨w4,km⟩:=J_ (w3.setCell ⟨eb,1,none⟩ (.int .i64 q))
    rw[<- km]
    have hE4:fF w4 eb #[.int .i64 (a:Int),.int .i64 q]:=by rw[km];exact rB Hx 1 _
    have Lg:Hid (Cp wa w4 bo g c1 n.ends.length (.slice AI n.ids.length cI) (.slice AN n.agT.length cN) N S):=by show Cp _ _ _ _ _ _ _ _ _ _;rw[km];exact aaf.put (p:=⟨eb,1,none⟩) aew Wx aev _
    clear pc3 t1 t2 f2 hqc htt km;have Sk:=zh Lg.out.since;obtain⟨gv,G3,aex⟩:=wH.row a fs HXV;obtain⟨gr,cr,l8,n1',n2',n3',n4',n5',f0',f1',⟨z0',yG⟩,⟨z1',FX⟩,kh⟩:=Lg.port (j:=pn) G3 zO;have kh:=kh ((a:Int),(q:Int));obtain⟨Il,Rx⟩:=A_ kh G3;have DF:pn<gv.length:=zO
    have hgn:gr≠eb:=fun e=>Wx.out (e ▸ n3')
    clear kh G3;have t0:=ae Lg.box.cells.1;have t4:=ae l8;have t1':=ae (hE4.cell 0 _ rfl).1;have t2':=ae (hE4.cell 1 _ rfl).1;obtain⟨AP5,cP5,OQ,-,-,hP5⟩:=HP w4 Sk;simp only[Value.slice.injEq]at OQ;obtain⟨OQ,-,rfl⟩:=OQ;obtain⟨bp5,op5,X4,Sp⟩:=hP5 k _ Hp
    obtain⟨rfl,rfl⟩:bp=bp5/\op=op5:=by rw[X4]at OQ;simpa using OQ
    have pc':=ae Sp
    have hkx:k<xs.length:=by rw[Mq.out];exact aA
    clear OQ X4 hP5 Sp hE4;refine fl (w0:=w4) 11 [false,false,false,false,false,false,false,false,false,false,false] zK zK (aa _) ?_;simp only[ew,dM,zT]
    iterate 11 (apply ef rfl;(intro W hW;go_simp;with_reducible rfl);simp only[zA])
    simp only[oK,bP];obtain⟨W,dh⟩:=J_ (World.drew w4)
    rw[<- dh]
    have hW:ab w4 W:=by rw[dh];exact aj (aa _)
    go_upto_region 9 with(fail);obtain⟨w5,vS⟩:=J_ (World.drew ((w4.setCell ⟨gr,pn*2,none⟩ (.int .i64 (a:Int))).setCell ⟨gr,pn*2+1,none⟩ (.int .i64 (q:Int))))
    rw[<- vS]
    have aag:Hid (Cp wa w5 bo g c1 n.ends.length (.slice AI n.ids.length cI) (.slice AN n.agT.length cN) ({ N with ends:=N.ends.set a (gv.set pn ((a:Int),(q:Int))) }:ao) S):=by show Cp _ _ _ _ _ _ _ _ _ _;rw[vS];exact Il.agU (aj (aa _))
    obtain⟨aah,aai⟩:=A_ (wH.out.put (j:=pn) Rx.out ((a:Int),(q:Int))) (Hal.out.put (j:=pn) Rx.out Sj.out);clear vS Il l8 yG FX f0' f1' t0 t4 t1' t2' pc';go_wp2;go_roundw
    exact⟨k+1,_,zO,zN,aag,aah,aai⟩
    simp[intOf];omega
   ·have jh:((a:Int)=(v:Int))=False:=by simp;omega
    obtain⟨ga,hga,agq⟩:=wH.row a fs Hfa;obtain⟨gr,cr,l8,n1',n2',n3',n4',n5',f0',f1',⟨z0',yG⟩,⟨z1',FX⟩,kh⟩:=aaf.port (j:=b) hga zO;have Sj:Hid (Ij n ((v:Int),(pn:Int))):=⟨v,pn,xv,rfl,HXV,XT⟩;have kh:=kh ((v:Int),(pn:Int));obtain⟨Il,Hga⟩:=A_ kh hga;have DF:b<ga.length:=zO
    have hgn:gr≠eb:=fun e=>Wx.out (e ▸ n3')
    have hal:a<n.ends.length:=ah Hfa
    have agr:k<xs.length:=by rw[Mq.out];exact aA
    clear kh hga;go_upto_region 7 with(fail);clear jh;have t0:=ae aaf.box.cells.1;have t4:=ae l8;have t1':=ae t1;have t2':=ae t2;have pc':=ae pc3;clear t1 t2 pc3;refine fl (w0:=w3) 15 [false,false,false,false,false,false,false,false,false,false,false,false,false,false,false] zK zK (aa _) ?_;simp only[ew,dM,zT]
    iterate 15 (apply ef rfl;(intro W hW;go_simp;with_reducible rfl);simp only[zA])
    simp only[oK,bP];obtain⟨W,dh⟩:=J_ (World.drew w3)
    rw[<- dh]
    have hW:ab w3 W:=by rw[dh];exact aj (aa _)
    go_upto_region 8 with(fail);obtain⟨w4,km⟩:=J_ (World.drew ((w3.setCell ⟨gr,b*2,none⟩ (.int .i64 (v:Int))).setCell ⟨gr,b*2+1,none⟩ (.int .i64 (pn:Int))))
    rw[<- km]
    have Sr:Hid (Cp wa w4 bo g c1 n.ends.length (.slice AI n.ids.length cI) (.slice AN n.agT.length cN) ({ N with ends:=N.ends.set a (ga.set b ((v:Int),(pn:Int))) }:ao) S):=by show Cp _ _ _ _ _ _ _ _ _ _;rw[km];exact Il.agU (aj (aa _))
    have hE4:fF w4 eb #[.int .i64 (a:Int),.int .i64 (b:Int)]:=by rw[km];exact(Hx.set (p:=⟨gr,b*2,none⟩) hgn).set (p:=⟨gr,b*2+1,none⟩) hgn
    obtain⟨Su,Yr⟩:=A_ (wH.out.put (j:=b) Hga.out ((v:Int),(pn:Int))) (Hal.out.put (j:=b) Hga.out Sj.out);obtain⟨N4,hN4⟩:=J_ ({ N with ends:=N.ends.set a (ga.set b ((v:Int),(pn:Int))) }:ao)
    rw[<- hN4]at Sr Su Yr;have Lg:=Sr;clear km Il l8 yG FX f0' f1' t0 t4 t1' t2' pc' n1' n2' n3' n4' n5' hgn f2 hN4 Sr;have aco:Hid (Ij n ((a:Int),(b:Int))):=⟨a,b,fs,rfl,Hfa,oU⟩;clear Sj;have Sj:=aco;clear aco;have Sk:=zh Lg.out.since;obtain⟨gv,G3,aex⟩:=Su.row v xv HXV;obtain⟨gr,cr,l8,n1',n2',n3',n4',n5',f0',f1',⟨z0',yG⟩,⟨z1',FX⟩,kh⟩:=Lg.port (j:=pn) G3 zO;have kh:=kh ((a:Int),(b:Int));obtain⟨Il,Rx⟩:=A_ kh G3;have DF:pn<gv.length:=zO
    have hgn:gr≠eb:=fun e=>Wx.out (e ▸ n3')
    clear kh G3;have t0:=ae Lg.box.cells.1;have t4:=ae l8;have t1':=ae (hE4.cell 0 _ rfl).1;have t2':=ae (hE4.cell 1 _ rfl).1;obtain⟨AP5,cP5,OQ,-,-,hP5⟩:=HP w4 Sk;simp only[Value.slice.injEq]at OQ;obtain⟨OQ,-,rfl⟩:=OQ;obtain⟨bp5,op5,X4,Sp⟩:=hP5 k _ Hp
    obtain⟨rfl,rfl⟩:bp=bp5/\op=op5:=by rw[X4]at OQ;simpa using OQ
    have pc':=ae Sp
    have hkx:k<xs.length:=by rw[Mq.out];exact aA
    clear OQ X4 hP5 Sp hE4;refine fl (w0:=w4) 11 [false,false,false,false,false,false,false,false,false,false,false] zK zK (aa _) ?_;simp only[ew,dM,zT]
    iterate 11 (apply ef rfl;(intro W hW;go_simp;with_reducible rfl);simp only[zA])
    simp only[oK,bP];obtain⟨W,dh⟩:=J_ (World.drew w4)
    rw[<- dh]
    have hW:ab w4 W:=by rw[dh];exact aj (aa _)
    go_upto_region 9 with(fail);obtain⟨w5,vS⟩:=J_ (World.drew ((w4.setCell ⟨gr,pn*2,none⟩ (.int .i64 (a:Int))).setCell ⟨gr,pn*2+1,none⟩ (.int .i64 (b:Int))))
    rw[<- vS]
    have aag:Hid (Cp wa w5 bo g c1 n.ends.length (.slice AI n.ids.length cI) (.slice AN n.agT.length cN) ({ N4 with ends:=N4.ends.set v (gv.set pn ((a:Int),(b:Int))) }:ao) S):=by show Cp _ _ _ _ _ _ _ _ _ _;rw[vS];exact Il.agU (aj (aa _))
    obtain⟨aah,aai⟩:=A_ (Su.out.put (j:=pn) Rx.out ((a:Int),(b:Int))) (Yr.out.put (j:=pn) Rx.out Sj.out);clear vS Il l8 yG FX f0' f1' t0 t4 t1' t2' pc';go_wp2;go_roundw
    exact⟨k+1,_,zO,zN,aag,aah,aai⟩
    simp[intOf];omega
  ·obtain rfl:k=xv.length:=zO
   have gP:=Ap wr qu;obtain⟨d0,d1,d2,-,-,-⟩:=aeu.box.cells;obtain⟨e0,e1,e2,f0,f1,f2⟩:=gP.box.cells;have Hc:=zh Fj;clear gP Fj;go_wp2;refine bodyPost_ret (v:=.agg #[.slice (some ⟨g,0,none⟩) n.ends.length c1,.slice AI n.ids.length cI,.slice AN n.agT.length cN]) (by simp[results,Tryz.results174,go_sem, *]) rfl ?_;have hza:=GR.out;refine⟨N,wH.out,Hal.out.wf wH.out,_,_,_,S,rfl,((Hc.out.own.agV (fun j hj=>?_)).mono (show w.heap.size<=wa.heap.size by omega)),?_⟩
   ·have zZ:=(Hc.own.range j hj).1;rw[Zan _ _ _ j (by simp;omega),Zan _ _ _ j (by simp;omega),Zan _ _ _ j (by simp;omega)]
   ·have sV:Below w.heap.size w wr:=Zbw jR (qu.below.mono zO);exact((sV.setCell zS _).setCell zS _).setCell zS _
structure Qb (n N:ao):Prop where
 ids:N.ids.length=n.ids.length
 agT:N.agT.length=n.agT.length
 len:N.ends.length=n.ends.length
 row:∀(k:Nat) (es:List (Int×Int)),n.ends[k]?=some es->∃fs,N.ends[k]?=some fs/\fs.length=es.length
theorem kL.shp {n N:ao} (h:kL n N):Qb n N:=⟨by rw[h.ids],by rw[h.agT],h.len,h.row⟩
theorem Qb.refl (n:ao):Qb n n:=(kL.refl n).shp
theorem Qb.trans {a b c:ao} (h:Qb a b) (h':Qb b c):Qb a c:=⟨h'.ids.trans h.ids,h'.agT.trans h.agT,h'.len.trans h.len,fun k es he=>by
 obtain⟨fs,h1,h2⟩:=h.row k es he;obtain⟨gs,h3,h4⟩:=h'.row k fs h1
 exact⟨gs,h3,zO⟩⟩
structure Gd (R M:Nat) (n:ao):Prop where
 ends:n.ends.length<=M
 row:∀(k:Nat) (es:List (Int×Int)),n.ends[k]?=some es->es.length<=R
 ids:n.ids.length<=M
 agT:n.agT.length=n.ends.length
 wf:Vg n
theorem Sv {l:List (List (Int×Int))} {R:Nat} (h:∀es∈l,es.length<=R):tg l<=2*R*l.length:=by
 induction l with
 | nil=>simp[tg]
 | cons a l ih=>
  have h1:=ih (fun es he=>h es (Zbd _ he))
  have h2:=h a zS;simp only[tg,Zaz];have h3:2*R*(l.length+1)=2*R*l.length+2*R:=by rw[Nat.mul_add,Nat.mul_one]
  omega
theorem MD (l:List (List (Int×Int))):Zi l<=l.length+tg l:=by
 unfold Zi
 have:EF l<=tg l:=by
  induction l with
  | nil=>simp[EF,tg]
  | cons a r ih=>simp only[tg,EF,List.map_cons,List.sum_cons]at *;omega
 omega
theorem Gd.small {R M:Nat} {n:ao} (h:Gd R M n) (hR:R<=100) (hM:M<=100):tO n:=by
 refine⟨zX h.ends,fun k es he=>zX (h.row k es he),?_⟩
 have h1:tg n.ends<=2*R*n.ends.length:=Sv (fun es he=>by
  obtain⟨k,hk⟩:=List.getElem?_of_mem he
  exact h.row k es hk)
 have h2:=MD n.ends
 have h3:2*R*n.ends.length<=2*100*100:=Nat.mul_le_mul zO (zX h.ends)
 have:=h.ends
 have:=h.ids
 have:=h.agT
 unfold qm;omega
theorem Gd.sh {R M:Nat} {n N:ao} (h:Gd R M n) (hs:Qb n N) (hw:Vg N):Gd R M N:=by
 refine⟨by rw[hs.len];exact h.ends,fun k fs hf=>?_,by rw[hs.ids];exact h.ids,by rw[hs.agT,hs.len];exact h.agT,hw⟩
 obtain⟨es,he⟩:=au n.ends k (zY (ah hf) hs.len)
 obtain⟨gs,hg,hl⟩:=hs.row k es he;rw[hf]at hg;cases hg
 have:=h.row k es he
 omega
structure Mb (cb B pb:Nat) (A:Option Addr) (L c P:Nat) (w W:World) (ve vi vn:Value) (N:ao) (S:List Nat):Prop where
 own:aw W B ve vi vn N S
 box:bB W pb ve vi vn
 nb:pb∉S
 cur:dj W cb A L c P
 far:CB cb B w W
theorem bB.blk {W W':World} {b:Nat} {x y z:Value} (h:bB W b x y z) (hb:W'.heap[b]?=W.heap[b]?):bB W' b x y z:=by
 obtain⟨r,hr⟩:=h;exact⟨r,hb.trans hr⟩
theorem Mb.seen {cb B pb:Nat} {A:Option Addr} {L c P P':Nat} {w W W':World} {ve vi vn:Value} {N:ao} {S:List Nat} (h:Mb cb B pb A L c P w W ve vi vn N S) (hs:bO cb W W') (sZ:dj W' cb A L c P') (hb:cb<B) (hp:B<=pb) (hB:B<=W.heap.size):Mb cb B pb A L c P' w W' ve vi vn N S:=
 ⟨h.own.seen hs hb,h.box.blk (hs.block pb h.box.lt zO),h.nb,sZ,h.far.trans (CB.mono hs hB)⟩
theorem Mb.since {cb B pb:Nat} {A:Option Addr} {L c P:Nat} {w W W':World} {ve vi vn:Value} {N:ao} {S:List Nat} (h:Mb cb B pb A L c P w W ve vi vn N S) (hs:ab W W') (hb:cb<B) (hp:B<=pb) (hB:B<=W.heap.size):Mb cb B pb A L c P w W' ve vi vn N S:=h.seen (CB.of hs) (h.cur.since hs) hb hp hB
def agX (W:World) (b:Nat) (x y z:Value):World:=((W.setCell ⟨b,0,none⟩ x).setCell ⟨b,1,none⟩ y).setCell ⟨b,2,none⟩ z
theorem ix (W:World) (b:Nat) (x y z:Value):(agX W b x y z).heap.size=W.heap.size:=by simp[agX,iC]
theorem dC (W:World) (b:Nat) (x y z:Value) {j:Nat} (h:j≠b):(agX W b x y z).heap[j]?=W.heap[j]?:=by
 unfold agX;rw[Zan _ _ _ j (by exact h),Zan _ _ _ j (by exact h),Zan _ _ _ j (by exact h)]
theorem bB.agX {W:World} {b:Nat} {x y z:Value} (h:bB W b x y z) (x' y' z':Value):bB (agX W b x' y' z') b x' y' z':=by
 unfold Go.Proofs.YtnioemnkfojmkaaGreat.agX;exact((h.ahb).ahh).ahe
theorem Mb.assign {cb B pb:Nat} {A:Option Addr} {L c P P':Nat} {w W W1:World} {ve vi vn a b d:Value} {N N':ao} {S S':List Nat} {B':Nat} (h:Mb cb B pb A L c P w W ve vi vn N S) (hs:bO cb W W1) (sZ:dj W1 cb A L c P') (ho:aw W1 B' a b d N' S') (hB':pb<B') (hb:cb<B) (hp:B<=pb) (hB:B<=W.heap.size):
  Mb cb B pb A L c P' w (agX W1 pb a b d) a b d N' S':=by
 have hn:pb∉S':=fun hj=>zX ((ho.range _ hj).1)
 refine⟨(ho.agV (fun k hk=>dC W1 pb a b d (fun e=>hn (e ▸ hk)))).mono zO,(h.box.blk (hs.block pb h.box.lt zO)).agX _ _ _,hn,sZ.agU (fun k hk=>dC W1 pb a b d zO),?_⟩
 exact(((h.far.trans (CB.mono hs hB)).setCell (p:=⟨pb,0,none⟩) (.inl hp) _).setCell (p:=⟨pb,1,none⟩) (.inl hp) _).setCell (p:=⟨pb,2,none⟩) (.inl hp) _
theorem aw.ahm {w:World} {base g c n:Nat} {ve vi:Value} {N:ao} {S:List Nat} (h:aw w base ve vi (.slice (some ⟨g,0,none⟩) n c) N S) {k:Nat} (x:Int) (_:k<N.agT.length):
  g∈S/\w.frozen? ⟨g,k,none⟩=false/\aw (w.setCell ⟨g,k,none⟩ (.int .i64 x)) base ve vi (.slice (some ⟨g,0,none⟩) n c) { N with agT:=N.agT.set k x } S:=by
 obtain⟨S1,S2,S3,h1,h2,h3,h4,h5⟩:=h
 have hg:g∈S3:=by rw[h3.2];simp[Value.ownBlock]
 have uH:=h5;rw[h4,Zat,Zat]at h5;have d1:∀j∈S1,j≠g:=fun j hj e=>h5.2.2 j hj g (Zao _ hg) e
 have d2:∀j∈S2,j≠g:=fun j hj e=>h5.2.1.2.2 j hj g hg e
 exact⟨by rw[h4];exact Zao _ (Zao _ hg),h3.1.free k,S1,S2,S3,nA.agV h1 (fun j hj=>Zan _ _ _ _ (d1 j hj)),fT.agV h2 (fun j hj=>Zan _ _ _ _ (d2 j hj)),⟨h3.1.set x,h3.2⟩,h4,uH⟩
end Go.Proofs.YtnioemnkfojmkaaGreat
