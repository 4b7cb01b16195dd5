/- Parts of the proof: walks of functions and plain laws. -/
import Derived.Test.YtnioemnkfojmkaaGreatP27
set_option maxRecDepth 100000
set_option maxHeartbeats 16000000
namespace Go.Proofs.YtnioemnkfojmkaaGreat
open Go Go.RowKit
theorem Jp {p:aq} {L d:Nat} {i:Int} {ws:Nat->Nat->Nat} (hL:1<=L) (hi : -1<=i) (hd:(d:Int)≠p.degree):m_ L d i ws=Cb p L d i ws:=by
 unfold m_ Cb
 by_cases h0:i<0
 ·rw[if_pos h0,if_pos h0,xf hd];obtain rfl:i = -1:=zO
  rw[Fz]
 ·rw[if_neg h0,if_neg h0];refine(Cc L _ (jx (jH i 0 ws) L d 0) fun a ha=>?_).symm
  rw[xf hd];exact Ey (a:=a) (b:=0) ha zO d 0
theorem L0 {p:aq} {L d:Nat} {i:Int} {ws:Nat->Nat->Nat} (hL:1<=L) (hi : -1<=i/\i<d):iO L (fun a=>0+kg p ws i L d [] 1 a)=Cb p L d i ws:=by
 unfold Cb
 by_cases h0:i<0
 ·obtain rfl:i = -1:=zO
  rw[if_pos zO];obtain⟨k,rfl⟩:∃k,L=k+1:=⟨L-1,zO⟩
  refine Zck fun x=>?_
  cases x with
  | zero=>
   rw[lq zO,Zba,PE];rfl
  | succ x=>
   rw[List.getElem?_cons_succ,Nat.add_sub_cancel,Zch]
   by_cases hx:x<k
   ·rw[lq zO,if_pos hx,Zba,(sS p ws (-1) (k+1) (x+1) d [] 1 zO).2 (by unfold Nc;rw[if_pos zO];omega)]
    rfl
   ·rw[Zce (by rw[jy];omega),if_neg hx]
 ·rw[if_neg h0];obtain⟨i',rfl⟩:∃z:Nat,i=(z:Int):=⟨i.toNat,zO⟩
  exact qd fun a _=>by rw[Zba,PF _ _ _ _ _ _ zO]
theorem PI (L:Nat):iO L (fun _=>0)=List.replicate L 0:=by rw[Cc L _ 0 fun _ _=>rfl];rfl
theorem Jq (pa pb va vb vc um:Value) (p:aq) (Wl:List (List Int)) (ws:Nat->Nat->Nat) (i:Int) (L:Nat) (w:World) (hp:el w pa pb p) (hu:bS w um Wl) (cC:bV p=true) (iM:p.nodes.length<=1048576) (hL:p.labels=(L:Int)) (hW8:Wl.length<=100) (hi : -1<=i/\i<Wl.length) (Pn:Pm Wl ws i L):
  Calls Tryz.prog 113 #[.agg #[.int .i64 p.labels,.int .i64 p.degree,pa,pb,va,vb,vc],um,.int .i64 i] w fun e w'=>∃u,e=.returned u/\Own w' w.heap.size u (Cb p L Wl.length i ws)/\Below w.heap.size w w':=by
 obtain⟨eV,-⟩:=aE cC
 have ri:1<=p.degree/\p.degree<=4:=by
  have h9:=cC;unfold bV at h9;simp only[Zai,aB]at h9;exact h9.2.1
 have hst:eR p.nodes:=by
  have h9:=cC;unfold bV at h9;simp only[Zai]at h9;exact jO h9.2.2.1
 obtain⟨dg,lP⟩:∃z:Nat,p.degree=(z:Int):=⟨p.degree.toNat,zO⟩
 have Vp:1<=L/\L<=8:=zO
 have Zv:1<=dg/\dg<=4:=zO
 have HU:=zh hu;obtain⟨AM,cM,rfl,-,hcM,-⟩:=hu;obtain⟨bF,Ez⟩:=J_ w.heap.size
 obtain⟨Gf,rO⟩:=J_ (w.alloc (.cells #[.int .i64 L,.int .i64 dg,pa,pb,va,vb,vc] 92))
 have Tx:Gf.heap.size=bF+1:=by rw[rO,Ez];simp
 have rP:ab w Gf:=by rw[rO];exact ad _ (aa _)
 have k0:Gf.cell? ⟨bF,0,none⟩=some (.int .i64 L):=by rw[rO,Ez];simp
 have k1:Gf.cell? ⟨bF,1,none⟩=some (.int .i64 dg):=by rw[rO,Ez];simp
 have k2:Gf.cell? ⟨bF,2,none⟩=some pa:=by rw[rO,Ez];simp
 have k3:Gf.cell? ⟨bF,3,none⟩=some pb:=by rw[rO,Ez];simp
 have k4:Gf.cell? ⟨bF,4,none⟩=some va:=by rw[rO,Ez];simp
 have k5:Gf.cell? ⟨bF,5,none⟩=some vb:=by rw[rO,Ez];simp
 have k6:Gf.cell? ⟨bF,6,none⟩=some vc:=by rw[rO,Ez];simp
 obtain⟨Ty,BF⟩:=J_ (Gf.alloc (.cells #[.slice AM Wl.length cM] 24))
 have Tz:Ty.heap.size=bF+1+1:=by rw[BF];simp;omega
 have wX:ab Gf Ty:=by rw[BF];exact ad _ (aa _)
 have kW:Ty.cell? ⟨bF+1,0,none⟩=some (.slice AM Wl.length cM):=by rw[BF,<- Tx];simp
 obtain⟨w0,bj⟩:=J_ (Ty.alloc (.cells #[.int .i64 i] 3))
 have e_:w0.heap.size=bF+3:=by rw[bj];simp;omega
 have IJ:ab Ty w0:=by rw[bj];exact ad _ (aa _)
 have kp:w0.cell? ⟨bF+1+1,0,none⟩=some (.int .i64 i):=by rw[bj,<- Tz];simp
 have FH:ab Gf w0:=wX.after IJ;have aK:ab w w0:=rP.after FH;have P0:=fun W (hW:ab w0 W)=>(ae k0) W (FH.after hW)
 have P1:=fun W (hW:ab w0 W)=>(ae k1) W (FH.after hW)
 have P2:=fun W (hW:ab w0 W)=>(ae k2) W (FH.after hW)
 have P3:=fun W (hW:ab w0 W)=>(ae k3) W (FH.after hW)
 have P4:=fun W (hW:ab w0 W)=>(ae k4) W (FH.after hW)
 have P5:=fun W (hW:ab w0 W)=>(ae k5) W (FH.after hW)
 have P6:=fun W (hW:ab w0 W)=>(ae k6) W (FH.after hW)
 have PW:=fun W (hW:ab w0 W)=>(ae kW) W (IJ.after hW)
 have Pp:=ae kp;have DI:Hid (∀W,ab w0 W->bS W (.slice AM Wl.length cM) Wl):=fun W hW=>HU.agU (aK.after hW).below
 have DP:Hid (∀W,ab w0 W->el W pa pb p):=fun W hW=>hp.agU (aK.after hW)
 have ic:=zh aK
 have cD:Hid (((w.alloc (.cells #[.int .i64 L,.int .i64 dg,pa,pb,va,vb,vc] 92)).alloc (.cells #[.slice AM Wl.length cM] 24)).alloc (.cells #[.int .i64 i] 3)=w0):=by show _=_;rw[bj,BF,rO]
 obtain⟨HbF,iS,Kq,uz,nr,Cx,jB⟩:=F_ Ez e_ hL lP hst Pn cC;rw[hL,lP];have fD:ab w0 w0:=aa _;have a0:=P0 w0 fD;clear k0 k1 k2 k3 k4 k5 k6 kW kp rP wX IJ FH rO BF bj Tx Tz e_ Ez aK hp cC hst ri eV hL lP Pn
 go_enter Tryz.func113,Tryz.ntmps113
 go_upto_region 1 with(fail);rw[cD.out,<- HbF.out]
 go_upto_region 2 with(at_make;refine lT _ rfl _ _ rfl _ _ L rfl rfl rfl rfl zO ?_;intro W1 gL aP dP)
 obtain⟨go,Ov⟩:=J_ w0.heap.size
 obtain⟨bo,kv⟩:=J_ W1.heap.size
 obtain⟨W2,pt⟩:=J_ (W1.alloc (.cells #[.slice (some ⟨w0.heap.size,0,none⟩) L L] 28))
 have dw:ab w0 W1:=aP
 have rs:ab W1 W2:=by rw[pt];exact ad _ (aa _)
 have dY:W2.heap.size=bo+1:=by rw[pt,kv];simp
 have ko:W2.cell? ⟨bo,0,none⟩=some (.slice (some ⟨go,0,none⟩) L L):=by rw[pt,kv,Ov];simp
 have dD:=gL.since rs;rw[<- Ov]at dD;have fH:ab w0 W2:=dw.after rs;have aW:=PW W2 fH;obtain⟨FP,Hgo,yF⟩:=B_ pt Ov kv
 have Hzz:Hid (go<bo):=by show _<_;rw[Ov,kv];exact dP
 obtain⟨mg,Ko,eU,qU⟩:=C_ dD (ae ko) fH dY;rw[<- pt,<- kv];clear pt Ov kv ko dD gL aP dP dw rs fH dY fD a0
 go_upto_region 3 with(at_make;refine lT _ rfl _ _ rfl _ _ Wl.length rfl rfl rfl rfl zO ?_;intro W3 gZ er qt)
 obtain⟨gl,DF⟩:=J_ W2.heap.size
 obtain⟨bl,oU⟩:=J_ W3.heap.size
 obtain⟨W4,qS⟩:=J_ (W3.alloc (.cells #[.slice (some ⟨W2.heap.size,0,none⟩) Wl.length Wl.length] 28))
 have oi:ab W2 W3:=er
 have abi:ab W3 W4:=by rw[qS];exact ad _ (aa _)
 have VX:W4.heap.size=bl+1:=by rw[qS,oU];simp
 have kl:W4.cell? ⟨bl,0,none⟩=some (.slice (some ⟨gl,0,none⟩) Wl.length Wl.length):=by rw[qS,oU,DF];simp
 have jA:=gZ.since abi;rw[<- DF]at jA;obtain⟨W5,uO⟩:=J_ (W4.alloc (.cells #[.func (.func 156) #[] #[.pointer (some ⟨bF+1,0,none⟩),.pointer (some ⟨bF,0,none⟩),.pointer (some ⟨bl,0,none⟩),.pointer (some ⟨bF+1+1,0,none⟩),.pointer (some ⟨bo,0,none⟩),.pointer (some ⟨W4.heap.size,0,none⟩)]] 151))
 obtain⟨bf,hbf⟩:=J_ W4.heap.size
 have XE:ab W4 W5:=by rw[uO];exact ad _ (aa _)
 have kf:W5.cell? ⟨bf,0,none⟩=some (.func (.func 156) #[] #[.pointer (some ⟨bF+1,0,none⟩),.pointer (some ⟨bF,0,none⟩),.pointer (some ⟨bl,0,none⟩),.pointer (some ⟨bF+1+1,0,none⟩),.pointer (some ⟨bo,0,none⟩),.pointer (some ⟨bf,0,none⟩)]):=by rw[uO,hbf];simp
 have Ce:ab W2 W4:=oi.after abi;have XF:ab W2 W5:=Ce.after XE;have Cz:ab w0 W5:=eU.after XF;have afF:gl=bo+1:=by rw[DF,qU.out]
 have afG:gl<bl:=by rw[DF,oU];exact qt
 have afH:bf=bl+1:=by rw[hbf,VX]
 have hgz:=Hzz.out;have afI:=Hgo.out;have hnn:bl≠gl/\bl≠go/\bo≠gl/\bo≠go/\bf≠gl/\bf≠go/\gl≠go:=zO
 have Dr:w0.heap.size<=gl/\w0.heap.size<=go:=zO
 have Ml:Hid (CA w0 (bF+1) bF bl (bF+1+1) bo bf gl go Wl.length L Wl.length L [] (List.replicate Wl.length 0) (fun _=>0) W5):=
  ⟨Cz,(ae kl) W5 XE,Ko W5 XF,kf,(jA.since XE).mono Dr.1,by rw[PI];exact(mg.since XF).mono Dr.2,zS,zS⟩
 obtain⟨Kj,J3,Wj,EX,Hbf,Hnn,Hgg,jF⟩:=G_ qS uO DF oU hbf hnn Dr Cz;rw[<- qS,<- oU];clear gZ er qt aW DF oU qS oi abi VX kl jA uO hbf XE kf Ce XF afF afG afH hgz afI hnn Dr;have b1:=P1 W5 Cz;have bW:=PW W5 Cz;clear Cz;go_upto_region 5 with(fail);rw[<- J3.out,<- Hbf.out]
 by_cases hd:Wl.length=dg
 ·have jh:((Wl.length:Int) != (dg:Int))=false:=by simp[hd]
  have hfn:=Ml.kf
  have HC:Hid (FcC w0 (bF+1) bF bl (bF+1+1) bo bf gl go Wl.length L cM AM p pa pb Wl ws i):=
   ⟨PW,Pp,P0,by rw[hd];exact P1,P2,P3,DI,DP,nr,iM,Kq,by rw[hd];exact uz,Vp,zO,hi,Cx,rfl,Hnn,Hgg⟩
  have gD:=PH HC Wl.length 0 [] (List.replicate Wl.length 0) (fun _=>0) 1 W5 zO rfl (fun j x hj=>by simp at hj) Ml.out
  rw[show((aF 1:Nat):Int)=1 from rfl,show((0:Nat):Int)=0 from rfl]at gD;have RT:=zh gD;clear gD hd;go_wp2_with fail;refine RT.mono ?_;rintro e W6 ⟨⟨v,rfl⟩,L6,N7⟩;have c6:=N7.ko;have dH:Hid (Below w.heap.size w W6):=ic.after N7.sn;have hoo:=N7.oo;rw[L0 Vp.1 hi]at hoo;have Hoo:=zh hoo;clear N7 hoo b1 bW hfn;go_wp2;go_ret;exact⟨_,rfl,Hoo.mono ic.below.size,dH⟩
 ·have jh:((Wl.length:Int) != (dg:Int))=true:=by simp;omega
  have h0:=P0 W5 jF;have h2:=P2 W5 jF;have h3:=P3 W5 jF;have h4:=P4 W5 jF;have h5:=P5 W5 jF;have h6:=P6 W5 jF;have hpp:=Pp W5 jF;have gD:=Jn pa pb va vb vc (.slice AM Wl.length cM) p Wl ws i L W5 (DI W5 jF) Kq Vp hW8 zO Cx
  rw[Kq.out,uz.out,Jp Vp.1 hi.1 (by rw[uz.out];omega)]at gD
  have RT:=zh gD;clear gD hd;go_wp2_with fail;refine RT.mono ?_;rintro e W6 ⟨u,rfl,dJ,tw⟩;have dH:Hid (Below w.heap.size w W6):=(ic.after jF).after (show ab W5 W6 from tw);have MJ:=zh (dJ.mono (ic.out.after jF.out).below.size);clear dJ tw b1 bW h0 h2 h3 h4 h5 h6 hpp;go_wp2;go_ret;exact⟨_,rfl,MJ,dH⟩
def td:Nat->Nat->Nat->Bool:=fun _ _ _=>true
def uq (p:aq) (n:ao) (L f v:Nat) (i:Int):List Int:=
 if i<0 then ((aF (i8 p n td L f v):Nat):Int)::List.replicate (L-1) 0 else iO L fun a=>yv p n td L (f+1) v i.toNat a
theorem L4 {p:aq} {n:ao} {L f v q:Nat} {i:Int} (hq:(n.ends.getD v []).length=q):Cb p L q i (I0 p n td L (yv p n td L f) v)=uq p n L f v i:=by
 unfold Cb uq
 by_cases h0:i<0
 ·rw[if_pos h0,if_pos h0];unfold i8;rw[hq]
 ·rw[if_neg h0,if_neg h0];obtain⟨i',rfl⟩:∃z:Nat,i=(z:Int):=⟨i.toNat,zO⟩
  refine qd fun a _=>?_
  show mY p L q (jH (i':Int) (a:Int) _)=yv p n td L (f+1) v ((i':Int).toNat) a
  rw[MX,Zag,<- hq]
  conv=>rhs;unfold yv
  exact(if_pos rfl).symm
def XG (p:aq) (n:ao) (L f v:Nat) (i:Int) (w:World) (e:Ending) (w':World):Prop:=
 ∃u,e=.returned u/\Own w' w.heap.size u (uq p n L f v i)/\Below w.heap.size w w'
def abj (p:aq) (n:ao) (L:Nat) (f:Nat):Prop:=∀(v:Nat) (i:Int) (pa pb va vb vc:Value) (w:World),el w pa pb p->aR w va vb vc n->v<n.ends.length->n.ends.length<=gK n v+f+1->qg n v i ->
  Calls Tryz.prog 62 #[.agg #[.int .i64 L,.int .i64 p.degree,pa,pb,va,vb,vc],.int .i64 v,.int .i64 i] w (XG p n L f v i w)
theorem Cf {p:aq} {n:ao} {lb:Nat} (eK:p.labels=(lb:Int)) (cC:bV p=true) (hn:ar n=true) (iM:p.nodes.length<=1048576) (gM:p.agW.length<=1048576) (hc:io n) (f:Nat) (hIH:∀g,f=g+1->abj p n lb g):abj p n lb f:=by
 intro v i pa pb va vb vc w hp h hv hf kh;obtain⟨eV,hst⟩:=aE cC;obtain⟨iX,iz⟩:=eX hn;have pY:1<=lb/\lb<=8:=zO
 obtain⟨es,aU⟩:=au n.ends v hv;obtain⟨q,hq⟩:=J_ es.length
 have hq6:q<=6:=by rw[hq];exact iz v es aU
 have FV:(n.ends.getD v []).length=q:=by rw[ag aU,hq]
 obtain⟨yy,yz⟩:=kh.rng hn;rw[FV]at yz
 have hiq : -1<=i/\i<q:=by
  refine⟨yy,?_⟩
  by_cases h0:0<=i
  ·have:=yz h0;omega
  ·omega
 obtain⟨dn,Y0⟩:=J_ (I0 p n td lb (yv p n td lb f) v)
 obtain⟨Hdn,HIH,jB,Hn,Hc,nr,Il,Hf,My,ni⟩:=I_ Y0 hIH cC hn hc hst kh hf FV aU;obtain⟨Hq,ka,HNw⟩:=B_ hq eK h;obtain⟨AV,cV,rfl,-,-,hAA⟩:=id h.es;obtain⟨bE,oE,uE,hAe,Vo,hrE⟩:=hAA v es aU;subst hAe;obtain⟨AE,zE,rfl,-,-,hEE⟩:=hrE;rw[<- hq]at Vo;obtain⟨bF,Ez⟩:=J_ w.heap.size
 obtain⟨w0,bj⟩:=J_ (w.alloc (.cells #[.int .i64 lb,.int .i64 p.degree,pa,pb,.slice (some ⟨bE,oE,none⟩) n.ends.length cV,vb,vc] 92))
 have aK:ab w w0:=by rw[bj];exact ad _ (aa _)
 have P0:=ae (show w0.cell? ⟨bF,0,none⟩=some (.int .i64 lb)by rw[bj,Ez];simp)
 have P1:=ae (show w0.cell? ⟨bF,1,none⟩=some (.int .i64 p.degree)by rw[bj,Ez];simp)
 have P2:=ae (show w0.cell? ⟨bF,2,none⟩=some pa by rw[bj,Ez];simp)
 have P3:=ae (show w0.cell? ⟨bF,3,none⟩=some pb by rw[bj,Ez];simp)
 have P4:=ae (show w0.cell? ⟨bF,4,none⟩=some (.slice (some ⟨bE,oE,none⟩) n.ends.length cV)by rw[bj,Ez];simp)
 have P5:=ae (show w0.cell? ⟨bF,5,none⟩=some vb by rw[bj,Ez];simp)
 have P6:=ae (show w0.cell? ⟨bF,6,none⟩=some vc by rw[bj,Ez];simp)
 have gO:Hid (∀W,ab w0 W->el W pa pb p):=fun W hW=>hp.agU (aK.after hW)
 have iD:Hid (∀W,ab w0 W->aR W (.slice (some ⟨bE,oE,none⟩) n.ends.length cV) vb vc n):=fun W hW=>HNw.agU (aK.after hW).below
 have Qk:Hid (∀W,ab w0 W->W.cell? ⟨bE,oE+v,none⟩=some (.slice AE q zE)):=fun W hW=>(ae Vo) W (aK.after hW)
 have HEE:Hid (∀W,ab w0 W->∀(j k m:Nat),es[j]?=some ((k:Int),(m:Int))->∃b o,AE=some ⟨b,o,none⟩/\W.cell? ⟨b,o+j*2,none⟩=some (.int .i64 k)/\W.cell? ⟨b,o+j*2+1,none⟩=some (.int .i64 m)):=fun W hW j k m hx=>by
  obtain⟨b1,o1,ja,qD,jL⟩:=hEE j _ hx;exact⟨b1,o1,ja,(ae qD) W (aK.after hW),(ae jL) W (aK.after hW)⟩
 obtain⟨aY,cD,HbF⟩:=B_ aK bj Ez;have fD:ab w0 w0:=aa _;have aa2:=Qk w0 fD;have a4:=P4 w0 fD;clear cC hn iz eV eK hc hst kh hf aU hq Y0 hIH hAA Vo hEE FV yz iX aK bj Ez hp h
 go_enter Tryz.func62,Tryz.ntmps62
 go_upto_region 1 with(fail);rw[<- cD.out,<- HbF.out];go_upto_region 3 with(fail);clear aa2 a4
 go_loopw [7,22] (fun u t wr=>∃(j:Nat) (S:List Nat),j<=q/\t=.int .i64 j/\bu wr w0.heap.size u (fL lb i dn j) S/\ab w0 wr) (fun _ t _=>q-(intOf t).toNat)
 case atStart=>exact⟨0,_,Zac _,rfl,by simpa[fL]using iW _ _,fD⟩
 case round=>
  obtain⟨j,S,hj,rfl,ho,hs⟩:=hrel;obtain⟨Ho,Hs⟩:=A_ ho hs;clear ho fD
  by_cases aA:j<q
  ·obtain⟨⟨k0,k1⟩,hx⟩:=au es j (by rw[<- Hq.out];exact aA)
   obtain⟨k,m,NQ,e3,qE,gC⟩:=pM Hn ni hx;cases e3
   have qR:Lk n v j k m:=by unfold Lk bA;rw[ag ni.out];exact hx
   obtain⟨b1,o1,ja,d1,d2⟩:=HEE wr hs j k m hx;subst ja;have m3:=zw j;obtain⟨ba,Fl⟩:=J_ wr.heap.size
   obtain⟨W1,sl⟩:=J_ (wr.alloc (.cells #[.int .i64 k,.int .i64 m] 104))
   have dw:ab wr W1:=by rw[sl];exact ad _ (aa _)
   have g1:∀W,ab W1 W->W.cell? ⟨ba,0,none⟩=some (.int .i64 k):=ae (by rw[Fl,sl];simp)
   have g2:∀W,ab W1 W->W.cell? ⟨ba,1,none⟩=some (.int .i64 m):=ae (by rw[Fl,sl];simp)
   obtain⟨VP,Qf,di,Vq⟩:=C_ sl Fl dw qR;clear hx sl Fl dw qR qE;go_upto_region 5 with(fail);rw[<- VP.out,<- Qf.out];clear d1 d2
   by_cases nh:(j:Int)=i
   ·have hjb:((j:Int)==i)=true:=by simp[nh]
    have Cx:Hid (fL lb i dn (j+1)=fL lb i dn j++[[]]):=by show _=_;rw[qf,if_pos nh]
    obtain⟨tc,HoF⟩:=A_ (Hs.out.after di.out) (aL.agU (aL.agU Ho.out di.out.below) (am W1 (.cells #[.slice none 0 0] 28)))
    have qR:Hid ((fL lb i dn j).length+1<=4000000):=by show _<=_;rw[fm];omega
    clear nh
    go_wp2_with (at_builtin;refine mh rfl _ _ rfl rfl HoF W1.heap.size rfl (by simp[go_sem]) (fA _ _) (fun j hj=>by simp[Value.ownBlock]at hj) qR.out (Zak tc.out.below.size zS) ?_;intro g cc w3 S3 gZ er)
    rw[<- Cx.out]at gZ;have HsE:Hid (ab w0 w3):=Zbw (ad _ tc) er;have uU:=zh gZ;clear gZ er;go_roundw
    exact⟨j+1,S3,zO,zN,uU,HsE⟩
    simp[intOf];omega
   ·have hjb:((j:Int)==i)=false:=by simp[nh]
    have Cx:Hid (fL lb i dn (j+1)=fL lb i dn j++[iO lb (dn j)]):=by show _=_;rw[qf,if_neg nh]
    obtain⟨Ge,Ub⟩:=Il.child Hn Hc Vq nh;have WA:=(Vq.lt Hn).2.1;have aa3:=yZ Hn WA;have hfv:=Hf.out;obtain⟨g,hg⟩:∃g,f=g+1:=⟨f-1,zO⟩
    obtain⟨br,r_⟩:=J_ (yv p n td lb f k m)
    have oU:uq p n lb g k (m:Int)=iO lb br:=by
     unfold uq;rw[if_neg zO,Zag,r_,hg]
    have TV:=(Lk.of Hn (by rw[My.out];exact aA)).fn Vq
    obtain⟨fe,Fs⟩:∃z:Nat->Nat->Nat,z=fun (a b:Nat)=>if edgeB p (a:Int) (b:Int)=true then br b else 0:=⟨_,rfl⟩
    have Uc:∀a,dn j a=bt lb (fe a):=fun a=>by
     rw[Hdn.out];unfold I0;rw[TV.1,TV.2,Fs,r_];exact if_pos rfl
    have tc:=zh (Hs.out.after di.out);obtain⟨Vr,EX,aa4,Hfe⟩:=C_ (HIH.out g hg k (m:Int) _ _ _ _ _ W1 (gO.out W1 tc.out) (iD.out W1 tc.out) WA zO Ub) oU Uc Fs;have y0:=P0 W1 tc;have y1:=P1 W1 tc;have y2:=P2 W1 tc;have y3:=P3 W1 tc;have y4:=P4 W1 tc;have y5:=P5 W1 tc;have y6:=P6 W1 tc;have y7:=g1 W1 (aa _);have y8:=g2 W1 (aa _);clear nh Ge Ub WA aa3 hfv oU TV Uc Fs r_ hg;go_wp2_with fail;refine Vr.mono ?_;rintro e W4 ⟨u4,rfl,jA,pu⟩;rw[EX.out]at jA;have oh:ab W1 W4:=pu;rcases jA.cases with⟨-,h0⟩ | ⟨g4,c4,rfl,Ud,-⟩
    ·exfalso
     have:=jy lb br
     rw[h0]at this;simp at this
     omega
    rw[jy]at jA ⊢;have kD:=zh oh;have Hg4:Hid (W1.heap.size<=g4):=Ud;have vQ:=zh jA;have z0:=P0 W4 (tc.after oh);clear y0 y1 y2 y3 y4 y5 y6 y7 y8 jA pu oh Ud Vr g1 g2
    go_upto_region 9 with(at_make;refine lT _ rfl _ _ rfl _ _ lb rfl rfl rfl rfl zO ?_;intro W2 dD aS dY)
    obtain⟨bo,kv⟩:=J_ W4.heap.size
    rw[<- kv]at dD ⊢
    have afJ:Hid (g4<bo):=by
     show _<_
     rw[kv];exact(Zad vQ g4 rfl).2
    have fH:ab W4 W2:=aS;rw[<- xj lb (dn j)]at dD;obtain⟨BX,adD,vN,yF,RD⟩:=D_ dD (vQ.out.since fH) (kD.out.after fH) kv (aL.agU Ho.out di.out.below)
    have hbW:W1.heap.size<=bo:=by rw[kv];exact kD.below.size
    have HbW:=zh hbW;clear dD aS dY fH kv vQ z0 hbW;go_upto_region 10 with(fail)
    go_loopw [45] (fun t wr=>∃a:Nat,a<=lb/\t=.int .i64 a/\Own wr bo (.slice (some ⟨bo,0,none⟩) lb lb) (lJ lb a (dn j) 0)/\Own wr W1.heap.size (.slice (some ⟨g4,0,none⟩) lb c4) (iO lb br)/\ab W1 wr) (fun t _=>lb-(intOf t).toNat)
    case atStart=>exact⟨0,Zac _,rfl,BX,adD,vN⟩
    case round=>
     clear BX adD vN;obtain⟨a,ha,rfl,MY,jA,MZ⟩:=hrel;obtain⟨BX,vQ,vN⟩:=B_ MY jA MZ;clear MY jA MZ
     by_cases CZ:a<lb
     ·have m5:=zw a;obtain⟨wo,rfl⟩:=J_ wr
      go_upto_region 13 with(fail)
      go_loopw [50] (fun t wr=>∃b:Nat,b<=lb/\t=.int .i64 b/\Own wr bo (.slice (some ⟨bo,0,none⟩) lb lb) (lJ lb a (dn j) (aF (bt b (fe a))))/\Own wr W1.heap.size (.slice (some ⟨g4,0,none⟩) lb c4) (iO lb br)/\ab W1 wr) (fun t _=>lb-(intOf t).toNat)
      case atStart=>exact⟨0,Zac _,rfl,BX,vQ,vN⟩
      case round=>
       clear BX vQ vN;obtain⟨b,hb,rfl,MY,jA,MZ⟩:=hrel;obtain⟨BX,vQ,vN⟩:=B_ MY jA MZ;clear MY jA MZ
       by_cases aa5:b<lb
       ·have m6:=zw b;obtain⟨wi,rfl⟩:=J_ wr
        have wF:ab w0 wi:=tc.after vN;have DJ:=vQ.cell (lq (L:=lb) (f:=br) aa5);have Vt:=zh (rh _ _ p a b wi (gO.out wi wF) nr.out gM);rw[ka.out]at Vt;have y0:=P0 wi wF;have y1:=P1 wi wF;have y2:=P2 wi wF;have y3:=P3 wi wF;clear wF;go_upto_region 15 with(fail);clear DJ;go_wp2_with fail;refine Vt.mono ?_;rintro e W ⟨rfl,hbW⟩;have Pc:ab wi W:=hbW;obtain⟨Ue,Uf,Ug⟩:=B_ (BX.out.since Pc) (vQ.out.since Pc) (vN.out.after Pc);clear hbW Pc y0 y1 y2 y3;have tZ:∀y,edgeB p (a:Int) (b:Int)=y->fe a b=if y=true then br b else 0:=fun y hy=>by rw[Hfe.out,<- hy]
        cases hG:edgeB p (a:Int) (b:Int)
        ·have Az:Hid (aF (bt (b+1) (fe a))=aF (bt b (fe a))):=by
          show _=_
          have h1:=tZ _ hG;rw[if_neg zS]at h1;show aF (bt b (fe a)+fe a b)=_
          rw[h1,Nat.add_zero]
         clear tZ;go_wp2;go_roundw
         exact⟨b+1,zO,zN,by rw[Az.out];exact Ue,Uf,Ug⟩
         simp[intOf];omega
        ·have h1:=tZ _ hG;rw[if_pos rfl]at h1;have Vv:=Ue.out
         have Po:aF (aF (bt b (fe a))+aF (br b))=aF (bt (b+1) (fe a)):=by
          rw[<- h1];exact ze (fe a) b
         have dU:=Vv.cell (zg (f:=dn j) (c:=aF (bt b (fe a))) CZ);have hfz:=gX Vv a;obtain⟨cu,f8⟩:=K_ (aF (bt b (fe a)))
         obtain⟨bv,Y2⟩:=K_ (aF (br b))
         obtain⟨rr,F7⟩:=K_ (aF (bt (b+1) (fe a)))
         obtain⟨t,ht⟩:=K_ ((cu:Int)+(bv:Int):Int)
         rw[f8,Y2,F7]at Po;rw[f8]at dU;rw[Y2]
         have lh:cu<=1000000000001:=by rw[<- f8];exact eH _
         have Xq:bv<=1000000000001:=by rw[<- Y2];exact eH _
         have lD:IntKind.i64.wrap ((cu:Int)+(bv:Int))=t:=by rw[bU _ zO zO,ht]
         have XU:min t 1000000000001=(rr:Int):=by rw[<- Po,<- ht];unfold aF;omega
         have X8:=zh F7;have ki:=Own.set (k:=a) (rr:Int) Vv;rw[BV]at ki;have n_:=zh ki
         have vR:=zh (show Own (W.setCell ⟨bo,a,none⟩ (.int .i64 (rr:Int))) W1.heap.size (.slice (some ⟨g4,0,none⟩) lb c4) (iO lb br)from aD Uf.out (fun q hq=>Zan _ _ _ q (by
          have h5:=afJ.out;have h7:q=g4:=by simpa[Value.ownBlock,eq_comm]using hq
          show q≠bo
          omega)))
         have jF:=zh (Ug.out.setCell (p:=⟨bo,a,none⟩) HbW.out (.int .i64 (rr:Int)));clear tZ h1 Vv Po f8 Y2 lh Xq ht F7 ki;go_wp2;go_roundw
         exact⟨b+1,zO,zN,by rw[X8.out];exact n_,vR,jF⟩
         simp[intOf];omega
       ·obtain rfl:b=lb:=zO
        have si:Hid (lJ b a (dn j) (aF (bt b (fe a)))=lJ b (a+1) (dn j) 0):=by
         show _=_
         rw[<- sQ,aa4.out a]
        go_wp2;go_roundw
        exact⟨a+1,zO,zN,by rw[<- si.out];exact BX,vQ,vN⟩
        simp[intOf];omega
     ·obtain rfl:a=lb:=zO
      have Uh:=BX.out;rw[BW]at Uh;have hSr:=aL.range RD;have Ui:=HbW.out
      have Hd:Hid (∀j,(Value.slice (some ⟨bo,0,none⟩) a a).ownBlock=some j->j∉S):=fun j hj Q_=>by
       have h1:=(hSr _ Q_).2;have h2:j=bo:=by simpa[Value.ownBlock,eq_comm]using hj
       omega
      have HsX:Hid (ab w0 wr):=tc.after vN;have HoX:=zh (aL.agU (aL.agU RD.out vN.out.below) (am wr (.cells #[.slice (some ⟨bo,0,none⟩) a a] 28)));have Uj:w0.heap.size<=bo:=Zak tc.below.size Ui;have HoR:=zh ((Uh.mono Uj).agU (am wr (.cells #[.slice (some ⟨bo,0,none⟩) a a] 28)))
      have qR:Hid ((fL a i dn j).length+1<=4000000):=by show _<=_;rw[fm];omega
      clear Uh hSr Ui Uj
      go_wp2_with (at_builtin;refine mh rfl _ _ rfl rfl HoX wr.heap.size rfl (by simp[go_sem]) HoR Hd qR (Zak HsX.below.size zS) ?_;intro g cc w3 S3 gZ er)
      rw[<- Cx.out]at gZ;have HsE:Hid (ab w0 w3):=Zbw (ad _ HsX) er;have uU:=zh gZ;clear gZ er;go_roundw
      exact⟨j+1,S3,zO,zN,uU,HsE⟩
      simp[intOf];omega
  ·obtain rfl:j=q:=zO
   have gD:=Jq pa pb (.slice (some ⟨bE,oE,none⟩) n.ends.length cV) vb vc _ p (fL lb i dn j) dn i lb wr (gO wr hs) Ho.read jB iM ka (by rw[fm];omega) (by rw[fm];exact hiq) (Fy lb i dn j)
   rw[fm,Hdn.out,L4 My.out,ka.out]at gD;have RT:=zh gD;have y0:=P0 wr hs;have y1:=P1 wr hs;have y2:=P2 wr hs;have y3:=P3 wr hs;have y4:=P4 wr hs;have y5:=P5 wr hs;have y6:=P6 wr hs;clear gD hs;go_wp2_with fail;refine RT.mono ?_;rintro e W5 ⟨u5,rfl,qy,k8⟩;have dH:Hid (Below w.heap.size w W5):=ab.after (aY.after Hs) (show ab wr W5 from k8);have vR:=zh (Own.mono qy (aY.out.after Hs.out).below.size);clear qy k8 y0 y1 y2 y3 y4 y5 y6;go_wp2;go_ret;exact⟨_,rfl,vR,dH⟩
theorem PJ {p:aq} {n:ao} {lb:Nat} (eK:p.labels=(lb:Int)) (cC:bV p=true) (hn:ar n=true) (iM:p.nodes.length<=1048576) (gM:p.agW.length<=1048576) (hc:io n):∀f,abj p n lb f:=by
 intro f
 induction f with
 | zero=>exact Cf eK cC hn iM gM hc 0 fun g hg=>zO
 | succ f ih=>
  refine Cf eK cC hn iM gM hc (f+1) fun g hg=>?_
  obtain rfl:f=g:=zO
  exact ih
theorem UL (pa pb va vb vc:Value) (p:aq) (n:ao) (w:World) (hp:el w pa pb p) (h:aR w va vb vc n) (iM:p.nodes.length<=1048576) (gM:p.agW.length<=1048576) (rq:n.ids.length<=17592186044416):
  Calls Tryz.prog 21 #[.agg #[.int .i64 p.labels,.int .i64 p.degree,pa,pb],.agg #[va,vb,vc]] w fun e w'=>e=.returned (.tuple #[.int .i64 (qO p n),.bool (ke p n)])/\Below w.heap.size w w':=by
 have Ao:=zh rq
 obtain⟨w0,A,c,A2,c2,A3,c3,P0,iG,P1,it,rfl,rfl,rfl,fR,hm,gC,jz,HA,H,rfl,rfl,jj,jk,jl,jm,jn,jo,HP,cD,aY,fp,fE,fM,ku,nY,oW,oX⟩:=Ah hp h;clear hp h
 obtain⟨gO,iD⟩:=A_ (Ai HP.out) (ET H.out);have aK:ab w0 w0:=aa _;clear rq
 go_enter Tryz.func21,Tryz.ntmps21
 go_upto_region 1 with(fail);rw[<- cD.out];refine aM 13 (ab w0) (aa _) ?_;simp only[zT]
 refine ch rfl ?_;simp only[zA]
 apply dE _ rfl;(intro W hW;unfold a_;go_simp;with_reducible exact zQ (iq _ _ p W (gO.out W hW)));simp only[zA]
 iterate 2 (refine ch rfl ?_;simp only[zA])
 refine iT rfl rfl ?_;simp only[zA]
 apply bn rfl rfl;(intro hb;intro W hW;unfold a_;go_simp;with_reducible exact zQ (fZ _ _ _ n W (iD.out W hW) Ao.out));simp only[zA]
 refine iT rfl rfl ?_;simp only[zA]
 (first | refine db rfl rfl ?_ | (refine ch rfl ?_));simp only[zA]
 refine ch rfl ?_;simp only[zA]
 refine iT rfl rfl ?_;simp only[zA]
 apply bn rfl rfl;(intro hb;intro W hW;unfold a_;go_simp;with_reducible exact zQ (qh _ _ _ n W (iD.out W hW) (by have h9:=hb;revert h9;cases ar n <;> simp)));simp only[zA]
 refine iT rfl rfl ?_;simp only[zA]
 (first | refine db rfl rfl ?_ | (refine ch rfl ?_));simp only[zA]
 intro Wa hW;have py:=zh hW;clear hW aK
 cases hg:(!bV p || !ar n || !sX n)
 ·simp only[Zbn,Zbo]at hg;obtain⟨⟨cC,hn⟩,tZ⟩:=hg
  have Ev:jV p n=true:=by unfold jV;rw[cC,hn,tZ];rfl
  have JH:=zh Ev;obtain⟨-,-,hc⟩:=jD Ev
  obtain⟨lb,eK⟩:∃z:Nat,p.labels=(z:Int):=⟨p.labels.toNat,zX ((aE cC).1)⟩
  have pm:p.labels.toNat=lb:=zO
  have ly:=(bK hn).1;have iX:=(bK hn).2;obtain⟨jB,Hn,Hc,ka⟩:=C_ cC hn hc eK
  have Y3:Hid (FB p n=gR p n td lb (n.ends.length-1) n.ends.length):=by show _=_;unfold FB;rw[pm];rfl
  have HcC:=zh (ry _ _ _ n Wa (iD.out Wa py.out) hn);have y4:=nY Wa py;have y5:=oW Wa py;have y6:=oX Wa py;clear Ev cC hn hc eK pm tZ;go_wp2_with fail;refine HcC.mono ?_;rintro e w1 ⟨u,rfl,ho,aP⟩;rcases ho.cases with⟨-,h0⟩ | ⟨g,cg,rfl,-,-⟩
  ·exfalso
   have:=sx n
   rw[h0]at this;simp at this
   omega
  rw[sx]at ho ⊢;have dw:ab Wa w1:=aP;obtain⟨Ho,di⟩:=A_ ho (py.out.after dw);clear ho aP dw y4 y5 y6;go_upto_region 5 with(fail)
  go_loopw [6,25] (fun t q wr=>∃k:Nat,k<=n.ends.length/\q=.int .i64 k/\t=.int .i64 (aF (gR p n td lb (n.ends.length-1) k):Nat)/\ab w1 wr) (fun _ q _=>n.ends.length-(intOf q).toNat)
  case atStart=>exact⟨0,Zac _,rfl,rfl,aa _⟩
  case round=>
   obtain⟨k,hk,rfl,rfl,hs⟩:=hrel;have Hs:=zh hs;obtain⟨pe,qC⟩:=K_ (gR p n td lb (n.ends.length-1) k)
   rw[qC]
   by_cases aA:k<n.ends.length
   ·have m3:=zw k;have lC:=bc hs.below (Ho.cell (Eu aA))
    have nr:Hid (gR p n td lb (n.ends.length-1) (k+1)=if aH n k=k then pe*i8 p n td lb (n.ends.length-1) k else pe):=by show _=_;rw[gR,qC]
    obtain⟨lk,qR⟩:=K_ (aH n k)
    rw[qR]at lC;have lF:=zh (di.out.after hs);clear qC
    by_cases hr:aH n k=k
    ·have LF:((k:Int)==(lk:Int))=true:=by rw[<- qR,hr];simp
     have nP:qg n k (-1):=.inl ⟨rfl,(vK Hn Hc aA).2 hr⟩;have XQ:=pl Hn aA hr;obtain⟨rt,hrt⟩:=K_ (i8 p n td lb (n.ends.length-1) k)
     have r_:uq p n lb (n.ends.length-1) k (-1)=((aF rt:Nat):Int)::List.replicate (lb-1) 0:=by
      unfold uq;rw[if_pos zO,hrt]
     have LX:Hid (aF (aF pe*aF rt)=aF (gR p n td lb (n.ends.length-1) (k+1))):=by show _=_;rw[sM,nr.out,if_pos hr,hrt]
     obtain⟨Vr,FM,Dj⟩:=B_ (PJ ka.out jB.out Hn.out iM gM Hc.out (n.ends.length-1) k (-1) _ _ _ _ _ wr (gO.out wr lF.out) (iD.out wr lF.out) aA zO nP) r_ (fun W=>xc (aF pe) (aF rt) W (eH _) (eH _))
     have y0:=fp wr lF;rw[ka.out]at y0;have y1:=fE wr lF;have y2:=fM wr lF;have y3:=ku wr lF;have y4:=nY wr lF;have y5:=oW wr lF;have y6:=oX wr lF;clear nP XQ r_ hr qR hs hrt;go_wp2_with fail;refine Vr.mono ?_;rintro e w5 ⟨u5,rfl,qy,k8⟩;rw[FM.out]at qy;rcases qy.cases with⟨-,h0⟩ | ⟨g5,c5,rfl,-,-⟩
     ·cases h0
     have Zg:=qy.cell (k:=0) rfl;have jF:=zh (Hs.out.after (show ab wr w5 from k8));have hln:(((aF rt:Nat):Int)::List.replicate (lb-1) 0).length=lb-1+1:=zS
     rw[hln];clear qy k8 y0 y1 y2 y3 y4 y5 y6 lC hln;go_wp2_with fail;refine(Dj w5).mono ?_;rintro e w6 ⟨rfl,rfl⟩;go_wp2;go_roundw
     exact⟨k+1,zO,zN,by rw[LX.out],jF⟩
     simp[intOf];omega
    ·have LF:((k:Int)==(lk:Int))=false:=by rw[<- qR];simp;omega
     have LX:Hid (gR p n td lb (n.ends.length-1) (k+1)=pe):=by show _=_;rw[nr.out,if_neg hr]
     clear hr qR hs;go_wp2;go_roundw
     exact⟨k+1,zO,zN,by rw[LX.out],Hs⟩
     simp[intOf];omega
   ·obtain rfl:k=n.ends.length:=zO
    have hcF:=Y3.out;rw[qC]at hcF;have dH:Hid (Below w.heap.size w wr):=ab.after aY (di.after hs);clear hs qC Y3
    by_cases BZ:pe<=1000000000000
    ·have H1:Hid (ke p n=true):=by show _=_;unfold ke;rw[JH.out,hcF,decide_eq_true BZ];rfl
     have H2:Hid (qO p n=(pe:Int)):=by show _=_;unfold qO;rw[H1.out,if_pos rfl,hcF]
     rw[Ut BZ];have hgt:((pe:Int)>1000000000000)=False:=eq_false zO;clear hcF BZ;go_wp2
     go_ret2
     exact⟨by rw[H1.out,H2.out];rfl,dH⟩
    ·have H1:Hid (ke p n=false):=by show _=_;unfold ke;rw[JH.out,hcF,decide_eq_false BZ];rfl
     have H2:Hid (qO p n=0):=by show _=_;unfold qO;rw[H1.out];rfl
     have Oh:aF pe=1000000000001:=by unfold aF;omega
     rw[Oh];clear hcF BZ;go_wp2
     go_ret2
     exact⟨by rw[H1.out,H2.out];rfl,dH⟩
 ·have H1:Hid (jV p n=false):=by
   show _=_
   unfold jV
   revert hg
   cases bV p <;> cases ar n <;> cases sX n <;> simp
  have H2:Hid (ke p n=false):=by show _=_;unfold ke;rw[H1.out];rfl
  have H3:Hid (qO p n=0):=by show _=_;unfold qO;rw[H2.out];rfl
  have dH:Hid (Below w.heap.size w Wa):=ab.after aY py;go_wp2
  go_ret2
  exact⟨by rw[H2.out,H3.out];rfl,dH⟩
theorem Cg (pa pb va vb vc vl:Value) (p:aq) (n:ao) (l:List (List Int)) (w:World) (hp:el w pa pb p) (h:aR w va vb vc n) (hl:bS w vl l) (cC:bV p=true) (hn:ar n=true) (iR:fB p n l=true) (iM:p.nodes.length<=1048576) (gM:p.agW.length<=1048576) (rq:n.ids.length<=1048576):
  Calls Tryz.prog 11 #[.agg #[.int .i64 p.labels,.int .i64 p.degree,pa,pb],.agg #[va,vb,vc],vl] w fun e w'=>∃(u:Value) (ok:Bool) (M:List (List Int)) (S:List Nat),e=.returned (.tuple #[u,.bool ok])/\bu w' w.heap.size u (if ok=true then M else []) S/\Xi p n l M/\(ok=false->∃v i,ax M v i/\ak M v i=0)/\(ok=true->∀v i,ax M v i->ak M v i≠0)/\Below w.heap.size w w':=by
 have adE:=aE cC
 have hsN:eR p.nodes:=by
  have h9:=cC;unfold bV at h9;simp only[Zai,aB]at h9;exact jO h9.2.2.1
 obtain⟨nr,Kq,jB,Hn,wH⟩:=D_ hsN adE.1 cC hn iR
 have Ao:Hid (n.ids.length<=17592186044416):=by show _<=_;omega
 obtain⟨w0,A,c,A2,c2,A3,c3,P0,iG,P1,it,rfl,rfl,rfl,fR,hm,gC,jz,HA,H,rfl,rfl,jj,jk,jl,jm,jn,jo,HP,cD,aY,fp,fE,fM,ku,nY,oW,oX⟩:=Ah hp h;clear hp h
 obtain⟨gO,iD,HL⟩:=B_ (Ai HP.out) (ET H.out) (GQ (hl.agU aY.out));obtain⟨AL,cL,rfl,-,-,-⟩:=hl;clear adE hsN
 go_enter Tryz.func11,Tryz.ntmps11
 go_upto_region 1 with(fail);rw[<- cD.out];refine aM 15 (ab w0) (aa _) ?_;simp only[zT]
 refine ch rfl ?_;simp only[zA]
 apply dE _ rfl;(intro W hW;unfold a_;go_simp;with_reducible exact zQ (iq _ _ p W (gO.out W hW)));simp only[zA]
 iterate 2 (refine ch rfl ?_;simp only[zA])
 refine iT rfl rfl ?_;simp only[zA]
 apply bn rfl rfl;(intro hb;intro W hW;unfold a_;go_simp;with_reducible exact zQ (fZ _ _ _ n W (iD.out W hW) Ao.out));simp only[zA]
 refine iT rfl rfl ?_;simp only[zA]
 (first | refine db rfl rfl ?_ | (refine ch rfl ?_));simp only[zA]
 refine ch rfl ?_;simp only[zA]
 iterate 3 (refine iT rfl rfl ?_;simp only[zA])
 apply bn rfl rfl;(intro hb;intro W hW;unfold a_;go_simp;with_reducible exact zQ (mE _ _ _ _ _ _ p n l W (gO.out W hW) (iD.out W hW) (HL.out W hW) Kq.out));simp only[zA]
 refine iT rfl rfl ?_;simp only[zA]
 (first | refine db rfl rfl ?_ | (refine ch rfl ?_));simp only[zA]
 intro W hW
 have hg:(!bV p || !ar n || !fB p n l)=false:=by rw[cC,hn,iR];rfl
 have HW:=zh hW;clear hW cC hn iR;have hs:=HW.out;go_wp2_with fail;clear hs;refine(p8 _ _ _ _ _ _ p n l _ (gO _ HW) (iD _ HW) (HL _ HW) jB Hn wH nr iM gM).mono ?_;rintro e W1 ⟨u,ok,M,S,rfl,hO,hR,hz,hy,hb⟩;obtain⟨HO,HR,Hz,Hy,Hb⟩:=D_ hO hR hz hy hb;clear hO hR hz hy hb;go_wp2
 go_ret2
 exact⟨u,ok,M,S,rfl,aL.mono HO (Zak aY.size HW.below.size),HR,Hz,Hy,ab.after aY (ab.trans HW Hb)⟩
theorem FI {w:World} {base size n j:Nat} {e:TypeId} {v:Value} {xs:List Value} (h:w.ownsRow base e size v n xs) (hj:v.ownBlock=some j):∃cur,w.heap[j]?=some (.cells cur e (0,0)):=by
 rcases h.2 with⟨rfl,-⟩ | ⟨g,cap,cur,rfl,-,hg,-⟩
 ·cases hj
 ·cases hj;exact⟨cur,hg⟩
theorem aw.ahx {w:World} {base b:Nat} {ve vi vn x y z:Value} {N:ao} {S:List Nat} (h:aw w base ve vi vn N S) (hb:bD w b x y z):b∉S:=by
 have lw:∀(e:TypeId),e≠30->¬ ∃cur,w.heap[b]?=some (.cells cur e (0,0)):=fun e he ⟨cur,hc⟩=>by
  have h1:=hc.symm.trans hb
  injection h1 with h1
  injection h1 with h1 h2 h3
  exact he h2
 obtain⟨S1,S2,S3,⟨vs,Ss,h1,h2,h3,h4,-⟩,h5,h6,rfl,-⟩:=h;intro hj;rcases Zar.1 hj with hj | hj
 ·rw[h4]at hj;rcases Zar.1 hj with hj | hj
  ·exact lw _ (by decide) (FI h1 (Zcm.1 hj))
  ·obtain⟨T,hT,hjT⟩:=Zap.1 hj;obtain⟨k,hk⟩:=List.getElem?_of_mem hT
   obtain⟨es,aU⟩:=au N.ends k (zX (ah hk))
   have xA:vs.length=N.ends.length:=by have:=h1.1;simpa using this
   obtain⟨u,hu⟩:=au vs k (zX (ah aU))
   obtain⟨r1,r2⟩:=h3 k u es T hu aU hk;rw[r2]at hjT;exact lw _ (by decide) (FI r1 (Zcm.1 hjT))
 ·rcases Zar.1 hj with hj | hj
  ·rw[h5.2]at hj;exact lw _ (by decide) (FI h5.1 (Zcm.1 hj))
  ·rw[h6.2]at hj;exact lw _ (by decide) (FI h6.1 (Zcm.1 hj))
def abk (B:Nat) (u:Value) (W:World):Prop:=∃ve vi vn N S,u=.agg #[ve,vi,vn]/\aw W B ve vi vn N S/\Gd 100 30 N
def adF (B:Nat) (u:Value) (W:World):Prop:=∃b,u=.pointer (some ⟨b,0,none⟩)/\B<=b/\bD W b (.slice none 0 0) (.slice none 0 0) (.slice none 0 0)
structure GrI (cb:Nat) (A:Option Addr) (L c Q K:Nat) (w6:World) (q:Nat) (W:World):Prop where
 seen:bO cb w6 W
 cur:dj W cb A L c (Q+K*q)
theorem tX.ahu {cb B pb nb:Nat} {A:Option Addr} {L c Q Q':Nat} {w0 W W':World} {lb dg lb' dg':Int} {a b a' b':Value} {l m l' m':List (List Int)} {ve vi vn:Value} {N:ao} {S:List Nat} {B':Nat} (h:tX cb B pb nb A L c Q w0 W lb dg a b l m ve vi vn N S) (hs:bO cb W W') (sZ:dj W' cb A L c Q') (ho:fY W' B' a' b' ⟨lb',dg',l',m'⟩) (jQ:wZ ⟨lb',dg',l',m'⟩) (hB':pb<B') (hnB:nb<B') (hb:cb<B) (hp:B<=pb) (dV:pb≠cb) (XT:pb≠nb) (hB:B<=W.heap.size) (hBn:B<=nb) (H9:B<=B') (hS:pb∉S):tX cb B pb nb A L c Q' w0 (ag4 W' pb (.int .i64 lb') (.int .i64 dg') a' b') lb' dg' a' b' l' m' ve vi vn N S:=by
 have hst:∀j,j≠pb->(ag4 W' pb (.int .i64 lb') (.int .i64 dg') a' b').heap[j]?=W'.heap[j]?:=fun j hj=>By _ _ _ _ _ _ hj
 have hn:=h.net.seen hs sZ hb hBn hB;obtain⟨TN,TE,q1,q2,q3⟩:=ho;refine⟨(h.pbx.seen hs dV).ag4 _ _ _ _,?_,jQ,⟨hn.own.agV fun j hj=>hst j fun e=>hS (e ▸ hj),hn.box.blk (hst nb (Ne.symm XT)),hn.nb,hn.cur.agU fun j hj=>hst j zO,?_⟩,h.bd⟩
 ·have hox:ia W' B nb a' b' l' m':=⟨_,_,q1.bound.mono H9 fun _ h=>h,q2.bound.mono H9 fun _ h=>h,fun j h1 h2=>q3 j h1.1 h2.1,fun j h1=>zX h1.2.1,fun j h1=>zX h1.2.1⟩
  obtain⟨TN',TE',r1,r2,r3,r4,r5⟩:=hox
  refine⟨_,_,(q1.bound.mono H9 fun _ h=>h).agV fun j q=>(fun _ _=>hst j (zX q.2.1)),(q2.bound.mono H9 fun _ h=>h).agV fun j q=>(fun _ _=>hst j (zX q.2.1)),fun j h1 h2=>q3 j h1.1 h2.1,fun j h1=>zX h1.2.1,fun j h1=>zX h1.2.1⟩
 ·exact(((hn.far.setCell (p:=⟨pb,0,none⟩) (.inl hp) _).setCell (p:=⟨pb,1,none⟩) (.inl hp) _).setCell (p:=⟨pb,2,none⟩) (.inl hp) _).setCell (p:=⟨pb,3,none⟩) (.inl hp) _
theorem Nd (cb:Nat) (A:Option Addr) (L c P most:Nat) (w:World) (hc:dj w cb A L c P) (hP:P<=2900000000000000000) (wI:1<=most/\most<=30):
  Calls Tryz.prog 56 #[.pointer (some ⟨cb,0,none⟩),.int .i64 most] w (YU cb w.heap.size A L c (P+600000000000000000) w):=by
 have jW:=hc.lt;obtain⟨rb,gh⟩:=J_ w.heap.size
 obtain⟨rn,ME⟩:=J_ (rb+1)
 obtain⟨Ch,rY⟩:=J_ (w.alloc (.cells #[.int .i64 0,.int .i64 0,.slice none 0 0,.slice none 0 0] 26))
 have Jr:ab w Ch:=by rw[rY];exact ad _ (aa _)
 have yx:Ch.heap.size=rn:=by rw[rY,ME,gh];simp
 obtain⟨w0,bj⟩:=J_ (Ch.alloc (.cells #[.slice none 0 0,.slice none 0 0,.slice none 0 0] 30))
 have rP:ab Ch w0:=by rw[bj];exact ad _ (aa _)
 have aK:ab w w0:=Jr.after rP
 have ks:aT w0 rb 0 0 (.slice none 0 0) (.slice none 0 0):=(show aT Ch rb 0 0 (.slice none 0 0) (.slice none 0 0)by rw[rY,gh];exact aT.fresh _ _ _ _ _).agU rP
 have PV:bD w0 rn (.slice none 0 0) (.slice none 0 0) (.slice none 0 0):=by
  rw[bj,<- yx];show(Ch.heap.push _)[Ch.heap.size]?=_
  rw[Zbc]
 obtain⟨B,hB⟩:=J_ (rn+1)
 have e_:w0.heap.size=B:=by rw[bj,hB,<- yx];simp
 obtain⟨UM,cD,ic,fX,agQ,aY,Hn0,iS,C6⟩:=H_ rY bj aK gh yx ks PV e_ (hc.since aK);have Dl:Hid (cb<rb/\rn=rb+1/\B=rn+1):=⟨zO,ME,hB⟩;clear rY bj aK Jr rP ks PV e_ hc jW hB
 go_enter Tryz.func56,Tryz.ntmps56
 go_upto_region 1 with(fail);rw[<- UM.out];rw[<- cD.out,<- fX.out,<- Dl.out.2.1];clear gh yx ME;go_wp2_with fail;refine(WR cb A L c P w0 C6 zO).mono ?_;rintro e w1 ⟨d,rfl,hd,j_,mc⟩;have oz:Hid (bO cb w0 w1):=mc;have jw:=zh j_;clear j_ mc;go_wp2_with fail;refine(Ea cb A L c (P+2) d w1 jw zO hd).mono ?_;rintro e w2 ⟨a,b,p,rfl,aI,vj,lh,sY⟩
 obtain⟨A1,c1,rfl⟩:∃A c,a=.slice A p.nodes.length c:=by obtain⟨TN,TE,q1,-⟩:=aI;obtain⟨A,c,e,-⟩:=q1.form;exact⟨A,c,e⟩
 obtain⟨A2,c2,rfl⟩:∃A c,b=.slice A p.agW.length c:=by obtain⟨TN,TE,-,q1,-⟩:=aI;obtain⟨A,c,e,-⟩:=q1.form;exact⟨A,c,e⟩
 have qM:wZ p:=vj.any hd.2;obtain⟨lb,dg,l,m⟩:=p;obtain⟨pb,dV⟩:=J_ w2.heap.size
 obtain⟨w3,ib⟩:=J_ (w2.alloc (.cells #[.int .i64 lb,.int .i64 dg,.slice A1 l.length c1,.slice A2 m.length c2] 26))
 have oi:ab w2 w3:=by rw[ib];exact ad _ (aa _)
 have pz:bO cb w0 w3:=bO.after (oz.trans sY) oi
 have dP:B<=w1.heap.size:=by rw[<- iS.out];exact oz.size
 have hx3:ia w3 (rn+1) pb (.slice A1 l.length c1) (.slice A2 m.length c2) l m:=(ia.of (aI.mono (zX Dl.out)) (by rw[dV];exact Zaj _)).since oi
 have er:aT w3 pb lb dg (.slice A1 l.length c1) (.slice A2 m.length c2):=by rw[ib,dV];exact aT.fresh _ _ _ _ _
 have dG:Hid (B<=pb):=by show _<=_;rw[dV];have:=sY.size;omega
 have yT:Hid (pb<w3.heap.size):=by show _<_;rw[ib,dV];simp
 obtain⟨yI,Hpe,xU,Vm,tF,IC,kn⟩:=F_ ib dV pz hx3 er qM (lh.since oi)
 have jg:pb≠cb:=zY dG.out Dl.out
 have qw:cb<B:=zX Dl.out
 clear ib dV oi pz dP hx3 er qM lh sY aI vj;go_upto_region 3 with(fail);rw[<- yI.out,<- Hpe.out];go_wp2_with fail;refine(wV cb A L c _ most 30 w3 kn zO wI.1 wI.2 zO).mono ?_;rintro e w4 ⟨ve,vi,vn,N,S,rfl,jA,hT4,mO,oa⟩;obtain⟨D0,d0,rfl,-,-,-⟩:=id jA.read.1;obtain⟨D1,d1,rfl,-,-,-⟩:=id jA.read.2.1;obtain⟨D2,d2,rfl,-,-,-⟩:=id jA.read.2.2;obtain⟨nb,nt⟩:=J_ w4.heap.size
 obtain⟨w5,vS⟩:=J_ (w4.alloc (.cells #[.slice D0 N.ends.length d0,.slice D1 N.ids.length d1,.slice D2 N.agT.length d2] 30))
 have Cz:ab w4 w5:=by rw[vS];exact ad _ (aa _)
 have adG:=oa.size
 have Ga:B<=w3.heap.size:=zY dG.out yT.out
 have hpS:pb∉S:=fun hj=>by have h8:=(jA.range _ hj).1;have:=yT.out;omega
 have adH:ia w5 B nb (.slice A1 l.length c1) (.slice A2 m.length c2) l m:=by
  have h1:=(Vm.out.seen (show bO cb w3 w4 from oa) (zX Dl.out)).own lb dg
  exact(ia.of (h1.mono (zX Dl.out)) (by rw[nt];exact Zaj _)).since Cz
 have xo:tX cb B pb nb A L c (P+100000000000000000) w0 w5 lb dg (.slice A1 l.length c1) (.slice A2 m.length c2) l m (.slice D0 N.ends.length d0) (.slice D1 N.ids.length d1) (.slice D2 N.agT.length d2) N S:=by
  refine⟨(tF.seen (show bO cb w3 w4 from oa) jg).agU Cz,adH,IC,⟨(jA.agU Cz.below).mono Ga,by rw[vS,nt];exact bB.new _ _ _ _ _,fun hj=>zX ((jA.range _ hj).2),(mO.since Cz).mono zO,?_⟩,hT4.1.bd zO zO⟩
  exact((show CB cb B w0 w3 from xU.mono (by rw[iS.out];exact Zaj _)).trans (oa.mono Ga)).trans (CB.of (Cz.below.mono zO))
 have Dm:Hid (B<=nb/\pb≠nb/\pb<nb):=⟨zO,zX yT.out,zX yT.out⟩
 have JC:Hid (B<=w5.heap.size):=Zak (Zak Ga adG) Cz.below.size;obtain⟨abl,Mr,NS⟩:=B_ xo vS nt;have HT:Hid (Gd 100 30 N):=hT4.1;have HpS:=zh hpS;clear jA hT4 mO oa nt vS Cz adG Ga hpS adH xo tF Vm IC kn xU yI Hpe;go_upto_region 4 with(fail);rw[<- Mr.out,<- NS.out];go_wp2_with fail;refine(dF cb A L c _ 10 w5 abl.net.cur zO zO).mono ?_;rintro e w6 ⟨x,rfl,hx,ee,jC⟩;have afK:x<10:=zO
 have iQ:=zh (abl.out.seen jC ee qw Dm.out.1 jg JC.out);have UN:Hid (B<=w6.heap.size):=Zak JC jC.size;clear hx ee jC abl JC Mr NS
 go_upto_block 0 with(fail)
 go_cut []from 20 to 50 (fun wx=>∃lx dx a b l6 m6 ve vi vn N S,tX cb B pb nb A L c (P+590000000000000000) w0 wx lx dx a b l6 m6 ve vi vn N S)
 case first=>
  have hx7:x=0\/x=1\/x=2\/x=3\/x=4\/(5<=x/\x<10):=zO
  clear afK;rcases hx7 with rfl | rfl | rfl | rfl | rfl | hx5
  ·go_wp2_with fail;refine(W9 cb A L c _ most 38 w6 iQ.net.cur zO wI.1 zO zO).mono ?_;rintro e w7 ⟨ve,vi,vn,M,T,rfl,ho,hT,f8,hC⟩;obtain⟨E0,e0,rfl,-,-,-⟩:=id ho.read.1;obtain⟨E1,e1,rfl,-,-,-⟩:=id ho.read.2.1;obtain⟨E2,e2,rfl,-,-,-⟩:=id ho.read.2.2;have Ha7:=zh (iQ.out.assign hC f8 ho iQ.out.net.box.lt qw Dm.out.1 jg Dm.out.2.1 UN.out hT)
   obtain⟨k0,k1,k2,f0,f1,f2⟩:=(iQ.out.net.box.blk (hC.block nb iQ.out.net.box.lt (zX Dm.out))).cells
   clear ho hT f8 hC;go_wp2;go_meet
   exact⟨_,_,_,_,_,_,_,_,_,M,T,Ha7.up zO⟩
  ·go_wp2_with fail;refine(dF cb A L c _ 2 w6 iQ.net.cur zO zO).mono ?_;rintro e w7 ⟨y,rfl,hy,Js,Vx⟩;have rZ:=zh (iQ.out.seen Vx Js qw Dm.out.1 jg UN.out);have Hz7:Hid (B<=w7.heap.size):=Zak UN Vx.size;obtain⟨dp,hdp⟩:=J_ (1+y)
   have n1:IntKind.i64.wrap (1+(y:Int))=(dp:Int):=by rw[bU _ zO zO];omega
   have hdb:1<=dp/\dp<=2:=zO
   clear hy Js Vx hdp;go_wp2_with fail;refine(qA d dp hd hdb w7).mono ?_;rintro e w8 ⟨ve,vi,vn,M,T,rfl,ho,hT,yS⟩;obtain⟨E0,e0,rfl,-,-,-⟩:=id ho.read.1;obtain⟨E1,e1,rfl,-,-,-⟩:=id ho.read.2.1;obtain⟨E2,e2,rfl,-,-,-⟩:=id ho.read.2.2;have kK:ab w7 w8:=yS;have Ha8:=zh (rZ.out.assign (CB.of kK) (rZ.out.net.cur.since kK) ho rZ.out.net.box.lt qw Dm.out.1 jg Dm.out.2.1 Hz7.out (hT.1.bd zO zO));obtain⟨k0,k1,k2,f0,f1,f2⟩:=(rZ.net.box.below kK rZ.net.box.lt).cells;clear ho hT yS kK;go_wp2;go_meet
   exact⟨_,_,_,_,_,_,_,_,_,M,T,Ha8.up zO⟩
  ·go_wp2_with fail;refine(dF cb A L c _ 2 w6 iQ.net.cur zO zO).mono ?_;rintro e w7 ⟨y,rfl,hy,Js,Vx⟩;have rZ:=zh (iQ.out.seen Vx Js qw Dm.out.1 jg UN.out);have Hz7:Hid (B<=w7.heap.size):=Zak UN Vx.size;obtain⟨dp,hdp⟩:=J_ (1+y)
   have n1:IntKind.i64.wrap (1+(y:Int))=(dp:Int):=by rw[bU _ zO zO];omega
   have hdb:1<=dp/\dp<=2:=zO
   clear hy Js Vx hdp;go_wp2_with fail;refine(qA d dp hd hdb w7).mono ?_;rintro e w8 ⟨ve,vi,vn,M,T,rfl,ho,hT,yS⟩;obtain⟨E0,e0,rfl,-,-,-⟩:=id ho.read.1;obtain⟨E1,e1,rfl,-,-,-⟩:=id ho.read.2.1;obtain⟨E2,e2,rfl,-,-,-⟩:=id ho.read.2.2;have kK:ab w7 w8:=yS;have Ha8:=zh (rZ.out.assign (CB.of kK) (rZ.out.net.cur.since kK) ho rZ.out.net.box.lt qw Dm.out.1 jg Dm.out.2.1 Hz7.out (hT.1.bd zO zO));obtain⟨k0,k1,k2,f0,f1,f2⟩:=(rZ.net.box.below kK rZ.net.box.lt).cells;clear ho hT yS kK;go_wp2;go_meet
   exact⟨_,_,_,_,_,_,_,_,_,M,T,Ha8.up zO⟩
  ·obtain⟨k0,k1,k2,-,-,-⟩:=iQ.net.box.cells;have lF:=zh (And.intro k0 (And.intro k1 k2));clear k0 k1 k2
   have JI:nb≠cb:=zX Dm.out
   obtain⟨wo,rfl⟩:=J_ w6
   go_upto_region 11 with(fail);have O2:cb<wo.heap.size:=Zal qw UN;have hkw:nb<wo.heap.size:=iQ.net.box.lt;refine Dd 6 [3] (RW [W8 (.agg #[.slice D0 N.ends.length d0,.slice D1 N.ids.length d1,.slice D2 N.agT.length d2]),W8 (.pointer (some ⟨cb,0,none⟩)),W8 (.int .i64 most),abk wo.heap.size,acV wo.heap.size,adF wo.heap.size]) (GrI cb A L c (P+100000000000000000+2) 72057594037927936 wo) (bO cb) (RW.rel ?_) zK zK zK (by decide) zK ⟨(bO.refl cb wo).after (aj (aa _)),(iQ.net.cur.since (aj (aa _))).mono zO⟩ ?_ ?_
   ·intro r hr;simp only[Zbe,List.not_mem_nil,or_false]at hr;rcases hr with rfl | rfl | rfl | rfl | rfl | rfl
    ·exact fun _ _ _ _ h=>h
    ·exact fun _ _ _ _ h=>h
    ·exact fun _ _ _ _ h=>h
    ·exact fun _ _ _ hs ⟨a,b,d,N,S,h1,h2,h3⟩=>⟨a,b,d,N,S,h1,h2.seen hs O2,h3⟩
    ·exact fun _ _ _ hs ⟨a,b,d,N,S,h1,h2,h3⟩=>⟨a,b,d,N,S,h1,h2.seen hs O2,h3⟩
    ·exact fun _ _ _ hs ⟨b,h1,h2,h3⟩=>⟨b,h1,h2,(hs.block b h3.lt zO).trans h3⟩
   ·intro i o hi ho V W q hq hr lV hd
    match i,ho with
    | 0,ho=>
     cases ho;clear hd hi hr lV;refine⟨rfl,?_⟩;simp only[bh,zR6,zG,zA]
     obtain⟨k0,k1,k2,-,-,-⟩:=(iQ.net.box.blk (hq.seen.block nb hkw JI)).cells;refine pW (u:=.agg #[.slice D0 N.ends.length d0,.slice D1 N.ids.length d1,.slice D2 N.agT.length d2]) (W':=W) (by go_simp) ⟨hq,bO.refl cb W,rfl⟩
    | 1,ho=>
     cases ho;clear hd hi hr lV;refine⟨rfl,?_⟩;simp only[bh,zR6,zG,zA]
     refine pW (u:=.pointer (some ⟨cb,0,none⟩)) (W':=W) (by go_simp) ⟨hq,bO.refl cb W,rfl⟩
    | 2,ho=>
     cases ho;clear hd hi hr lV;refine⟨rfl,?_⟩;simp only[bh,zR6,zG,zA]
     refine pW (u:=.int .i64 most) (W':=W) (by go_simp) ⟨hq,bO.refl cb W,rfl⟩
    | 3,ho=>
     cases ho;have e1:(W8 (.pointer (some ⟨cb,0,none⟩))) (V 1) W:=hd 1 (by decide +kernel);have e2:(W8 (.int .i64 most)) (V 2) W:=hd 2 (by decide +kernel);have hq0:Hid (0=q):=hr 0 rfl;clear hd hi hr lV;refine⟨rfl,?_⟩;simp only[bh,zR6,zG,zA]
     have e1:V 1=_:=e1;have e2:V 2=_:=e2;rw[e1,e2];clear e1 e2;refine yc (f:=102) (args:=#[.pointer (some ⟨cb,0,none⟩),.int .i64 most]) (W':=W) (by go_simp) ?_
     refine(wV cb A L c (P+100000000000000000+2+72057594037927936*q) most 30 W hq.cur (zX hq0.out) wI.1 wI.2 zO).mono ?_
     rintro e W' ⟨a,b,d,N8,S8,rfl,WK,⟨YD,-⟩,Lo,Gb⟩;exact⟨_,rfl,⟨hq.seen.trans Gb,show dj W' cb A L c (P+100000000000000000+2+72057594037927936*(q+1))from Lo.mono zO⟩,Gb,a,b,d,N8,S8,rfl,WK.mono hq.seen.size,YD⟩
    | 4,ho=>
     cases ho;have e0:(W8 (.agg #[.slice D0 N.ends.length d0,.slice D1 N.ids.length d1,.slice D2 N.agT.length d2])) (V 0) W:=hd 0 (by decide +kernel);have e3:(abk wo.heap.size) (V 3) W:=hd 3 (by decide +kernel);clear hd hi hr lV;refine⟨rfl,?_⟩;simp only[bh,zR6,zG,zA]
     have e0:V 0=_:=e0;rw[e0];clear e0;obtain⟨a,b,d,N8,S8,hv,WK,YD⟩:=e3;have hv:V 3=_:=hv;rw[hv];clear hv;refine yc (f:=104) (args:=#[.agg #[.slice D0 N.ends.length d0,.slice D1 N.ids.length d1,.slice D2 N.agT.length d2],.agg #[a,b,d]]) (W':=W) (by go_simp) ?_;refine(ya _ _ _ _ _ _ N N8 W (iQ.net.own.seen hq.seen qw).read WK.read (HT.small zO zO) (YD.small zO zO) YD.wf).mono ?_;rintro e W' ⟨x,y,z,S9,rfl,gj,lO⟩;have Oh:bO cb W W':=CB.of lO;exact⟨_,rfl,⟨hq.seen.trans Oh,hq.cur.since lO⟩,Oh,x,y,z,iN N N8,S9,rfl,gj.mono hq.seen.size,(HT.union YD).bd zO zO⟩
    | 5,ho=>
     cases ho;clear hd hi hr lV;refine⟨rfl,?_⟩;simp only[bh,zR6,zG,zA]
     refine pW (u:=.pointer (some ⟨W.heap.size,0,none⟩)) (W':=W.alloc (.cells #[.slice none 0 0,.slice none 0 0,.slice none 0 0] 30)) (by go_simp) ⟨⟨hq.seen.after (ad _ (aa _)),hq.cur.since (ad _ (aa _))⟩,(bO.refl cb W).after (ad _ (aa _)),W.heap.size,rfl,hq.seen.size,?_⟩;show(W.heap.push _)[W.heap.size]?=_
     rw[Zbc]
    | i+6,ho=>omega
   intro V W q hq Kh c_ hV;have VM:0<q:=c_ 3 0 zO rfl;have Kh:q<=1:=Kh;have e0:(W8 (.agg #[.slice D0 N.ends.length d0,.slice D1 N.ids.length d1,.slice D2 N.agT.length d2])) (V 0) W:=hV 0 (by decide);have e1:(W8 (.pointer (some ⟨cb,0,none⟩))) (V 1) W:=hV 1 (by decide);have e2:(W8 (.int .i64 most)) (V 2) W:=hV 2 (by decide);have e3:(abk wo.heap.size) (V 3) W:=hV 3 (by decide);have e4:(acV wo.heap.size) (V 4) W:=hV 4 (by decide);have e5:(adF wo.heap.size) (V 5) W:=hV 5 (by decide);clear hV c_;have e0:V 0=_:=e0;have e1:V 1=_:=e1;have e2:V 2=_:=e2;obtain⟨a3,b3,d3,N8,S8,e3,-,-⟩:=e3;obtain⟨x,y,z,M,S9,e4,gj,hbM⟩:=e4;obtain⟨ub,e5,hub,dK⟩:=e5;simp only[bh,zR6,zG]
   (try simp only[zA])
   simp only[List.drop_succ_cons,List.drop_zero];rw[e0,e1,e2,e3,e4,e5];clear e0 e1 e2 e3 e4 e5;obtain⟨F0,t0,rfl,-,-,-⟩:=id gj.read.1;obtain⟨F1,t1,rfl,-,-,-⟩:=id gj.read.2.1;obtain⟨F2,t2,rfl,-,-,-⟩:=id gj.read.2.2;have hnS:=gj.ahx dK;obtain⟨Mz,UO⟩:=J_ (agX W ub (.slice F0 M.ends.length t0) (.slice F1 M.ids.length t1) (.slice F2 M.agT.length t2))
   have hst:∀j,j≠ub->Mz.heap[j]?=W.heap[j]?:=fun j hj=>by rw[UO];exact dC _ _ _ _ _ hj
   have uZ:Hid (bB Mz ub (.slice F0 M.ends.length t0) (.slice F1 M.ids.length t1) (.slice F2 M.agT.length t2)):=by show bB _ _ _ _ _;rw[UO];exact dK.box.agX _ _ _
   have OO:Hid (aw Mz wo.heap.size (.slice F0 M.ends.length t0) (.slice F1 M.ids.length t1) (.slice F2 M.agT.length t2) M S9):=gj.agV fun j hj=>hst j fun e=>hnS (e ▸ hj)
   have abm:Hid (bO cb wo Mz):=by
    show CB _ _ _ _
    rw[UO];exact((hq.seen.setCell (p:=⟨ub,0,none⟩) (.inl hub) _).setCell (p:=⟨ub,1,none⟩) (.inl hub) _).setCell (p:=⟨ub,2,none⟩) (.inl hub) _
   have Y6:Hid (dj Mz cb A L c (P+200000000000000000)):=(hq.cur.agU fun j hj=>hst j zO).mono zO
   obtain⟨afL,HbM⟩:=A_ UO hbM;obtain⟨j0,j1,j2,f0,f1,f2⟩:=dK.box.cells;clear gj hbM hub dK hnS UO hst hq VM Kh O2 hkw;go_upto_region 12 with(fail);rw[show((W.setCell ⟨ub,0,none⟩ (.slice F0 M.ends.length t0)).setCell ⟨ub,1,none⟩ (.slice F1 M.ids.length t1)).setCell ⟨ub,2,none⟩ (.slice F2 M.agT.length t2)=Mz from afL.out.symm];clear j0 j1 j2 f0 f1 f2;obtain⟨p0,p1,p2,-,-,-⟩:=uZ.cells;go_wp2_with fail;refine(pE _ _ _ M Mz OO.read).mono ?_;rintro e w11 ⟨rfl,IA⟩;obtain⟨Fq,aaB⟩:=A_ (show ab Mz w11 from IA) (OO.out.agU IA);have UP:=zh (iQ.out.seen (abm.out.after Fq.out) (Y6.out.since Fq.out) qw Dm.out.1 jg UN.out);have agR:Hid (B<=w11.heap.size):=Zak UN (abm.after Fq).size;obtain⟨p0,p1,p2,-,-,-⟩:=(bB.below uZ Fq uZ.lt).cells;clear IA;obtain⟨gd,gT⟩:=K_ (ar M)
   rw[gT];cases gd
   ·go_wp2;go_meet
    exact⟨_,_,_,_,_,_,_,_,_,N,S,UP.up zO⟩
   ·have afM:=zh (tX.assign (B':=wo.heap.size) iQ.out (abm.out.after Fq.out) (Y6.out.since Fq.out) aaB.out iQ.out.net.box.lt qw Dm.out.1 jg Dm.out.2.1 UN.out HbM.out);obtain⟨k0,k1,k2,f0,f1,f2⟩:=(UP.net.box).cells;go_wp2;go_meet
    exact⟨_,_,_,_,_,_,_,_,_,M,S9,afM.up zO⟩
  ·go_wp2_with fail;refine(Fr cb A L c _ d w6 iQ.net.cur zO hd).mono ?_;rintro e w7 ⟨a5,b5,p5,rfl,Nf,adI,qL,Bp⟩
   obtain⟨A5,c5,rfl⟩:∃A c,a5=.slice A p5.nodes.length c:=by obtain⟨TN,TE,q1,-⟩:=Nf;obtain⟨A,c,e,-⟩:=q1.form;exact⟨A,c,e⟩
   obtain⟨A6,c6,rfl⟩:∃A c,b5=.slice A p5.agW.length c:=by obtain⟨TN,TE,-,q1,-⟩:=Nf;obtain⟨A,c,e,-⟩:=q1.form;exact⟨A,c,e⟩
   obtain⟨l5,g5,n5,m5⟩:=p5;have aA:=iQ.net.box.lt
   have Ha7:=zh (iQ.out.ahu Bp qL Nf adI (zX Dm.out) aA qw (zX dG.out) jg Dm.out.2.1 UN.out Dm.out.1 UN.out HpS.out)
   have k8:=iQ.pbx.seen Bp jg;obtain⟨k0,k1,k2,k3⟩:=k8.cells;have f0:=frozen_of_row w7 _ 0 _ _ k8;have f1:=frozen_of_row w7 _ 1 _ _ k8;have f2:=frozen_of_row w7 _ 2 _ _ k8;have f3:=frozen_of_row w7 _ 3 _ _ k8;clear k8 Nf adI qL Bp aA;go_wp2;go_meet
   exact⟨_,_,_,_,_,_,_,_,_,N,S,Ha7.up zO⟩
  ·have e0:((x:Int)==0)=false:=by simp;omega
   have e1:((x:Int)==1)=false:=by simp;omega
   have e2:((x:Int)==2)=false:=by simp;omega
   have e3:((x:Int)==3)=false:=by simp;omega
   have e4:((x:Int)==4)=false:=by simp;omega
   go_wp2;go_meet
   exact⟨_,_,_,_,_,_,_,_,_,N,S,iQ.up zO⟩
 case rest=>
  obtain⟨lx,dx,a,b,l6,m6,ve,vi,vn,M,T,xo⟩:=hcut
  obtain⟨A3,c3,rfl⟩:∃A c,a=.slice A l6.length c:=by obtain⟨TN,TE,q1,-⟩:=xo.own;obtain⟨A,c,e,-⟩:=q1.form;exact⟨A,c,e⟩
  obtain⟨A4,c4,rfl⟩:∃A c,b=.slice A m6.length c:=by obtain⟨TN,TE,-,q1,-⟩:=xo.own;obtain⟨A,c,e,-⟩:=q1.form;exact⟨A,c,e⟩
  obtain⟨E0,e0,rfl,-,-,-⟩:=id xo.net.own.read.1;obtain⟨E1,e1,rfl,-,-,-⟩:=id xo.net.own.read.2.1;obtain⟨E2,e2,rfl,-,-,-⟩:=id xo.net.own.read.2.2;obtain⟨v_,rfl⟩:=J_ wc
  have bH:CB cb B w0 v_:=xo.net.far
  have jp:aT v_ rb 0 0 (.slice none 0 0) (.slice none 0 0):=aY.out.blk (bH.block rb (zX Dl.out) (zX Dl.out))
  have vY:bD v_ rn (.slice none 0 0) (.slice none 0 0) (.slice none 0 0):=bH.ag3 Hn0.out (zX Dl.out) (zX Dl.out)
  obtain⟨r8,HB0,HN0⟩:=B_ xo jp vY;obtain⟨k0,k1,k2,k3⟩:=xo.pbx.cells;obtain⟨j0,j1,j2,-,-,-⟩:=xo.net.box.cells;obtain⟨r0,r1,r2,r3⟩:=jp.cells;have f0:=frozen_of_row v_ _ 0 _ _ jp;have f1:=frozen_of_row v_ _ 1 _ _ jp;have f2:=frozen_of_row v_ _ 2 _ _ jp;have f3:=frozen_of_row v_ _ 3 _ _ jp;obtain⟨s0,s1,s2,t0,t1,t2⟩:=vY.box.cells;clear xo bH jp vY iQ
  have v1:(rn=rb)=False:=by simp;have:=Dl.out;omega
  have v3:(nb=rb)=False:=by simp;have:=Dl.out;have:=Dm.out;omega
  have v4:(nb=rn)=False:=by simp;have:=Dl.out;have:=Dm.out;omega
  have v5:(pb=rb)=False:=by simp;have:=Dl.out;have:=dG.out;omega
  have v6:(pb=rn)=False:=by simp;have:=Dl.out;have:=dG.out;omega
  have v7:(rb=nb)=False:=by simp;have:=Dl.out;have:=Dm.out;omega
  have v8:(rn=nb)=False:=by simp;have:=Dl.out;have:=Dm.out;omega
  have v9:(rb=pb)=False:=by simp;have:=Dl.out;have:=dG.out;omega
  have v0:(rn=pb)=False:=by simp;have:=Dl.out;have:=dG.out;omega
  have v2:(rb=rn)=False:=by simp;have:=Dl.out;omega
  go_upto_region 16 with(fail)
  go_region
  go_wp2;refine bodyPost_ret (v:=.tuple #[.agg #[.int .i64 lx,.int .i64 dx,.slice A3 l6.length c3,.slice A4 m6.length c4],.agg #[.slice E0 M.ends.length e0,.slice E1 M.ids.length e1,.slice E2 M.agT.length e2]]) (by simp[results,Tryz.results56,go_sem, *]) rfl ?_;have hE:=Dl.out;have agS:=fX.out
  have hst:∀j,j≠rb->j≠rn->(agX (ag4 v_ rb (.int .i64 lx) (.int .i64 dx) (.slice A3 l6.length c3) (.slice A4 m6.length c4)) rn (.slice E0 M.ends.length e0) (.slice E1 M.ids.length e1) (.slice E2 M.agT.length e2)).heap[j]?=v_.heap[j]?:=fun j h1 h2=>by
   rw[dC _ _ _ _ _ h2,By _ _ _ _ _ _ h1]
  obtain⟨wf,Wu⟩:=J_ (agX (ag4 v_ rb (.int .i64 lx) (.int .i64 dx) (.slice A3 l6.length c3) (.slice A4 m6.length c4)) rn (.slice E0 M.ends.length e0) (.slice E1 M.ids.length e1) (.slice E2 M.agT.length e2))
  rw[<- Wu]at hst
  have jW:CB cb w.heap.size w wf:=by
   rw[Wu];have h1:CB cb w.heap.size w v_:=(CB.of ic.below).trans (r8.net.far.mono zO)
   have h2:=(((h1.setCell (p:=⟨rb,0,none⟩) (.inl (by show _<=rb;omega)) (.int .i64 lx)).setCell (p:=⟨rb,1,none⟩) (.inl (by show _<=rb;omega)) (.int .i64 dx)).setCell (p:=⟨rb,2,none⟩) (.inl (by show _<=rb;omega)) (.slice A3 l6.length c3)).setCell (p:=⟨rb,3,none⟩) (.inl (by show _<=rb;omega)) (.slice A4 m6.length c4)
   exact((h2.setCell (p:=⟨rn,0,none⟩) (.inl (by show _<=rn;omega)) (.slice E0 M.ends.length e0)).setCell (p:=⟨rn,1,none⟩) (.inl (by show _<=rn;omega)) (.slice E1 M.ids.length e1)).setCell (p:=⟨rn,2,none⟩) (.inl (by show _<=rn;omega)) (.slice E2 M.agT.length e2)
  show YU cb w.heap.size A L c (P+600000000000000000) w _ (World.drew (agX (ag4 v_ rb (.int .i64 lx) (.int .i64 dx) (.slice A3 l6.length c3) (.slice A4 m6.length c4)) rn (.slice E0 M.ends.length e0) (.slice E1 M.ids.length e1) (.slice E2 M.agT.length e2)))
  rw[<- Wu];have Mg:ab wf wf.drew:=aj (aa _);have yh:fY wf B (.slice A3 l6.length c3) (.slice A4 m6.length c4) ⟨lx,dx,l6,m6⟩:=fY.agV (r8.own.own lx dx) fun j q1 _=>hst j zO zO
  refine⟨_,_,⟨lx,dx,l6,m6⟩,_,_,_,M,T,rfl,(yh.since Mg).mono zO,r8.out.any,((r8.out.net.own.agV fun j hj=>hst j (zX ((r8.out.net.own.range j hj).1)) (zX ((r8.out.net.own.range j hj).1))).agU Mg.below).mono zO,r8.out.bd,?_,jW.trans (CB.of (Mg.below.mono jW.size))⟩
  exact(((r8.net.cur.agU fun j hj=>hst j zO zO).since Mg).mono zO)
theorem wZ.sz {p:aq} (h:wZ p):wB p<=1048576:=by
 have hR:∀(l:List (List Int)),(∀y∈l,y.length<=5)->szR l<=5*l.length:=fun l=>by
  induction l with
  | nil=>intro _;simp[szR]
  | cons y l ih=>
   intro hy;have h1:=ih fun z hz=>hy z (Zbd _ hz)
   have h2:=hy y List.mem_cons_self;have h3:szR (y::l)=y.length+szR l:=by simp[szR]
   rw[h3,Zaz];omega
 have h1:=hR p.nodes fun y hy=>(h.nod.2 y hy).1
 have h2:=hR p.agW fun y hy=>(h.edg.2 y hy).1
 have:=h.nod.1
 have:=h.edg.1
 unfold wB CL
 omega
structure C3 (cb rb rn:Nat) (W W':World):Prop where
 os:W'.os=W.os
 tape:W'.tape=W.tape
 output:W'.output=W.output
 size:W.heap.size<=W'.heap.size
 block:∀k,k<W.heap.size->k≠cb->k≠rb->k≠rn->W'.heap[k]?=W.heap[k]?
section
variable {cb rb rn : Nat} {W W' qP : World}
theorem C3.refl (cb rb rn:Nat) (W:World):C3 cb rb rn W W:=⟨rfl,rfl,rfl,Zaj _,fun _ _ _ _ _=>rfl⟩
theorem C3.trans (h:C3 cb rb rn W W') (k:C3 cb rb rn W' qP):C3 cb rb rn W qP:=
 ⟨k.os.trans h.os,k.tape.trans h.tape,k.output.trans h.output,Zak h.size k.size,fun j h1 h2 h3 h4=>(k.block j (Zal h1 h.size) h2 h3 h4).trans (h.block j h1 h2 h3 h4)⟩
theorem C3.of (h:CB cb W.heap.size W W'):C3 cb rb rn W W':=⟨h.os,h.tape,h.output,h.size,fun j h1 h2 _ _=>h.block j h1 h2⟩
theorem C3.since (h:ab W W'):C3 cb rb rn W W':=.of (CB.of h.below)
theorem C3.ag4 (cb rb rn:Nat) (W:World) (x y z u:Value):C3 cb rb rn W (Go.Proofs.YtnioemnkfojmkaaGreat.ag4 W rb x y z u):=⟨rfl,rfl,rfl,by rw[O7];exact Zaj _,fun j _ _ h _=>By _ _ _ _ _ _ h⟩
theorem C3.agX (cb rb rn:Nat) (W:World) (x y z:Value):C3 cb rb rn W (Go.Proofs.YtnioemnkfojmkaaGreat.agX W rn x y z):=⟨rfl,rfl,rfl,by rw[ix];exact Zaj _,fun j _ _ _ h=>dC _ _ _ _ _ h⟩
theorem C3.ahz (h:C3 cb rb rn W W') {B:Nat} {a b:Value} {p:aq} (h1:cb<B) (h2:rb<B) (h3:rn<B) (ho:fY W B a b p):fY W' B a b p:=ho.agV fun j q1 q2=>h.block j q2 zO zO zO
theorem C3.net (h:C3 cb rb rn W W') {B:Nat} {ve vi vn:Value} {N:ao} {S:List Nat} (h1:cb<B) (h2:rb<B) (h3:rn<B) (ho:aw W B ve vi vn N S):aw W' B ve vi vn N S:=ho.agV fun j hj=>h.block j (ho.range j hj).2 (zX ((ho.range j hj).1)) (zX ((ho.range j hj).1)) (zX ((ho.range j hj).1))
theorem C3.below (h:C3 cb rb rn W W') {w:World} (hb:Below w.heap.size w W/\w.heap.size<=cb/\w.heap.size<=rb/\w.heap.size<=rn):Below w.heap.size w W':=
 ⟨h.os.trans hb.1.os,h.tape.trans hb.1.tape,h.output.trans hb.1.output,Zak hb.1.size h.size,fun j hj=>(h.block j (Zal hj hb.1.size) zO zO zO).trans (hb.1.block j hj)⟩
end
structure af7 (cb rb rn:Nat) (A:Option Addr) (L c P0 K nc:Nat) (wS:World) (lb dg:Int) (a b x y z:Value) (q:Nat) (W:World):Prop where
 cur:q<=nc->dj W cb A L c (P0+K*q)
 rel:C3 cb rb rn wS W
 p0:q<=nc->aT W rb 0 0 (.slice none 0 0) (.slice none 0 0)
 p1:nc<q->aT W rb lb dg a b
 n0:q<=nc+1->bD W rn (.slice none 0 0) (.slice none 0 0) (.slice none 0 0)
 n1:nc+1<q->bD W rn x y z
section
variable {cb rb rn : Nat} {A : Option Addr} {L c P0 K nc : Nat} {wS W W' : World} {lb dg : Int} {a b x y z : Value} {q : Nat}
end
end Go.Proofs.YtnioemnkfojmkaaGreat
