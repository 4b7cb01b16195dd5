/- Parts of the proof: walks of functions and plain laws. -/
import Derived.Test.YtnioemnkfojmkaaGreatP0
import Derived.Test.YtnioemnkfojmkaaGreatP9
import Derived.Test.YtnioemnkfojmkaaGreatP3
import Derived.Test.YtnioemnkfojmkaaGreatP10
import Derived.Test.YtnioemnkfojmkaaGreatP7
import Derived.Test.YtnioemnkfojmkaaGreatP1
import Derived.Test.YtnioemnkfojmkaaGreatP6
import Derived.Test.YtnioemnkfojmkaaGreatP2
set_option maxRecDepth 100000
set_option maxHeartbeats 16000000
namespace Go.Proofs.YtnioemnkfojmkaaGreat
open Go Go.RowKit
theorem Oz {σ:Type} (I:σ->Prop) (nx:σ->List (List Int)->Bool×σ) (J:σ->World->Prop) (nU:FuncId) (kL:Array Value) (p:az) (n:aw) (pa pb va vb vc ul uf:Value) (sb:Nat) (SL:List Nat) (B:Nat) (ah:List (Int×Int)) (most:Int) (s0:σ) (l0:List (List Int)) (w:World)
  (im:∀args w,(callFunc nU args).run Tryz.prog w=.ok (.enter nU args) w) (pS:B<=sb)
  (wu:∀X,Below B w X->di X pa pb p) (sY:∀X,Below B w X->aU X va vb vc n) (Ww:∀s W W',J s W->aR (sb::SL) W W'->J s W')
  (qs:∀s l st W,Below B w W->cj W sb (kw p pa pb va vb vc ul uf st) l ah ul uf SL B->J s W->I s->eC n.ends l->Calls Tryz.prog nU kL W fun e W'=>e=.returned (.bool (nx s l).1)/\J (nx s l).2 W'/\cj W' sb (kw p pa pb va vb vc ul uf st) l ah ul uf SL B/\Below B W W')
  (hS:cj w sb (kw p pa pb va vb vc ul uf 0) l0 ah ul uf SL B) (hJ:J s0 w) (hI0:I s0) (hIn:∀s l,I s->(nx s l).1=true->I (nx s l).2) (hn:aW n=true) (ct:dR p.ac3) (iI:p.ac3.length<=1048576) (fv:1<=p.labels/\p.labels<=8) (eJ:eC n.ends l0) (dH:rK (p.labels-1) l0) (nq:mX n.ends ah) (z8:ah.length<=1000) (pT:0<=most/\most<=200000)
  (mW:∀(v:Nat) (es:List (Int×Int)),n.ends[v]?=some es->es.length<=6):
  Calls Tryz.prog 36 #[.pointer (some ⟨sb,0,none⟩),.int .i64 most,.func (.func nU) #[] kL] w fun e w'=>
   e=.returned (.int .i64 (su nx p n.ends ah most s0 l0).2.1)/\cj w' sb (kw p pa pb va vb vc ul uf (su nx p n.ends ah most s0 l0).2.2.2.2) (su nx p n.ends ah most s0 l0).2.2.1 ah ul uf SL B/\J (su nx p n.ends ah most s0 l0).1 w'/\Below B w w':=by
 have zd:B<=w.heap.size:=Nat.le_trans pS (Nat.le_of_lt hS.1.lt);obtain⟨A5,c5,Bw,-⟩:=id hS.2.1.read;obtain⟨TE,Ko⟩:=hS.2.2.2;obtain⟨A6,c6,Om,-,-,-⟩:=ou Ko;obtain⟨A1,c1,Ni,-⟩:=id (wu w (Below.refl _ _)).1;obtain⟨A2,c2,da,-⟩:=id (wu w (Below.refl _ _)).2;obtain⟨A3,c3,RZ,-⟩:=id (sY w (Below.refl _ _)).1;obtain⟨A4,c4,R3,-⟩:=id (sY w (Below.refl _ _)).2.1;obtain⟨A7,c7,R4,-⟩:=id (sY w (Below.refl _ _)).2.2;subst Bw Om Ni da RZ R3 R4;have R5:IntKind.i64.wrap (p.labels-1)=p.labels-1:=aE _ (by omega) (by omega);have eg:=im;have f5:=zh wu;have iL:=zh sY;have Iy:=zh Ww;have Hcl:=zh qs;have HS:=zh hS;have HJ:=zh hJ;have HI0:=zh hI0;have HIn:=zh hIn;have jP:=zh ct;have fU:=zh eJ;have kp:=zh dH;have nr:=zh nq;have Bv:=zh mW
 have nD:Hid (∀(v:Nat) (row:List Int),l0[v]?=some row->row.length<=1000000):=fun v row hv=>by
  obtain⟨es,ca⟩:=ay n.ends v (by rw[<- eJ.1];exact al hv)
  have:=eJ.2 v es row ca hv
  have:=mW v es ca
  omega
 obtain⟨k0,k1,k2,k3,k4,k5,k6,k7,-,-⟩:=dk hS.1
 replace k0:=ab k0
 replace k1:=ab k1
 replace k2:=ab k2
 replace k3:=ab k3
 replace k4:=ab k4
 replace k5:=ab k5
 replace k6:=ab k6
 replace k7:=ab k7
 clear wu sY Ww qs hS hJ hI0 hIn ct eJ dH nq mW Ko im;obtain⟨gW,Wx⟩:∃b,dS p n.ends l0=b:=⟨_,rfl⟩
 have R6:=zh Wx;clear Wx;obtain⟨R,hR⟩:∃R,su nx p n.ends ah most s0 l0=R:=⟨_,rfl⟩
 have HR:=zh hR;rw[hR];clear hR
 go_enter Tryz.func36,Tryz.ntmps36
 go_upto_region 1 with(fail);refine am 14 (aa w) (by kernel_rfl) (by kernel_rfl) (by simp) (ag (ad _)) ?_;simp only[zT]
 iterate 12 (refine bF rfl ?_;simp only[zA])
 refine cH ?_ rfl ?_ ?_;rotate_left;(intro W hW;unfold ba;go_simp;(with_reducible refine(ze _ _ _ _ _ _ p n l0 W (f5.out W (hW.below.mono zd)) (iL.out W (hW.below.mono zd)) (HS.out.ac8 hW.below).rows hn fU.out jP.out iI nD.out).mono ?_);rintro e W' ⟨rfl,aG⟩;first | (refine⟨?_,aa.trans hW aG⟩;with_reducible rfl) | (subst aG;refine⟨?_,hW⟩;with_reducible rfl))
 simp only[zA]
 refine bF rfl ?_;simp only[zA]
 intro W hW;have HW:=zh hW;clear hW k0 k1 k2 k3 k4 k5 k6 k7;rw[R6.out];cases gW
 ·have z_:Hid (R=(s0,2,l0,0,0)):=by show _=_;rw[<- HR.out];unfold su;rw[if_neg (by rw[R6.out];simp)]
  go_wp2;go_ret;rw[z_.out];exact⟨rfl,HS.out.ac8 HW.out.below,Iy.out _ _ _ HJ.out (aR.ac7 HW.out.below),HW.out.below.mono zd⟩
 ·obtain⟨F,hF⟩:∃F,F=ap most 0 0:=⟨_,rfl⟩
  have z_:Hid (R=bW nx p n.ends ah most F s0 l0 0 0):=by show _=_;rw[<- HR.out,hF];unfold su;rw[if_pos R6.out]
  have hF0:Hid (ap most 0 0<=F):=by show _<=_;rw[hF];exact Nat.le_refl _
  clear hF;obtain⟨gU,Wy⟩:∃z,z=sb:=⟨_,rfl⟩
  have HgU:=zh Wy;clear Wy;go_wp2
  go_loopw [7] (fun a wr=>∃(s:σ) (l:List (List Int)) (aO st:Int),a=.int .i64 aO /\ -1<=aO/\aO<=ah.length/\0<=st/\st<=most/\(R=bW nx p n.ends ah most F s l aO st/\ap most aO st<=F)/\(cj wr sb (kw p (.slice A1 p.nodes.length c1) (.slice A2 p.ac3.length c2) (.slice A3 n.ends.length c3) (.slice A4 n.ids.length c4) (.slice A7 n.ac1.length c7) (.slice A5 l0.length c5) (.slice A6 ah.length c6) st) l ah (.slice A5 l0.length c5) (.slice A6 ah.length c6) SL B/\J s wr/\I s)/\(eC n.ends l/\rK (p.labels-1) l)/\Below B w wr) (fun a wr=>ap most (intOf a) (jS wr sb 9))
  case atStart=>exact⟨s0,l0,0,0,rfl,by omega,by omega,by omega,pT.1,⟨z_.out,hF0.out⟩,⟨HS.out.ac8 HW.out.below,Iy.out _ _ _ HJ.out (aR.ac7 HW.out.below),HI0.out⟩,⟨fU.out,kp.out⟩,HW.out.below.mono zd⟩
  case round=>
   obtain⟨s,l,aO,st,rfl,lC,sG,dw,dZ,it,fp,hinv,hb⟩:=hrel;have lk:=zh it;have Aa:=zh fp;have fZ:=zh hinv;have Hb:=zh hb;obtain⟨d0,d1,d2,d3,d4,d5,d6,d7,d8,d9⟩:=dk fp.1.1;have Wz:Hid (jS wr sb 9=st):=cx d9;have R7:Hid (st=jS wr sb 9):=Wz.out.symm
   have wv:Hid (l0.length=l.length):=by show _=_;have h1:=fp.1.rows;obtain⟨_,_,e,-⟩:=h1;simp only[Value.slice.injEq]at e;exact e.2.1
   clear it fp hinv hb d0 d1 d2 d3 d4 d5 d6 d7 d9;have WB:Hid (ap most aO st<=F):=lk.out.2;obtain⟨M0,ww⟩:∃z,ap most (intOf (Value.int .i64 aO)) (jS wr sb 9)=z:=⟨_,rfl⟩
   have yl:=zh ww
   have Ab:Hid (ap most aO st=M0):=by show _=_;rw[<- ww,Wz.out];rfl
   clear ww
   go_upto_if 30 with(fail)
   go_cut [7]from 24 to 121 (fun a wx=>∃(s1:σ) (fC:Int),a=.int .i64 fC /\ -1<=fC/\fC<ah.length/\ap most fC st<=M0/\R=bW nx p n.ends ah most F s1 l fC st/\(cj wx sb (kw p (.slice A1 p.nodes.length c1) (.slice A2 p.ac3.length c2) (.slice A3 n.ends.length c3) (.slice A4 n.ids.length c4) (.slice A7 n.ac1.length c7) (.slice A5 l0.length c5) (.slice A6 ah.length c6) st) l ah (.slice A5 l0.length c5) (.slice A6 ah.length c6) SL B/\J s1 wx/\I s1)/\Below B w wx)
   case first=>
    by_cases dQ:aO=ah.length
    ·have fH:(aO==(ah.length:Int))=true:=by simpa using dQ
     have gz:=zh (ir nx p n.ends ah most F s l aO st dZ lC lk.out.2);have kU:=zh (Hcl.out s l st wr Hb.out Aa.out.1 Aa.out.2.1 Aa.out.2.2 fZ.out.1);obtain⟨bo,jx⟩:∃b,(nx s l).1=b:=⟨_,rfl⟩
     have rL:=zh jx;obtain⟨s1,Kq⟩:∃x,(nx s l).2=x:=⟨_,rfl⟩
     have jH:=zh Kq
     have aaD:Hid ((nx s l).1=true->I s1):=fun h=>by rw[<- jH.out];exact HIn.out s l Aa.out.2.2 h
     have Kr:Hid (∀b,(nx s l).1=b->R=if b=true then bW nx p n.ends ah most F s1 l (aO-1) st else (s1,1,l,aO,st)):=by
      intro b hb;rw[lk.out.1,gz.out,if_neg (by omega),if_pos dQ,hb,jH.out]
     obtain⟨fC,wy⟩:∃z,aO-1=z:=⟨_,rfl⟩
     have wp1:IntKind.i64.wrap (aO-1)=fC:=by rw[aE _ (by omega) (by omega)];exact wy
     have iT : -1<=fC:=by omega
     have lX:fC<ah.length:=by omega
     have Ks:Hid (ap most fC st<=M0):=by show _<=_;rw[<- Ab.out];unfold ap;omega
     have wD:Hid (ap most fC st<=F):=by show _<=_;have:=Ks.out;rw[<- Ab.out]at this;exact Nat.le_trans this WB.out
     have Va:=zh wy;clear jx Kq dQ wy lC sG gz;go_wp2_with fail;refine kU.out.mono ?_;rw[rL.out,jH.out];rintro e w1 ⟨rfl,WC,kh,aX⟩;have h_:=zh (And.intro kh WC);have fE:=zh (Hb.out.trans aX);clear WC kh aX;cases bo
     ·have jy:Hid (R=(s1,1,l,aO,st)):=by show _=_;rw[Kr.out false rL.out,if_neg (by simp)]
      go_wp2;go_ret;rw[jy.out];exact⟨rfl,h_.out.1,h_.out.2,fE.out⟩
     have rM:Hid (R=bW nx p n.ends ah most F s1 l fC st):=by show _=_;rw[Kr.out true rL.out,if_pos rfl,Va.out]
     go_wp2;go_meet
     case rel=>exact⟨s1,fC,rfl,iT,lX,Ks.out,rM.out,⟨h_.out.1,h_.out.2,aaD.out rL.out⟩,fE.out⟩
    ·have fH:(aO==(ah.length:Int))=false:=by simpa using dQ
     have lX:aO<ah.length:=by omega
     clear dQ;go_wp2;go_meet
     case rel=>exact⟨s,aO,rfl,lC,lX,by rw[<- Ab.out];exact Nat.le_refl _,lk.out.1,Aa.out,Hb.out⟩
   case rest=>
    obtain⟨s1,fC,rfl,iT,lX,uG,x9,vN,aX⟩:=hcut;obtain⟨w1,kT⟩:∃z,z=wc:=⟨_,rfl⟩
    have Ks:Hid (ap most fC st<=M0):=uG
    have wD:Hid (ap most fC st<=F):=by show _<=_;rw[<- Ab.out]at uG;exact Nat.le_trans uG WB.out
    have rM:=zh x9;have h_:=zh vN;have fE:=zh aX;clear uG x9 vN aX kT w1 d8 lC sG
    by_cases lO:fC<0
    ·have jy:Hid (R=(s1,2,l,fC,st)):=by show _=_;rw[rM.out,ir nx p n.ends ah most F s1 l fC st dZ iT wD.out,if_pos lO]
     go_wp2;go_ret;rw[jy.out];exact⟨rfl,h_.out.1,h_.out.2.1,fE.out⟩
    ·obtain⟨q,rfl⟩:=Int.eq_ofNat_of_zero_le (show 0<=fC by omega)
     have zi:q<ah.length:=by omega
     obtain⟨e,he⟩:=ay ah q zi;obtain⟨v,i,es,rfl,ca,Od⟩:=nr.out q e he
     have lW:v<l.length:=by rw[fZ.out.1.1];exact al ca
     obtain⟨row,aD⟩:=ay l v lW;have xT:=fZ.out.1.2 v es row ca aD;have mW:=Bv.out v es ca;have sZ:i<row.length:=by omega
     have Cw:row.length<=6:=by omega
     obtain⟨x,hx⟩:=ay row i sZ;have uQ:=fZ.out.2 v row i x aD hx;have fD:=zh (Cy p n.ends ah most F nx s1 he aD hx dZ wD.out);obtain⟨gl,cl,gr,cr,e5,f1,f2,f3,f4,-⟩:=h_.out.1.label aD hx
     injection e5 with ea eb' ec
     subst ea ec;obtain⟨TE1,wE⟩:=h_.out.1.2.2.2;obtain⟨A6',Js,e6,-,-,Cz⟩:=ou wE;obtain⟨b6,o6,e7,t1,t2⟩:=Cz q _ he
     injection e6 with ea6 eb6 ec6
     subst ec6;rw[<- ea6]at e7;subst e7;obtain⟨d0,d1,d2,d3,d4,d5,d6,d7,d8,d9⟩:=dk h_.out.1.1
     have G_:v<l0.length:=by rw[wv.out];exact lW
     have uJ:sb<wc.heap.size:=h_.out.1.1.lt;have Vb:gr<sb:=h_.out.1.2.2.1 gr f4;have ch:=zh aD;have Hx:=zh hx;have nO:=zh ca;clear he ca Od aD hx xT ea6 eb6 eb' Cz wE f3 lW d1 d2 d3 d4 d5 d6 lO iT lX;go_upto_region 11 with(fail);obtain⟨eb,qC⟩:∃eb,eb=wc.heap.size:=⟨_,rfl⟩
     obtain⟨w2,eH⟩:∃w2,w2=wc.alloc (.cells #[.int .i64 v,.int .i64 i] 104):=⟨_,rfl⟩
     have nE:aa wc w2:=by rw[eH];exact ae _ (ad _)
     have HE:Hid (cC w2 eb #[.int .i64 v,.int .i64 i]):=by rw[qC,eH];exact cC.new _ _ _
     have aay:sb<eb:=by rw[qC];exact uJ
     rw[<- eH,<- qC];have g0:∀W,aa w2 W->W.cell? ⟨eb,0,none⟩=some (.int .i64 v):=ab (HE.out.cell 0 _ rfl).1;have g1:∀W,aa w2 W->W.cell? ⟨eb,1,none⟩=some (.int .i64 i):=ab (HE.out.cell 1 _ rfl).1;have l7:=aj (ab d7) nE;have l1:=aj (ab f1) nE;have l2:=aj (ab f2) nE;have WD:=aj (ab d0) nE;have l9:=aj (ab d9) nE;have qD:=zh nE;clear eH qC nE d0 d7 d8 d9 f1 f2 t1 t2 uJ;refine am 12 (aa w2) (by kernel_rfl) (by kernel_rfl) (by simp) (ag (ad _)) ?_;simp only[zT]
     iterate 12 (refine bF rfl ?_;simp only[zA])
     intro W3 ki;have m2:=aj l2 ki;have Nj:=aj WD ki;have On:=zh (aj l1 ki);have R8:=zh (aj l9 ki);have sV:=zh ki;have aaz:=zh Nj;clear g0 g1 l7 l1 l2 WD l9 ki;go_upto_region 12 with(fail)
     by_cases gb:x=p.labels-1
     ·have dj:(x==p.labels-1)=true:=by simpa using gb
      have lq:=zh gb;clear gb;refine am 10 (aa W3) (by kernel_rfl) (by kernel_rfl) (by simp) (ag (ad _)) ?_;simp only[zT]
      iterate 10 (refine bF rfl ?_;simp only[zA])
      intro W4 jT;have pU:=zh (qD.out.after (sV.out.after jT));obtain⟨y1,y2,y3,y4⟩:=(h_.out.1.ac8 pU.out.below).adh ch.out Hx.out (On.out W4 jT);obtain⟨n1,n2,n3⟩:=y4 (-1);have ym:=zh n1;have qE:=zh (fE.out.trans ((pU.out.below.mono (Nat.le_trans pS (Nat.le_of_lt h_.out.1.1.lt))).trans n2));have R9:=zh (Iy.out _ _ _ h_.out.2.1 ((aR.ac7 pU.out.below).trans n3));clear y4 n1 n2 n3 jT m2 Nj dj
      have rN:Hid (R=bW nx p n.ends ah most F s1 (dA l ((v:Int),(i:Int)) (-1)) ((q:Int)-1) st):=by show _=_;rw[rM.out,fD.out,if_pos lq.out]
      have wq:IntKind.i64.wrap ((q:Int)-1)=(q:Int)-1:=aE _ (by omega) (by omega)
      have pV:Hid (ap most ((q:Int)-1) st<M0/\ap most ((q:Int)-1) st<=F):=by have:=Ks.out;have:=wD.out;unfold ap at *;exact⟨by omega,by omega⟩
      by_cases kX:(q:Int)-1<0
      ·have jy:Hid (R=(s1,2,dA l ((v:Int),(i:Int)) (-1),(q:Int)-1,st)):=by show _=_;rw[rN.out,ir nx p n.ends ah most F s1 _ ((q:Int)-1) st dZ (by omega) pV.out.2,if_pos kX]
       go_wp2;go_ret;rw[jy.out];exact⟨rfl,ym.out,R9.out,qE.out⟩
      ·go_wp2;go_roundw
       case rel=>exact⟨s1,_,(q:Int)-1,st,by go_num,by omega,by omega,dw,dZ,⟨rN.out,pV.out.2⟩,⟨ym.out,R9.out,h_.out.2.2⟩,⟨gC fZ.out.1 ch.out sZ,jR fZ.out.2 ch.out sZ ⟨by omega,by omega⟩⟩,qE.out⟩
       case measure=>
        rw[yl.out,cx (dk ym.out.1).2.2.2.2.2.2.2.2.2];exact pV.out.1
     ·have dj:(x==p.labels-1)=false:=by simpa using gb
      have lq:=zh gb;clear gb;refine am 10 (aa W3) (by kernel_rfl) (by kernel_rfl) (by simp) (ag (ad _)) ?_;simp only[zT]
      iterate 10 (refine bF rfl ?_;simp only[zA])
      intro W4 jT;have pU:=zh (qD.out.after (sV.out.after jT));obtain⟨y1,y2,y3,y4⟩:=(h_.out.1.ac8 pU.out.below).adh ch.out Hx.out (On.out W4 jT);have y9:=R8.out W4 jT;have R_:=zh (h_.out.1.ac8 pU.out.below);have Bx:=zh (HE.out.below (sV.out.after jT).below HE.out.lt);clear jT m2 Nj dj
      by_cases s5:st=most
      ·have Es:(st==most)=true:=by simpa using s5
       have jy:Hid (R=(s1,3,l,(q:Int),st)):=by show _=_;rw[rM.out,fD.out,if_neg lq.out,if_pos s5]
       clear s5 y1 y2 y3 y4;go_wp2;go_ret;rw[jy.out];exact⟨rfl,R_.out,Iy.out _ _ _ h_.out.2.1 (aR.ac7 pU.out.below),fE.out.trans (pU.out.below.mono (Nat.le_trans pS (Nat.le_of_lt h_.out.1.1.lt)))⟩
      ·have Es:(st==most)=false:=by simpa using s5
       have Ad:=zh s5;obtain⟨n1,n2,n3⟩:=y4 (x+1);obtain⟨m1,m2,m3⟩:=n1.field pS 9 (.int .i64 (st+1));have wx:IntKind.i64.wrap (x+1)=x+1:=aE _ (by omega) (by omega);have ws:IntKind.i64.wrap (st+1)=st+1:=aE _ (by omega) (by omega);obtain⟨W5,ke⟩:∃W5,W5=W4.setCell ⟨gr,i,none⟩ (.int .i64 (x+1)):=⟨_,rfl⟩
       rw[<- ke]at n1 n2 n3 m1 m2 m3;obtain⟨W6,Ae⟩:∃W6,W6=W5.setCell ⟨sb,9,none⟩ (.int .i64 (st+1)):=⟨_,rfl⟩
       rw[<- Ae]at m1 m2 m3
       have WE:Hid (cC W6 eb #[.int .i64 v,.int .i64 i]):=by
        rw[Ae,ke];exact(Bx.out.set (p:=⟨gr,i,none⟩) (show gr≠eb by omega)).set (p:=⟨sb,9,none⟩) (show sb≠eb by omega)
       have z9:=(n1.1.cell 9 (.int .i64 st) rfl).1;have zf:=(n1.1.cell 9 (.int .i64 st) rfl).2;have Nk:W4.cell? ⟨sb,9,none⟩=some (.int .i64 st):=y9;obtain⟨lp,wF⟩:∃lp,lp=dA l ((v:Int),(i:Int)) (x+1):=⟨_,rfl⟩
       rw[<- wF]at m1 n1;have Hlp:=zh wF;have nG:Hid (cj W6 sb (kw p (.slice A1 p.nodes.length c1) (.slice A2 p.ac3.length c2) (.slice A3 n.ends.length c3) (.slice A4 n.ids.length c4) (.slice A7 n.ac1.length c7) (.slice (some ⟨gl,0,none⟩) l0.length c5) (.slice (some ⟨b6,o6,none⟩) ah.length c6) (st+1)) lp ah (.slice (some ⟨gl,0,none⟩) l0.length c5) (.slice (some ⟨b6,o6,none⟩) ah.length c6) SL B):=m1;have Kt:=zh (fE.out.trans ((pU.out.below.mono (Nat.le_trans pS (Nat.le_of_lt h_.out.1.1.lt))).trans (n2.trans m2)));have HJ6:=zh (Iy.out _ _ _ h_.out.2.1 ((aR.ac7 pU.out.below).trans (n3.trans m3)))
       have Et:Hid (lp[v]?=some (row.set i (x+1))):=by show _=_;rw[wF];exact(jQ ch.out sZ).1
       have Eu:Hid (eC n.ends lp/\rK (p.labels-1) lp):=by rw[wF];exact⟨gC fZ.out.1 ch.out sZ,jR fZ.out.2 ch.out sZ ⟨by omega,by have:=lq.out;omega⟩⟩
       obtain⟨rp,Ev⟩:∃rp,rp=row.set i (x+1):=⟨_,rfl⟩
       have Ku:rp.length=row.length:=by rw[Ev,List.length_set]
       rw[<- Ev]at Et fD;rw[<- wF]at fD;have qw:=zh ke;have Sa:=zh Ae;clear wF Ev n1 n2 n3 m1 m2 m3 y3 y4 s5 ke Ae;go_upto_region 20 with(fail);rw[<- qw.out];clear y1 y2 y9 Nk;go_upto_region 21 with(fail);rw[<- Sa.out];clear z9 zf;obtain⟨d0,d1,d2,d3,d4,d5,d6,d7,d8,d9⟩:=dk nG.out.1;have a0:=ab d0;have a1:=ab d1;have a2:=ab d2;have a3:=ab d3;have a4:=ab d4;have a5:=ab d5;have a6:=ab d6;have a7:=ab d7;have g0:∀W,aa W6 W->W.cell? ⟨eb,0,none⟩=some (.int .i64 v):=ab (WE.out.cell 0 _ rfl).1;have g1:∀W,aa W6 W->W.cell? ⟨eb,1,none⟩=some (.int .i64 i):=ab (WE.out.cell 1 _ rfl).1;have xX:B<=W6.heap.size:=Nat.le_trans pS (Nat.le_of_lt nG.out.1.lt);have Ew:i<rp.length:=by omega
       clear d0 d1 d2 d3 d4 d5 d6 d7 d8 d9;refine am 30 (aa W6) (by kernel_rfl) (by kernel_rfl) (by simp) (ag (ad _)) ?_;simp only[zT]
       iterate 16 (refine bF rfl ?_;simp only[zA])
       refine cH ?_ rfl ?_ ?_;rotate_left;(intro W hW;unfold ba;go_simp;(with_reducible refine(jJ _ _ _ _ _ _ p n lp v i rp W (f5.out W (Kt.out.trans (hW.below.mono xX))) (iL.out W (Kt.out.trans (hW.below.mono xX))) (nG.out.ac8 hW.below).rows hn Eu.out.1 jP.out iI Et.out Ew).mono ?_);rintro e W' ⟨rfl,aG⟩;first | (refine⟨?_,aa.trans hW aG⟩;with_reducible rfl) | (subst aG;refine⟨?_,hW⟩;with_reducible rfl))
       simp only[zA]
       refine bF rfl ?_;simp only[zA]
       iterate 10 (refine gT rfl rfl ?_;simp only[zA])
       refine bv (v:=?_) rfl rfl ?_ ?_;rotate_left;(intro hb;intro W hW;unfold ba;go_simp;(with_reducible refine(jI _ _ _ p lp v rp W (f5.out W (Kt.out.trans (hW.below.mono xX))) (nG.out.ac8 hW.below).rows Et.out (by omega)).mono ?_);rintro e W' ⟨rfl,aG⟩;first | (refine⟨?_,aa.trans hW aG⟩;with_reducible rfl) | (subst aG;refine⟨?_,hW⟩;with_reducible rfl))
       simp only[zA]
       (first | refine eF rfl rfl ?_ | (refine bF rfl ?_));simp only[zA]
       intro W7 CA;have Oo:=zh (nG.out.ac8 CA.below);have By:=zh (Kt.out.trans (CA.below.mono xX));have WF:=zh (Iy.out _ _ _ HJ6.out (aR.ac7 CA.below));clear a0 a1 a2 a3 a4 a5 a6 a7 g0 g1 CA
       have pV:Hid ((ap most (q:Int) (st+1)<M0/\ap most (q:Int) (st+1)<=F)/\(ap most ((q:Int)+1) (st+1)<M0/\ap most ((q:Int)+1) (st+1)<=F)):=by have:=Ks.out;have:=wD.out;unfold ap at *;exact⟨⟨by omega,by omega⟩,⟨by omega,by omega⟩⟩
       have wq:IntKind.i64.wrap ((q:Int)+1)=(q:Int)+1:=aE _ (by omega) (by omega);cases hg:(fc p n.ends lp ((v:Int),(i:Int))&&dL p rp)
       ·have rN:Hid (R=bW nx p n.ends ah most F s1 lp q (st+1)):=by show _=_;rw[rM.out,fD.out,if_neg lq.out,if_neg Ad.out,if_neg (by rw[Bool.and_comm,hg];simp)]
        go_wp2;go_roundw
        case rel=>exact⟨s1,lp,q,st+1,rfl,by omega,by omega,by omega,by have:=Ad.out;omega,⟨rN.out,pV.out.1.2⟩,⟨Oo.out,WF.out,h_.out.2.2⟩,Eu.out,By.out⟩
        case measure=>
         rw[yl.out,cx (dk Oo.out.1).2.2.2.2.2.2.2.2.2];exact pV.out.1.1
       ·have rN:Hid (R=bW nx p n.ends ah most F s1 lp ((q:Int)+1) (st+1)):=by show _=_;rw[rM.out,fD.out,if_neg lq.out,if_neg Ad.out,if_pos (by rw[Bool.and_comm,hg])]
        go_wp2;go_roundw
        case rel=>exact⟨s1,lp,(q:Int)+1,st+1,by go_num,by omega,by omega,by omega,by have:=Ad.out;omega,⟨rN.out,pV.out.2.2⟩,⟨Oo.out,WF.out,h_.out.2.2⟩,Eu.out,By.out⟩
        case measure=>
         rw[yl.out,cx (dk Oo.out.1).2.2.2.2.2.2.2.2.2];exact pV.out.2.1
def s6 (w:World) (v:Value) (sK:List (List (List Int))):Prop:=
 ∃(A:Option Addr) (c:Nat),v=.slice A sK.length c/\sK.length<=c/\c<=maxLen /\
  (∀k xs,sK[k]?=some xs->∃b off u,A=some ⟨b,off,none⟩/\w.cell? ⟨b,off+k,none⟩=some u/\a_ w u xs)
theorem s6.ac2 {w w':World} {v:Value} {xs:List (List (List Int))} (h:s6 w v xs) (hb:Below w.heap.size w w'):s6 w' v xs:=by
 obtain⟨A,c,hv,hc,hm,hA⟩:=h;refine⟨A,c,hv,hc,hm,fun k x hk=>?_⟩
 obtain⟨b,off,u,vv,h1,h2⟩:=hA k x hk;exact⟨b,off,u,vv,bc hb h1,h2.ac2 hb⟩
def iv:World->Nat->Value->List (List (List Int))->List Nat->Prop:=bg 24 bz
theorem ge:ej iv:=ep _ aI
theorem iv.read {w:World} {base:Nat} {v:Value} {dl:List (List (List Int))} {S:List Nat} (h:iv w base v dl S):s6 w v dl:=by
 obtain⟨vs,Ss,h1,h2,h3,h4,h5⟩:=h;rcases dh h1 with⟨rfl,h0⟩ | ⟨g,c,rfl,hb,hg,hc,hm⟩
 ·obtain rfl:dl=[]:=List.eq_nil_of_length_eq_zero h0
  exact⟨none,0,rfl,Nat.le_refl _,Nat.zero_le _,fun k x hk=>by simp at hk⟩
 ·have lW:vs.length=dl.length:=by simpa using h1.1
  refine⟨_,c,rfl,hc,hm,fun k x hk=>?_⟩
  have aH:=al hk;obtain⟨u,hu⟩:=ay vs k (by omega);obtain⟨T,hT⟩:=ay Ss k (by omega)
  exact⟨g,0,u,rfl,by rw[Nat.zero_add,h1.cellAt (cap:=c) _ (by omega)];exact hu,bz.read (h3 k u x T hu hk hT)⟩
def Nr (dl:List (List (List Int))):Nat:=(dl.map ya).sum
theorem KJ:(Tryz.prog.info? 24).map (fun i=>(i.zero,i.size,i.bytes))=some (some (.slice none 0 0),1,24):=by kernel_rfl
theorem jA (w:World) (base:Nat):iv w base (.slice none 0 0) [] []:=⟨[],[],World.ownsRow_nil w base _ _,rfl,fun k u x T h=>by simp at h,by simp[Value.ownBlock],by simp⟩
theorem wN {w:World} {ops:Array Oper} {rest:List Oper} {o:Oper} {a:Act} {Q:Exit->Act->World->Prop} (iz:o.guard=none) (s x:Operand)
  (ho:o.op=.call { callee:=.builtin .append,args:=#[s,x],argTypes:=#[44,44] }) {base:Nat} {v u:Value} {sK:List (List (List Int))} {S T:List Nat} {xs:List (List Int)} (hs:a.eval s=v) (h:iv w base v sK S)
  (b:Nat) (hx:a.eval x=.slice (some ⟨b,0,none⟩) 1 1) (hc:w.cell? ⟨b,0,none⟩=some u) (hu:bz w base u xs T) (hd:∀j∈T,j∉S) (hl:sK.length+1<=4000000) (uN:base<=w.heap.size)
  (k:∀g cap w' S',iv w' base (.slice (some ⟨g,0,none⟩) (sK.length+1) cap) (sK++[xs]) S'->w.grownBy w' v.ownBlock->Below base w w'->wpList Tryz.prog ops Q rest (a.put o.dst (.slice (some ⟨g,0,none⟩) (sK.length+1) cap)) w'):wpList Tryz.prog ops Q (o::rest) a w:=by
 obtain⟨i0,hi,eu,dP,eO⟩:=info_parts KJ;have hvr:=ge.range h;have Kb:=h;obtain⟨vs,Ss,r1,r2,r3,r4,r5⟩:=h;obtain⟨A,m,c,rfl⟩:=aI.one hu
 refine wpList_append_lies w iz s x 44 ho base 24 i0 _ 1 24 Tryz.underlying44 hi eu dP eO rfl (by decide) v sK.length vs hs r1 ⟨b,0,none⟩ 1 1 [.slice A m c] hx rfl
  (by intro j u hj;match j,hj with | 0,hj=>(simp at hj;subst hj;simpa[Addr.add]using hc) | j+1,hj=>simp at hj) (by simp[Value.oneCell']) (by omega) (by unfold maxLen;omega) (by omega) uN w.heap.size rfl ?_
 intro g cap w' q1 q2 q3 q4;obtain⟨S',o1,-⟩:=bg.snoc aI Kb hu hd vs Ss r1 r2 r3 r4 r5 q1 q2 q3
 exact k g cap w' S' o1 q2 (Below.grown (Below.refl base w |>.mono (Nat.le_refl _)) q2 uN (fun q hq=>(hvr q (by rw[r4,hq];simp)).1))
theorem cC.only {w w':World} {b:Nat} {vs:Array Value} {S:List Nat} (h:cC w b vs) (ho:aR S w w') (hb:b∉S):cC w' b vs:=by
 obtain⟨r,hr⟩:=h;exact⟨r,(ho.block b (Array.getElem?_eq_some_iff.1 hr).1 hb).trans hr⟩
theorem cC.eqv {w w':World} {b:Nat} {vs:Array Value} (h:cC w b vs) (ho:w'.heap[b]?=w.heap[b]?):cC w' b vs:=by
 obtain⟨r,hr⟩:=h;exact⟨r,ho.trans hr⟩
theorem cj.ac4 {w w':World} {sb:Nat} {vs:Array Value} {l:List (List Int)} {ah:List (Int×Int)} {ul uf:Value} {SL:List Nat} {B:Nat} (h:cj w sb vs l ah ul uf SL B)
  (hs:∀k,(k=sb\/k∈SL\/uf.ownBlock=some k)->w'.heap[k]?=w.heap[k]?):cj w' sb vs l ah ul uf SL B:=by
 obtain⟨h1,h2,h3,T,h4⟩:=h;refine⟨h1.eqv (hs sb (.inl rfl)),aI.ac4 h2 fun k hk=>hs k (.inr (.inl hk)),h3,T,fY.ac4 h4 fun k hk=>hs k (.inr (.inr ?_))⟩
 have h5:=h4.2;rw[h5]at hk;simpa using hk
theorem cj.uf {w:World} {sb:Nat} {vs:Array Value} {l:List (List Int)} {ah:List (Int×Int)} {ul uf:Value} {SL:List Nat} {B:Nat} (h:cj w sb vs l ah ul uf SL B):∀j,uf.ownBlock=some j->sb+1<=j/\j<w.heap.size:=by
 obtain⟨h1,h2,h3,T,h4⟩:=h;intro j hj
 exact fY.range h4 j (by rw[h4.2,hj];simp)
def k9 (k:Int) (s:List (List (List Int))) (l:List (List Int)):Bool×List (List (List Int)):=(decide (((s.length+1:Nat):Int)<k),s++[l])
theorem EE:∀args w,(callFunc 48 args).run Tryz.prog w=.ok (.enter 48 args) w:=enters_of Tryz.func48 (by kernel_rfl) rfl
theorem OA (bo bs bk sb B1:Nat) (k:Int) (u ul:Value) (s:List (List (List Int))) (S:List Nat) (l:List (List Int)) (w:World)
  (h1:cC w bo #[u]) (h2:iv w B1 u s S) (h3:cC w bs #[.pointer (some ⟨sb,0,none⟩)]) (h4:cC w bk #[.int .i64 k]) (hl:a_ w ul l) (hc:w.cell? ⟨sb,7,none⟩=some ul)
  (jx:bo<B1) (n1:bo≠bs) (n2:bo≠bk) (uN:bs<B1) (RP:bk<B1) (eR:s.length+1<=4000000) (xW:l.length<=1048576) (hr:∀(v:Nat) (row:List Int),l[v]?=some row->row.length<=17592186044416) (eA:B1<=w.heap.size):
  Calls Tryz.prog 48 #[.pointer (some ⟨bo,0,none⟩),.pointer (some ⟨bs,0,none⟩),.pointer (some ⟨bk,0,none⟩)] w fun e w'=>
   e=.returned (.bool (k9 k s l).1)/\(∃u' S',cC w' bo #[u']/\iv w' B1 u' (s++[l]) S')/\(∀j,j<B1->j≠bo->w'.heap[j]?=w.heap[j]?)/\Below bo w w':=by
 have me:∀j,u.ownBlock=some j->B1<=j:=fun j hj=>by
  obtain⟨vs,Ss,r1,r2,r3,r4,r5⟩:=id h2
  exact(ge.range h2 j (by rw[r4,hj];simp)).1
 obtain⟨AO,mO,cO,rfl⟩:=ge.one h2;obtain⟨vs0,Ss0,e0,-⟩:=id h2
 have hmO:mO=s.length:=by
  rcases e0.2 with⟨hv,hz⟩ | ⟨g,cap,cur,hv,-⟩
  ·simp only[Value.slice.injEq]at hv;omega
  ·simp only[Value.slice.injEq]at hv;omega
 subst hmO;have HL:=zh (show ∀X,aa w X->a_ X ul l from fun X hX=>hl.ac2 hX.below)
 obtain⟨AL,cL,rfl,f_,hmc,-⟩:=hl;unfold maxLen at hmc;have q1:=ab (h1.cell 0 _ rfl).1;have q3:=ab (h3.cell 0 _ rfl).1;have q7:=ab hc;have H1:=zh h1;have H2:=zh h2;have H3:=zh h3;have H4:=zh h4;have Hr:=zh hr;have zN:=zh me;clear h1 h2 h3 h4 hr me hc e0 vs0 Ss0
 go_enter Tryz.func48,Tryz.ntmps48
 go_upto_region 1 with(fail);refine fh (w0:=w) 7 [false,false,false,false,false,true,true] (by kernel_rfl) (by kernel_rfl) (ad _) ?_;simp only[ek,dD,zT]
 iterate 5 (apply ei rfl;(intro W hW;go_simp;with_reducible rfl);simp only[zA])
 intro W hW;refine Or.inl ⟨rfl,?_⟩
 go_simp
 (with_reducible refine(kW _ l W w.heap.size hW.below.size (HL.out _ hW) xW Hr.out).mono ?_)
 rintro e W' ⟨u2,T2,rfl,dW,bJ⟩;refine⟨_,rfl,hW.trans bJ,?_⟩
 replace hW:=hW.trans bJ
 obtain⟨A2,m2,c2,rfl⟩:=aI.one dW;have nW:=zh dW;clear dW bJ
 (try simp only[zA])
 refine iF (v:=?_) (ob:=?_) rfl ?_ hW ?_;rotate_left 2
 (go_simp;first | with_reducible rfl | (refine⟨?_,?_⟩ <;> with_reducible rfl))
 intro WA Aj WQ
 replace hW:=WQ
 clear WQ;skip
 (try simp only[zA])
 simp only[bj];clear q1 q3 q7;have ik:aa w WA:=hW;have OB:=zh ik;have HoO:=zh (ge.ac2 H2.out ik.below)
 have Kh:Hid (bz WA B1 (.slice A2 m2 c2) l T2):=by rw[Aj];exact aI.mono (aI.ac2 nW.out (ao _ _)) eA
 have HD:=zh (show ∀j∈T2,j∉S from fun j hj hS=>by have h1:=(aI.range nW.out j hj).1;have:=(ge.range H2.out j hS).2;omega)
 have Qt:WA.cell? ⟨W'.heap.size,0,none⟩=some (.slice A2 m2 c2):=by rw[Aj];simp
 have KK:=zh Qt;have Vd:Hid (B1<=WA.heap.size):=Nat.le_trans eA ik.below.size;have NF:=zh (show cC WA bo _ from H1.out.below ik H1.out.lt);have HA4:=zh (show cC WA bk _ from H4.out.below ik H4.out.lt);have n3:bk≠bo:=fun e=>n2 e.symm
 clear hW ik Aj Qt
 go_wp2_with (at_builtin;refine wN rfl _ _ rfl rfl HoO.out W'.heap.size rfl KK.out Kh.out HD.out eR Vd.out ?_;intro g cc w3 S3 iH nB aG;have Ve:=zh nB;have pP:=zh aG;have wO:=zh iH;have xV:=zh (NF.out.grown nB (fun e=>by have:=zN.out bo e.symm;omega));have z1:=(xV.out.cell 0 _ rfl).1;have z2:=(xV.out.cell 0 _ rfl).2;have z4:=((HA4.out.grown nB (fun e=>by have:=zN.out bk e.symm;omega)).cell 0 _ rfl).1;clear iH nB aG)
 go_ret;refine⟨?_,⟨_,S3,xV.out.put 0 _,?_⟩,?_,?_⟩
 ·unfold k9
  first | rfl | (refine ce ?_;simp)
 ·exact ej.put ge wO.out (by show bo<B1;exact jx) _
 ·intro j hj yJ;rw[Below.heap_setCell _ _ _ j (by exact yJ)]
  have h5:j<WA.heap.size:=by have:=Vd.out;omega
  rw[Ve.out.block j h5 (fun e=>by have:=zN.out j e.symm;omega)]
  exact OB.out.below.block j (by omega)
 ·refine Below.setCell (Below.trans (OB.out.below.mono (by omega)) (pP.out.mono (by omega))) (Nat.le_refl bo) _
theorem aaE (w:World) (x y:Obj) (vs:Array Value) (t:TypeId):cC (((w.alloc x).alloc y).alloc (.cells vs t)) (w.heap.size+1+1) vs:=by
 have h:=cC.new ((w.alloc x).alloc y) vs t;rw[show((w.alloc x).alloc y).heap.size=w.heap.size+1+1 by simp]at h
 exact h
theorem qJ {w:World} {base:Nat} {e:TypeId} {size:Nat} {v:Value} {n:Nat} {xs:List Value} (h:w.ownsRow base e size v n xs) {j:Nat} (hj:v.ownBlock=some j):∃cur,w.heap[j]?=some (.cells cur e (0,0)):=by
 rcases h.2 with⟨rfl,-⟩ | ⟨g,cap,cur,rfl,-,hg,-⟩
 ·simp[Value.ownBlock]at hj
 ·have:g=j:=by simpa[Value.ownBlock]using hj
  subst this;exact⟨_,hg⟩
theorem KL {w:World} {base:Nat} {v:Value} {l:List (List Int)} {S:List Nat} (h:bz w base v l S) {j:Nat} (hj:j∈S):∃cur e,(e=28\/e=3)/\w.heap[j]?=some (.cells cur e (0,0)):=by
 obtain⟨vs,Ss,r1,r2,r3,r4,r5⟩:=h;rw[r4,List.mem_append]at hj;rcases hj with hj | hj
 ·obtain⟨cur,hc⟩:=qJ r1 (j:=j) (by simpa using hj);exact⟨cur,_,.inl rfl,hc⟩
 ·obtain⟨T,hT,UZ⟩:=List.mem_flatten.1 hj;obtain⟨k,hk⟩:=List.mem_iff_getElem?.1 hT;have ss:=al hk;have lW:vs.length=l.length:=by simpa using r1.1
  obtain⟨u,hu⟩:=ay vs k (by omega);obtain⟨x,hx⟩:=ay l k (by omega);obtain⟨hO,hS⟩:=r3 k u x T hu hx hk;rw[hS]at UZ;obtain⟨cur,hc⟩:=qJ hO (j:=j) (by simpa using UZ);exact⟨cur,_,.inr rfl,hc⟩
theorem cj.adR {w:World} {sb:Nat} {vs:Array Value} {l:List (List Int)} {ah:List (Int×Int)} {ul uf:Value} {SL:List Nat} {B:Nat} (h:cj w sb vs l ah ul uf SL B) {j:Nat} (hj:uf.ownBlock=some j):∃cur,w.heap[j]?=some (.cells cur 104 (0,0)):=by
 obtain⟨h1,h2,h3,T,h4⟩:=h;exact qJ h4.1 hj
def Ak (w0 W:World) (u:Value):Prop:=∃b,u=.pointer (some ⟨b,0,none⟩)/\W.heap[b]?=some (.cells #[.pointer none] 72 (0,0))/\w0.heap.size<=b
theorem Ak.ac2 {w0 W W':World} {u:Value} (h:Ak w0 W u) (hs:aa W W'):Ak w0 W' u:=by
 obtain⟨b,rfl,h1,h2⟩:=h
 exact⟨b,rfl,by rw[hs.below.block b (Array.getElem?_eq_some_iff.1 h1).1];exact h1,h2⟩
theorem Ak.new {w0 W:World} (h:w0.heap.size<=W.heap.size):Ak w0 (W.alloc (.cells #[.pointer none] 72)) (.pointer (some ⟨W.heap.size,0,none⟩)):=⟨_,rfl,heap_alloc_new W _,h⟩
theorem IC (p:az) (n:aw) (F:List (List Int)) (PT:List (Int×Int)) (k:Int) (sb:Nat) (pa pb va vb vc ul uf:Value) (SL:List Nat) (bo bs bk B0:Nat) (w0 W:World) (R:List (List (List Int))×FX) (h0:aa w0 W)
  (wu:∀X,aa w0 X->di X pa pb p) (sY:∀X,aa w0 X->aU X va vb vc n) (hS:cj W sb (kw p pa pb va vb vc ul uf 0) F PT ul uf SL B0) (bG:bk<w0.heap.size) (aX:w0.heap.size<=bo) (bJ:bo<B0) (aG:B0<=sb)
  (uN:bs∉sb::SL) (Vf:bs≠bo) (hbu:∀j,uf.ownBlock=some j->j≠bo) (hO:cC W bo #[.slice none 0 0]) (hP:cC W bs #[.pointer (some ⟨sb,0,none⟩)]) (hK:cC W bk #[.int .i64 k]) (hk:1<=k/\k<=50)
  (hn:aW n=true) (ct:dR p.ac3) (iI:p.ac3.length<=1048576) (fv:1<=p.labels/\p.labels<=8) (eJ:eC n.ends F) (dH:rK (p.labels-1) F) (nq:mX n.ends PT) (z8:PT.length<=1000)
  (mW:∀(v:Nat) (es:List (Int×Int)),n.ends[v]?=some es->es.length<=6) (hR:su (k9 k) p n.ends PT 200000 [] F=R):
  Calls Tryz.prog 36 #[.pointer (some ⟨sb,0,none⟩),.int .i64 200000,.func (.func 48) #[] #[.pointer (some ⟨bo,0,none⟩),.pointer (some ⟨bs,0,none⟩),.pointer (some ⟨bk,0,none⟩)]] W fun e w'=>
   e=.returned (.int .i64 R.2.1)/\(∃u S,cC w' bo #[u]/\iv w' W.heap.size u R.1 S)/\Below w0.heap.size W w':=by
 have jx:bo<W.heap.size:=hO.lt;have OC:bs<W.heap.size:=hP.lt;have aaF:sb<W.heap.size:=hS.1.lt;have hSr:=fun j hj=>(aI.range hS.2.1 j hj).1
 have hSL:=hS.2.2.1;have Om:=hS.uf;have WR:bk<W.heap.size:=hK.lt
 have ts:=Oz (fun s=>(s.length:Int)<k) (k9 k) (fun s X=>W.heap.size<=X.heap.size/\∃u S,cC X bo #[u]/\iv X W.heap.size u s S/\cC X bs #[.pointer (some ⟨sb,0,none⟩)]/\cC X bk #[.int .i64 k]) 48 #[.pointer (some ⟨bo,0,none⟩),.pointer (some ⟨bs,0,none⟩),.pointer (some ⟨bk,0,none⟩)] p n pa pb va vb vc ul uf sb SL w0.heap.size PT 200000 [] F W EE (by omega)
  (fun X hX=>wu X (Below.trans h0 hX)) (fun X hX=>sY X (Below.trans h0 hX))
  (fun s W1 W2 hJ ho=>by
   obtain⟨hz,u,S,j1,j2,j3,j4⟩:=hJ
   have me:∀b,(b=bo\/b=bs\/b=bk)->b∉sb::SL:=fun b hb hm=>by
    rcases List.mem_cons.1 hm with h | h
    ·rcases hb with rfl | rfl | rfl
     ·omega
     ·exact uN (by rw[h];exact List.mem_cons_self)
     ·omega
    ·have h6:=hSr b h;have h7:=hSL b h;rcases hb with rfl | rfl | rfl
     ·omega
     ·exact uN (List.mem_cons_of_mem _ h)
     ·omega
   refine⟨Nat.le_trans hz ho.size,u,S,j1.only ho (me bo (.inl rfl)),ge.only j2 ho (fun j hj hm=>?_),j3.only ho (me bs (.inr (.inl rfl))),j4.only ho (me bk (.inr (.inr rfl)))⟩
   have h8:=(ge.range j2 j hj).1;rcases List.mem_cons.1 hm with h | h
   ·omega
   ·have:=hSL j h;omega)
  (fun s l st W1 hb kh hJ hI aaG=>by
   obtain⟨hz,u,S,j1,j2,j3,j4⟩:=hJ;obtain⟨Ki,DE⟩:=mr hn aaG;have dQ:(s.length:Int)<k:=hI;refine(OA bo bs bk sb W.heap.size k u ul s S l W1 j1 j2 j3 j4 kh.rows (dk kh.1).2.2.2.2.2.2.2.1 jx (by omega) (by omega) OC WR (by omega) (by omega) (fun v row hv=>Nat.le_trans (DE v row hv) (by omega)) hz).mono ?_
   rintro e W2 ⟨he,⟨u',S',k1,k2⟩,k3,k4⟩;refine⟨he,⟨Nat.le_trans hz k4.size,u',S',k1,k2,j3.eqv (k3 bs OC (by omega)),j4.eqv (k3 bk WR (by omega))⟩,kh.ac4 (fun j hj=>?_),k4.mono aX⟩
   rcases hj with rfl | hj | hj
   ·exact k3 _ aaF (by omega)
   ·have h6:=hSr j hj;have h7:=hSL j hj;exact k3 j (by omega) (by omega)
   ·exact k3 j (Om j hj).2 (hbu j hj))
  (hS.mono (by omega)) ⟨Nat.le_refl _,_,_,hO,jA W W.heap.size,hP,hK⟩ (by show((0:Nat):Int)<k;omega) (fun s l _ h=>by
   have h9:decide (((s.length+1:Nat):Int)<k)=true:=h;show(((s++[l]).length:Nat):Int)<k
   rw[List.length_append]
   exact of_decide_eq_true h9) hn ct iI fv eJ dH nq z8 ⟨by omega,by omega⟩ mW
 rw[hR]at ts;exact ts.mono fun e W2 ⟨h1,_,⟨_,u,S,h3,h4,_,_⟩,h5⟩=>⟨h1,⟨u,S,h3,h4⟩,h5⟩
def rR (p:az) (n:aw) (k:Int):Bool:=dF p&&aW n&&fT 1 50 k
def OD (p:az) (n:aw) (k:Int):List (List (List Int))×FX:=su (k9 k) p n.ends (fB (ef n)) 200000 [] (ef n)
def aF (p:az) (n:aw) (k:Int):List (List (List Int)):=if rR p n k=true then (if (OD p n k).2.1=3 then [] else (OD p n k).1) else []
def bt (p:az) (n:aw) (k:Int):Bool:=rR p n k && !decide ((OD p n k).2.1=3)
theorem KM {p:az} {n:aw} {k:Int} {R:List (List (List Int))×FX} (dJ:rR p n k=true) (hR:OD p n k=R):aF p n k=(if R.2.1=3 then [] else R.1)/\bt p n k = !decide (R.2.1=3):=by
 unfold aF bt
 rw[hR];simp[dJ]
theorem Qu {p:az} {n:aw} {k:Int} (dJ:rR p n k=false):aF p n k=[]/\bt p n k=false:=by
 unfold aF bt
 simp[dJ]
theorem k_ (pa pb ve vi vn:Value) (p:az) (n:aw) (k:Int) (w:World) (hp:di w pa pb p) (h:aU w ve vi vn n) (_ : -9223372036854775808<=k/\k<=9223372036854775807) (pi:ks p<=1048576) (eR:gO n<=1048576):
  Calls Tryz.prog 14 #[.agg #[.int .i64 p.labels,.int .i64 p.degree,pa,pb],.agg #[ve,vi,vn],.int .i64 k] w fun e w'=>∃u S,e=.returned (.tuple #[u,.bool (bt p n k)])/\iv w' w.heap.size u (aF p n k) S/\Below w.heap.size w w':=by
 have iI:p.ac3.length<=1048576:=by unfold ks oc at pi;omega
 have KB:=zh (jr eR);obtain⟨w0,ar⟩:∃w0,w0=(((w).alloc (.cells #[.int .i64 p.labels,.int .i64 p.degree,pa,pb] 26)).alloc (.cells #[ve,vi,vn] 30)).alloc (.cells #[.int .i64 k] 3):=⟨_,rfl⟩
 have bG:Below w.heap.size w w0:=by rw[ar];exact((((Below.refl _ _).alloc (by simp <;> omega) _).alloc (by simp <;> omega) _).alloc (by simp <;> omega) _)
 have H:=zh (h.ac2 bG);obtain⟨h1,h2,h3⟩:=h.ac2 bG;obtain⟨A,c,rfl,f_,hm,hA⟩:=h1;obtain⟨A2,c2,rfl,_,fq,_⟩:=h2;obtain⟨A3,c3,rfl,_,fF,_⟩:=h3;unfold maxLen at hm fq fF;have cZ:=hp.ac2 bG;have HP:=zh cZ;obtain⟨P0,eP,rfl,ji,dX,bZ⟩:=id cZ.1;unfold maxLen at dX;have jj:=zh bZ;clear bZ;obtain⟨P1,eB,rfl,jk,dY,b_⟩:=id cZ.2;unfold maxLen at dY;have jl:=zh b_;clear b_;clear cZ hp
 have gP:∀W,aa w0 W->W.cell? ⟨w.heap.size,0,none⟩=some (.int .i64 p.labels):=ab (by rw[ar];simp[go_sem])
 have ig:∀W,aa w0 W->W.cell? ⟨w.heap.size,1,none⟩=some (.int .i64 p.degree):=ab (by rw[ar];simp[go_sem])
 have ii:∀W,aa w0 W->W.cell? ⟨w.heap.size,2,none⟩=some (.slice P0 p.nodes.length eP):=ab (by rw[ar];simp[go_sem])
 have mL:∀W,aa w0 W->W.cell? ⟨w.heap.size,3,none⟩=some (.slice P1 p.ac3.length eB):=ab (by rw[ar];simp[go_sem])
 have rJ:∀W,aa w0 W->W.cell? ⟨w.heap.size+1,0,none⟩=some (.slice A n.ends.length c):=ab (by rw[ar];simp[go_sem])
 have tD:∀W,aa w0 W->W.cell? ⟨w.heap.size+1,1,none⟩=some (.slice A2 n.ids.length c2):=ab (by rw[ar];simp[go_sem])
 have tE:∀W,aa w0 W->W.cell? ⟨w.heap.size+1,2,none⟩=some (.slice A3 n.ac1.length c3):=ab (by rw[ar];simp[go_sem])
 have p20:∀W,aa w0 W->W.cell? ⟨w.heap.size+1+1,0,none⟩=some (.int .i64 k):=ab (by rw[ar];simp[go_sem])
 have bQ:=zh bG;have cS:=zh ar;have HA:=zh hA;clear hA h;clear bG ar
 have hK0:cC w0 (w.heap.size+1+1) #[.int .i64 k]:=by rw[cS.out];exact aaE _ _ _ _ _
 have HK0:=zh hK0;have f5:=zh (show ∀X,aa w0 X->di X (.slice P0 p.nodes.length eP) (.slice P1 p.ac3.length eB) p from fun X hX=>HP.out.ac2 hX)
 have iL:=zh (show ∀X,aa w0 X->aU X (.slice A n.ends.length c) (.slice A2 n.ids.length c2) (.slice A3 n.ac1.length c3) n from fun X hX=>H.out.ac2 hX.below)
 clear eR pi hK0
 go_enter Tryz.func14,Tryz.ntmps14
 go_upto_region 1 with(fail);rw[<- cS.out];refine bD 13 (aa w0) (ad _) ?_;simp only[zT]
 refine bF rfl ?_;simp only[zA]
 refine cH ?_ rfl ?_ ?_;rotate_left;(intro W hW;unfold ba;go_simp;(with_reducible refine(hZ _ _ p W (f5.out W hW)).mono ?_);rintro e W' ⟨rfl,aG⟩;first | (refine⟨?_,aa.trans hW aG⟩;with_reducible rfl) | (subst aG;refine⟨?_,hW⟩;with_reducible rfl))
 simp only[zA]
 iterate 2 (refine bF rfl ?_;simp only[zA])
 refine gT rfl rfl ?_;simp only[zA]
 refine bv (v:=?_) rfl rfl ?_ ?_;rotate_left;(intro hb;intro W hW;unfold ba;go_simp;(with_reducible refine(g8 _ _ _ n W (iL.out W hW) KB.out).mono ?_);rintro e W' ⟨rfl,aG⟩;first | (refine⟨?_,aa.trans hW aG⟩;with_reducible rfl) | (subst aG;refine⟨?_,hW⟩;with_reducible rfl))
 simp only[zA]
 refine gT rfl rfl ?_;simp only[zA]
 (first | refine cd rfl rfl ?_ | (refine bF rfl ?_));simp only[zA]
 refine bF rfl ?_;simp only[zA]
 refine gT rfl rfl ?_;simp only[zA]
 refine bv (v:=?_) rfl rfl ?_ ?_;rotate_left;(intro hb;intro W hW;unfold ba;go_simp;(with_reducible refine(oo _ _ _ W).mono ?_);rintro e W' ⟨rfl,aG⟩;first | (refine⟨?_,aa.trans hW aG⟩;with_reducible rfl) | (subst aG;refine⟨?_,hW⟩;with_reducible rfl))
 simp only[zA]
 refine gT rfl rfl ?_;simp only[zA]
 (first | refine cd rfl rfl ?_ | (refine bF rfl ?_));simp only[zA]
 intro W hW
 cases hg:(!dF p || !aW n || !fT 1 50 k)
 ·have dJ:rR p n k=true:=by unfold rR;revert hg;cases dF p <;> cases aW n <;> cases fT 1 50 k <;> simp
  simp only[Bool.or_eq_false_iff,Bool.not_eq_false']at hg;obtain⟨⟨lC,hn⟩,hm⟩:=hg;obtain⟨fv,ct⟩:=dE lC;obtain⟨lR,jU⟩:=gD hn;obtain⟨lS,wH⟩:=uT hn;have Hk:=zh (aL.1 hm);have Ey:=zh wH;have sw:=zh jU;have jP:=zh ct;have mo:=zh (kE lS wH);have nr:=zh (mn (fw (n:=n)));obtain⟨F,hF⟩:∃F,ef n=F:=⟨_,rfl⟩
  obtain⟨PT,rO⟩:∃PT,fB F=PT:=⟨_,rfl⟩
  have fU:Hid (eC n.ends F):=by rw[<- hF];exact fw
  have kp:Hid (rK (p.labels-1) F):=by rw[<- hF];exact ov (by omega)
  obtain⟨R,hR⟩:∃R,OD p n k=R:=⟨_,rfl⟩
  have HR:Hid (su (k9 k) p n.ends PT 200000 [] F=R):=by show _=_;rw[<- hR,<- rO,<- hF];rfl
  have uk:=zh (KM dJ hR);rw[hF]at Ey mo nr lS;rw[rO]at mo nr;have HF:=zh hF;have KC:=zh rO;have IA:=zh hn;have qG:=zh fv;have Bt:=zh iI;obtain⟨bo,jx⟩:∃bo,bo=W.heap.size:=⟨_,rfl⟩
  obtain⟨w2,eH⟩:∃w2,w2=W.alloc (.cells #[.slice none 0 0] 44):=⟨_,rfl⟩
  have Hi:Hid (cC w2 bo #[.slice none 0 0]):=by rw[eH,jx];exact cC.new _ _ _
  have uH:w0.heap.size<=bo:=by rw[jx];exact(aa.below hW).size
  have dZ:aa w0 w2:=by rw[eH];exact ae _ hW
  have gn:=zh dZ;have Hh:=zh uH;have rL:=zh jx;have py:=zh eH;have Ge:=aj gP dZ;have Gf:=aj ig dZ;have EF:=aj ii dZ;have q03:=aj mL dZ;have q10:=aj rJ dZ;have q11:=aj tD dZ;have q12:=aj tE dZ;clear eH jx hW uH hF rO hR hm lC ct wH jU dJ hn fv;go_upto_region 4 with(fail);rw[<- rL.out,<- py.out];refine oh (w0:=w2) 6 [0,0,0,1,1,2] (fun _ W u=>Ak w2 W u) (fun _ W W' u h hs=>h.ac2 hs) (by kernel_rfl) (by kernel_rfl) (ad _) ?_
  rw[show sR 2 ([0,0,0,1,1,2]:List Nat)=[5]from by decide]
  simp only[kg,List.take_succ_cons,List.take_zero,List.drop_succ_cons,List.drop_zero,if_true,if_false,reduceCtorEq,Nat.reduceEqDiff,reduceIte,Nat.zero_ne_one,Nat.one_ne_zero]
  iterate 3 (apply ei rfl;(intro W hW;go_simp;with_reducible rfl);simp only[zA])
  refine⟨?_,?_⟩
  ·intro j hj;obtain rfl:=List.mem_singleton.1 hj
   intro o ho;cases ho;refine⟨rfl,fun W hW=>?_⟩
   unfold rg
   go_simp
   all_goals (first | exact Ak.new (by first | exact hW.below.size | simp) | exact⟨Ak.new hW.below.size,ae _ (ad _)⟩)
  intro W hW;intro W1 h1;have js:=aa.after hW h1;refine⟨rfl,?_⟩
  go_simp
  (with_reducible refine(qi _ _ _ n W1 (iL.out W1 (gn.out.after js)) (by omega) (fun v es hv=>Nat.le_trans (sw.out v es hv) (by omega))).mono ?_)
  rintro e W ⟨u1,S1,rfl,ij,aX⟩;refine⟨_,rfl,aX,?_⟩;have hW:=js.after (aX);obtain⟨AU,mU,cU,rfl⟩:=aI.one ij;have dW:=ij.read;rw[HF.out]at dW;have Gb:=zh (show ∀X,aa W X->a_ X _ F from fun X hX=>dW.ac2 hX.below)
  clear ij dW aX
  (try simp only[zA])
  intro W1 h1;have js:=aa.after hW h1;refine⟨rfl,?_⟩
  go_simp
  (with_reducible refine(lQ _ _ _ _ _ _ p n F W1 (f5.out W1 (gn.out.after js)) (iL.out W1 (gn.out.after js)) (Gb.out W1 h1) lS Ey.out).mono ?_)
  rintro e W ⟨sb,ul,uf,SL,rfl,hS,nQ,hb⟩;refine⟨_,rfl,hb,?_⟩;have hW:=js.after (hb);rw[KC.out]at hS;obtain⟨B0,eA,EG,DF⟩:∃B0,bo<B0/\B0<=sb/\cj W sb _ _ _ _ _ _ B0:=⟨_,(Hi.out.below js Hi.out.lt).lt,nQ,hS⟩
  have HZ:=zh eA;have HS:=zh (show ∀X,aa W X->cj X sb _ _ _ _ _ _ B0 from fun X hX=>DF.ac8 hX.below)
  have vO:=zh EG;clear hS hb nQ eA EG DF
  (try simp only[zA])
  intro us W h1 hU;have hW:=aa.after hW h1;have hU5:(fun _ W u=>Ak w2 W u) 5 W (us 5):=by first | exact hU 5 (by simp) | exact hU
  (try simp only[]at hU5)
  simp only[aM,zG]
  (try simp only[zA])
  obtain⟨u5,Qv⟩:∃x,x=us 5:=⟨_,rfl⟩
  rw[<- Qv]at hU5 ⊢;clear Qv;clear hU us;obtain⟨bs,rfl,qK,bJ⟩:=hU5;simp only[bj];have OC:bs<W.heap.size:=(Array.getElem?_eq_some_iff.1 qK).1;have Vg:=HS.out W h1;have hP0:cC W bs #[.pointer none]:=⟨_,qK⟩;have Kg:cC W bo #[.slice none 0 0]:=Hi.out.below hW Hi.out.lt
  have Vf:bs≠bo:=by
   rintro rfl;obtain⟨r1,h1⟩:=Kg;rw[qK]at h1;simp at h1
  have Sp:bs∉sb::SL:=by
   intro hm;rcases List.mem_cons.1 hm with rfl | hm
   ·obtain⟨r1,h1⟩:=Vg.1;rw[qK]at h1;simp[kw]at h1
   ·obtain⟨cur,e,he,hc⟩:=KL Vg.2.1 hm;rw[qK]at hc
    rcases he with rfl | rfl <;> simp at hc
  obtain⟨w9,tK⟩:∃w9,w9=W.setCell ⟨bs,0,none⟩ (.pointer (some ⟨sb,0,none⟩)):=⟨_,rfl⟩
  have hP9:cC w9 bs #[.pointer (some ⟨sb,0,none⟩)]:=by rw[tK];exact hP0.put 0 _
  obtain⟨e1,e2⟩:=hP0.cell 0 _ rfl;have e3:=(hP9.cell 0 _ rfl).1
  have hS9:cj w9 sb _ _ _ _ _ _ B0:=Vg.ac4 (fun j hj=>by
   rw[tK];refine Below.heap_setCell _ _ _ j ?_;rcases hj with rfl | hj | hj
   ·exact fun e=>Sp (by rw[show bs=j from e.symm];exact List.mem_cons_self)
   ·exact fun e=>Sp (by rw[show bs=j from e.symm];exact List.mem_cons_of_mem _ hj)
   ·obtain⟨cur,hc⟩:=Vg.adR hj;rintro rfl;rw[qK]at hc
    simp at hc)
  have hI9:cC w9 bo #[.slice none 0 0]:=by rw[tK];exact Kg.set (p:=⟨bs,0,none⟩) (show bs≠bo from Vf)
  have WS:aa w0 w9:=by rw[tK];exact Below.setCell (gn.out.after hW) (by show w0.heap.size<=bs;exact Nat.le_trans gn.out.below.size bJ) _
  have HW9:=zh WS
  have qH:=zh (IC p n F PT k sb _ _ _ _ _ ul uf SL bo bs (w.heap.size+1+1) B0 w0 w9 R WS f5.out iL.out hS9 HK0.out.lt Hh.out HZ.out vO.out Sp Vf (fun j hj=>by have:=(Vg.uf j hj).1;have:=HZ.out;have:=vO.out;omega)
   hI9 hP9 (HK0.out.below WS.below HK0.out.lt) Hk.out IA.out jP.out Bt.out qG.out fU.out kp.out nr.out mo.out sw.out HR.out)
  have Hw9:=zh tK;have Sm:w.heap.size<=w9.heap.size:=Nat.le_trans bQ.out.size WS.below.size;clear hW h1 tK hP0 hP9 qK Vg Kg hS9 hI9 Vf Sp bJ OC;go_upto_region 5 with(fail);rw[<- Hw9.out];clear e1 e2;go_wp2_with fail;refine qH.out.mono ?_;rintro e W2 ⟨rfl,⟨u,S,hB,hO⟩,bJ⟩;obtain⟨AO,mO,cO,rfl⟩:=ge.one hO;have qk:=zh (Below.trans HW9.out bJ);have HO:=zh (ge.mono hO Sm);have c1:=(hB.cell 0 _ rfl).1;clear e3 hB hO bJ WS
  by_cases h3:R.2.1=3
  ·have fH:(R.2.1==3)=true:=by simpa using h3
   have jm:=uk.out.1;have lY:=uk.out.2;rw[if_pos h3]at jm;rw[decide_eq_true h3]at lY;have H0:=zh jm;have H1:=zh lY;clear h3 jm lY;go_wp2
   go_ret2
   rw[H0.out,H1.out];exact⟨_,_,rfl,jA _ _,aa.after bQ.out qk.out⟩
  ·have fH:(R.2.1==3)=false:=by simpa using h3
   have jm:=uk.out.1;have lY:=uk.out.2;rw[if_neg h3]at jm;rw[decide_eq_false h3]at lY;have H0:=zh jm;have H1:=zh lY;clear h3 jm lY;go_wp2
   go_ret2
   rw[H0.out,H1.out];exact⟨_,_,rfl,HO.out,aa.after bQ.out qk.out⟩
 ·have hk:rR p n k=false:=by unfold rR;revert hg;cases dF p <;> cases aW n <;> cases fT 1 50 k <;> simp
  obtain⟨h0,h1⟩:=Qu hk;have HW:=zh hW;have H0:=zh h0;have H1:=zh h1;clear hW h0 h1;go_wp2
  go_ret2
  rw[H0.out,H1.out];exact⟨_,_,rfl,jA _ _,aa.after bQ.out HW.out⟩
theorem CH {P:Program} {ops:Array Oper} {S:World->Prop} {ew:Act->World->Prop} {o:Oper} {rest:List Oper} {A:Act} {W W':World} (hw:Region.wanted o (yielded ops A.tmps)=true) (h:(execOp A.eval o).run P W=.ok .skip W') (hS:S W')
  (hr:bj P ops S ew rest (A.put o.dst undef) W'):bj P ops S ew (o::rest) A W:=.inl ⟨hw,by rw[h];exact⟨hS,hr⟩⟩
theorem kF (ve vi vn:Value) (n:aw) (w:World) (h:aU w ve vi vn n) (lR:n.ends.length<=1000) (aD:∀(k:Nat) (es:List (Int×Int)),n.ends[k]?=some es->es.length<=1000) (eR:gO n<=1048576):
  Calls Tryz.prog 150 #[.agg #[ve,vi,vn]] w (qu w n):=by
 have wg:n.ids.length<=17592186044416:=by unfold gO at eR;omega
 have zm:n.ac1.length<=17592186044416:=by unfold gO at eR;omega
 have aaH:Hid (∀(k:Nat) (es:List (Int×Int)),n.ends[k]?=some es->es.length<=1000):=aD;have ID:=zh wg;have KB:=zh zm;clear wg zm aD eR
 obtain⟨w0,A,c,A2,c2,A3,c3,rfl,rfl,rfl,f_,hm,fq,fF,HA,cS,bQ,H,gP,ig,ii⟩:=zB h;clear h
 obtain⟨wa,iY⟩:∃wa,wa=w0.alloc (.cells #[.slice none 0 0,.slice none 0 0,.slice none 0 0] 30):=⟨_,rfl⟩
 have ju:aa w0 wa:=by rw[iY];exact ae _ (ad _)
 have tL:Hid (wa.heap.size=w0.heap.size+1):=by show _=_;rw[iY];simp
 have uq:Hid (∀X,aa wa X->bA X w0.heap.size (.slice none 0 0) (.slice none 0 0) (.slice none 0 0)):=fun X hX=>by
  refine bA.since (W:=wa) ?_ hX;rw[iY];show(w0.heap.push _)[w0.heap.size]?=_
  rw[Array.getElem?_push_size]
 have Ge:=aj gP ju;have Gf:=aj ig ju;have EF:=aj ii ju;have HNe:=zh (show ∀X,aa wa X->no X (.slice A n.ends.length c) n.ends from fun X hX=>(H.out.ac2 (ju.after hX).below).es)
 have HNi:=zh (show ∀X,aa wa X->bO X (.slice A2 n.ids.length c2) n.ids from fun X hX=>by have:=H.out.ac2 (ju.after hX).below;exact this.2.1)
 have iL:=zh (show ∀X,aa wa X->bO X (.slice A3 n.ac1.length c3) n.ac1 from fun X hX=>by have:=H.out.ac2 (ju.after hX).below;exact this.2.2)
 have Al:=zh iY;have mA:=zh ju;clear iY ju gP ig ii
 go_enter Tryz.func150,Tryz.ntmps150
 go_upto_region 1 with(fail);rw[<- cS.out,<- Al.out];refine oh (w0:=wa) 9 [0,0,1,0,0,1,1,2,3] (fun _ W u=>zV W wa.heap.size u) (fun _ W W' u h hs=>h.ac2 hs) (by kernel_rfl) (by kernel_rfl) (ad _) ?_
 rw[show sR 2 ([0,0,1,0,0,1,1,2,3]:List Nat)=[7]from by decide]
 simp only[kg,List.take_succ_cons,List.take_zero,List.drop_succ_cons,List.drop_zero,if_true,if_false,reduceCtorEq,Nat.reduceEqDiff,reduceIte,Nat.zero_ne_one,Nat.one_ne_zero]
 iterate 4 (apply ei rfl;(intro W hW;go_simp;with_reducible rfl);simp only[zA])
 refine⟨?_,?_⟩
 ·intro j hj;obtain rfl:=List.mem_singleton.1 hj
  intro o ho;cases ho;refine⟨rfl,fun W hW=>?_⟩
  unfold rg
  go_simp
  all_goals (first | exact zV.new _ hW.below.size | exact⟨zV.new _ hW.below.size,ae _ (ad _)⟩)
 intro W hW;intro W1 h1;have js:=aa.after hW h1;refine⟨rfl,?_⟩
 go_simp
 (with_reducible refine(pu _ n.ids W1 (HNi.out W1 js) ID.out).mono ?_)
 rintro e W ⟨u1,rfl,ho,hb⟩;refine⟨_,rfl,hb,?_⟩;have hW:=js.after (hb)
 have HI:=zh (show ∀X,aa W X->Own X wa.heap.size u1 n.ids from fun X hX=>(ho.since hX).mono js.below.size);clear ho hb
 (try simp only[zA])
 intro W1 h1;have js:=aa.after hW h1;refine⟨rfl,?_⟩
 go_simp
 (with_reducible refine(pu _ n.ac1 W1 (iL.out W1 js) KB.out).mono ?_)
 rintro e W ⟨u2,rfl,ho,hb⟩;refine⟨_,rfl,hb,?_⟩;have hW:=js.after (hb)
 have Ez:=zh (show ∀X,aa W X->Own X wa.heap.size u1 n.ids from fun X hX=>HI.out X ((h1.trans hb).after hX));have KD:=zh (show ∀X,aa W X->Own X wa.heap.size u2 n.ac1 from fun X hX=>(ho.since hX).mono js.below.size);have Hd3:=zh (show ∀j,u1.ownBlock=some j->u2.ownBlock≠some j from fun j hj hk=>by have:=(World.ownsRow.lt (HI.out W1 h1) j hj).2;have:=(World.ownsRow.lt ho j hk).1;omega);clear ho hb HI;obtain⟨BI,dI,rfl,_⟩:=id (Ez.out W (ad _)).ints;obtain⟨BN,dN,rfl,_⟩:=id (KD.out W (ad _)).ints
 (try simp only[zA])
 intro W1 h1;have js:=aa.after hW h1;refine⟨rfl,?_⟩
 go_simp
 have hq6:=h1;have hW:=js
 (try simp only[zA])
 intro us W h1 hU;have hW:=aa.after hW h1;have hU7:(fun _ W u=>zV W wa.heap.size u) 7 W (us 7):=by first | exact hU 7 (by simp) | exact hU
 (try simp only[]at hU7)
 simp only[aM,zG]
 (try simp only[zA])
 obtain⟨u7,hu7⟩:∃x,x=us 7:=⟨_,rfl⟩
 rw[<- hu7]at hU7 ⊢;clear hu7;clear hU us
 obtain⟨ob,rfl,jB,dj⟩:=hU7;have Gb:=zh (Ez.out _ (hq6.after h1));have tM:=zh (KD.out _ (hq6.after h1));have Qk:=zh dj;obtain⟨c0,c1,EH,f0,f1,f2⟩:=dj.box.cells
 refine CH (W':=?_) rfl ?_ ?_ ?_;rotate_left
 (go_simp;with_reducible rfl)
 exact(((hW.setCell jB _).setCell jB _).setCell jB _)
 (try simp only[zA])
 simp only[bj];have Sq:bA (((W.setCell ⟨ob,0,none⟩ (.slice none 0 0)).setCell ⟨ob,1,none⟩ (.slice BI n.ids.length dI)).setCell ⟨ob,2,none⟩ (.slice BN n.ac1.length dN)) ob (.slice none 0 0) (.slice BI n.ids.length dI) (.slice BN n.ac1.length dN):=((Qk.out.adl _).adr _).adn _;obtain⟨w4,mu⟩:∃w4,w4=((W.setCell ⟨ob,0,none⟩ (.slice none 0 0)).setCell ⟨ob,1,none⟩ (.slice BI n.ids.length dI)).setCell ⟨ob,2,none⟩ (.slice BN n.ac1.length dN):=⟨_,rfl⟩
 rw[<- mu]at Sq ⊢
 have Ng:Hid (aa wa w4):=by show aa _ _;rw[mu];exact(((hW.setCell jB _).setCell jB _).setCell jB _)
 have EJ:aR [ob] W w4:=by rw[mu];exact((((aR.refl _ _).setCell (.inl (by simp)) _).setCell (.inl (by simp)) _).setCell (.inl (by simp)) _)
 have Sr:=F6 Gb.out Qk.out;have Su:=F6 tM.out Qk.out
 have WT:Hid (au w4 wa.heap.size (.slice none 0 0) (.slice BI n.ids.length dI) (.slice BN n.ac1.length dN) ⟨[],n.ids,n.ac1⟩ ((Value.slice BI n.ids.length dI).ownBlock.toList++(Value.slice BN n.ac1.length dN).ownBlock.toList)/\ob∉(Value.slice BI n.ids.length dI).ownBlock.toList++(Value.slice BN n.ac1.length dN).ownBlock.toList):=by
  show _/\_
  refine⟨?_,fun hm=>(List.mem_append.1 hm).elim (fun hm=>Sr (by simpa using hm)) (fun hm=>Su (by simpa using hm))⟩
  have h1:Own w4 wa.heap.size (.slice BI n.ids.length dI) n.ids:=aQ Gb.out (fun j hj=>EJ.block j (World.ownsRow.lt Gb.out j (by simpa using hj)).2 (fun e=>Sr (by simp at e;subst e;simpa using hj)))
  have h2:Own w4 wa.heap.size (.slice BN n.ac1.length dN) n.ac1:=aQ tM.out (fun j hj=>EJ.block j (World.ownsRow.lt tM.out j (by simpa using hj)).2 (fun e=>Su (by simp at e;subst e;simpa using hj)))
  exact Io (S1:=[]) ⟨[],[],World.ownsRow_nil _ _ _ _,rfl,fun k u x T h=>by simp at h,rfl,by simp⟩ h1 h2 (by simp) (by simp) Hd3.out
 have Eo:=zh Sq;have Ns:=zh jB;clear Sq mu EJ Sr Su Ez KD Hd3 Gb tM Qk c0 c1 EH f0 f1 f2 hW jB;have qg:=Ng.out;go_wp2
 go_loopw [16] (fun i wr=>∃(k:Nat) (v:Value) (S:List Nat),k<=n.ends.length/\i=.int .i64 k/\au wr wa.heap.size v (.slice BI n.ids.length dI) (.slice BN n.ac1.length dN) ⟨n.ends.take k,n.ids,n.ac1⟩ S/\ob∉S/\(∀q,v.ownBlock=some q->ob+1<=q)/\bA wr ob v (.slice BI n.ids.length dI) (.slice BN n.ac1.length dN)/\aa wa wr) (fun i _=>n.ends.length-(intOf i).toNat)
 case atStart=>exact⟨0,_,_,Nat.zero_le _,rfl,by simpa using WT.out.1,WT.out.2,by simp[Value.ownBlock],Eo.out,Ng.out⟩
 case round=>
  obtain⟨k,v,S,hk,rfl,ey,WU,hvq,dj,fd⟩:=hrel;obtain⟨AV,cV,hV,_⟩:=id ey.read.1;obtain⟨mV,hmV⟩:∃m,m=(n.ends.take k).length:=⟨_,rfl⟩
  simp only[<- hmV]at hV;have HmV:=zh hmV;clear hmV;subst hV;have Jt:=zh ey;have WV:=zh WU;have Sv:=zh hvq;have CI:=zh dj;clear qg ey WU hvq
  by_cases aH:k<n.ends.length
  ·obtain⟨es,ca⟩:=ay n.ends k aH;obtain⟨b,Sw,cr,ur,nN,hkr,dG,aD⟩:=kd (HNe.out wa (ad _)) ca;cases nN;have q5:=ab dG;have HE:=zh (show ∀X,aa wa X->zL X ur es from fun X hX=>aD.ac2 hX.below)
   have nO:=zh ca;have Bt:=zh (aaH.out k es ca);clear dG aD ca dj;go_upto_region 5 with(fail);obtain⟨wT,WW⟩:∃wT,wT=jO wr (ob+1):=⟨_,rfl⟩
   have sS:ob+1<=wr.heap.size:=CI.out.lt
   have hsT:aa wT wr:=by rw[WW];exact oi wr sS
   have hTs:wT.heap.size=ob+1:=by rw[WW];exact mK wr sS
   have hTb:bA wT ob (.slice AV mV cV) (.slice BI n.ids.length dI) (.slice BN n.ac1.length dN):=by rw[WW];exact Im CI.out
   have hTa:aa wa wT:=by rw[WW];exact Ci fd sS (Nat.le_succ_of_le Ns.out)
   have t0:=ab hTb.box.cells.1;have q5T:=aj q5 hTa;have HTs:=zh hTs;have HTa:=zh hTa;have mY:=zh fd;have Gg:=zh sS
   have jw:Hid (wT.heap.size<=wr.heap.size):=by show _<=_;rw[hTs];exact sS
   clear WW hTs hTb hTa fd q5 Ge Gf EF sS;refine el (w0:=wT) 7 [false,false,true,false,true,true,true] (by kernel_rfl) (by kernel_rfl) (hsT) ?_;simp only[ek,dD,zT]
   iterate 3 (apply ei rfl;(intro W hW;go_simp;with_reducible rfl);simp only[zA])
   obtain⟨W,cA⟩:∃W,W=World.drew wr:=⟨_,rfl⟩
   rw[<- cA]
   have hW:aa wT W:=by rw[cA];exact ag (hsT)
   (try have eU:=zh cA)
   (try clear cA)
   refine iF (v:=?_) (ob:=?_) rfl ?_ hW ?_;rotate_left 2
   (go_simp;first | with_reducible rfl | (refine⟨?_,?_⟩ <;> with_reducible rfl))
   intro w2 EK KN
   replace hW:=KN
   clear KN
   have nW:Hid (eq w2 wr.heap.size (.slice (some ⟨wr.heap.size,0,none⟩) 0 0) [] [wr.heap.size]):=by show eq _ _ _ _ _;rw[EK,eU.out];exact Ip wr.drew
   have py:Hid (aa wr w2):=by show aa _ _;rw[EK,eU.out];exact ae _ (ag (ad _))
   rw[show W.heap.size=wr.heap.size from by rw[eU.out];rfl]
   clear EK eU
   (try simp only[zA])
   refine c_ (fun Q' HQ=>?_)
   (refine Il (w0:=wT) (v:=.slice (some ⟨wr.heap.size,0,none⟩) 0 0) (u:=ur) (xs:=[]) (ys:=es) (T:=[wr.heap.size]) rfl _ _ rfl rfl (fY.mono nW.out (jw.out)) (HE.out w2 (HTa.out.after hW)) rfl (by have:=Bt.out;simp;omega) hW ?_);intro v3 w3 T3 iH WX EL gR;refine HQ _ _ gR ?_;replace hW:=gR;have wO:Hid (aa wr w3):=(show aa _ _ from Below.trans py.out (EL.below _ py.out.below.size (by simp)));have HT3:Hid (∀j∈T3,wr.heap.size<=j):=(fun j hj=>(WX j hj).elim (fun h=>Nat.le_of_eq (List.mem_singleton.1 h).symm) (fun h=>by have:=py.out.below.size;omega));obtain⟨AQ,mQ,cQ,hvQ⟩:=fY.one iH;subst hvQ;have Kh:=zh iH;clear gR iH WX EL
   (try simp only[zA])
   (try have eU:=zh cA)
   (try clear cA)
   refine iF (v:=?_) (ob:=?_) rfl ?_ hW ?_;rotate_left 2
   (go_simp;first | with_reducible rfl | (refine⟨?_,?_⟩ <;> with_reducible rfl))
   intro w5 kx oA
   replace hW:=oA
   clear oA
   have Nt:Hid (eq w5 wa.heap.size (.slice AQ mQ cQ) es T3):=by show eq _ _ _ _ _;rw[kx];have h5:eq w3 wT.heap.size (.slice AQ mQ cQ) es T3:=(by simpa using Kh.out);exact fY.mono (fY.ac2 h5 (ao _ _)) HTa.out.below.size
   have Hc5:Hid (w5.cell? ⟨w3.heap.size,0,none⟩=some (.slice AQ mQ cQ)):=by show _=_;rw[kx];simp
   have Vh:Hid (aa wr w5):=by show aa _ _;rw[kx];exact ae _ wO.out
   have KO:=zh (Jt.out.ac2 Vh.out.below)
   have Hd5:=zh (show ∀j∈T3,j∉S from fun j hj hS=>by have:=HT3.out j hj;have:=(Jt.out.range j hS).2;omega)
   have Hl5:Hid ((n.ends.take k).length+1<=1000000):=(by show _<=_;rw[List.length_take];omega)
   have Am:Hid (wa.heap.size<=w5.heap.size):=(Nat.le_trans (HTa.out.below.size) hW.below.size)
   have Hq5:Hid (∀q,(Value.slice AV mV cV).ownBlock=some q->wT.heap.size<=q):=(fun q hq=>by rw[HTs.out];exact Sv.out q hq)
   clear kx
   (try simp only[zA])
   refine c_ (fun Q' HQ=>?_)
   (refine rG (wT:=wT) (v:=.slice AV mV cV) (u:=.slice AQ mQ cQ) rfl _ _ rfl rfl KO.out w3.heap.size rfl Hc5.out Nt.out Hd5.out Hl5.out hW Am.out Hq5.out ?_);intro v6 w6 S6 hv6 jU hS6 wP ut;refine HQ _ _ ut ?_;have Hv6:=zh hv6;have sw:=zh jU;have Vi:=zh hS6;have aaI:=zh wP;replace hW:=ut;clear hv6 jU hS6 wP ut
   (try simp only[zA])
   simp only[bj];obtain⟨A6,c6,hV6,_⟩:=id sw.out.read.1
   have WY:(n.ends.take k++[es]).length=k+1:=by simp;omega
   simp only[WY]at hV6;subst hV6;have WZ:=zh ((CI.out.since Vh.out).only aaI.out WV.out);have aaJ:Hid (aa wa w6):=(HTa.out.after hW);obtain⟨c0,_,_,f0,_,_⟩:=WZ.out.box.cells;clear hW t0 q5T;go_wp2;go_roundw
   case rel=>
    have W0:ob∉S6:=fun hm=>by
     rcases Vi.out ob hm with h | h | h
     ·exact WV.out h
     ·have:=HT3.out ob h;have:=Gg.out;omega
     ·have:=Vh.out.below.size;have:=Gg.out;omega
    refine⟨k+1,.slice A6 (k+1) c6,S6,by omega,by go_num,?_,W0,?_,WZ.out.adl _,aaJ.out.setCell Ns.out _⟩
    ·have hx:=sw.out.ac4 (w':=w6.setCell ⟨ob,0,none⟩ (.slice A6 (k+1) c6)) (fun j hj=>Below.heap_setCell w6 _ _ j (fun e=>W0 (by have e':j=ob:=e;exact e' ▸ hj)))
     rw[bX nO.out];exact hx
    ·intro q hq;rcases Hv6.out q hq with h | h
     ·exact Sv.out q h
     ·have:=Vh.out.below.size;have:=Gg.out;omega
   case measure=>simp[intOf];omega
  ·obtain rfl:k=n.ends.length:=by omega
   have ll:w0.heap.size=w.heap.size+1:=by rw[cS.out];simp
   have HR:=uq.out wr fd;rw[ll]at HR
   have aaK:Hid (w.heap.size+1<wa.heap.size):=by show _<_;rw[tL.out];omega
   obtain⟨c0,c1,EH,_,_,_⟩:=CI.out.box.cells;obtain⟨d0,d1,d2,f0,f1,f2⟩:=HR.box.cells;have mY:=zh fd;have HR':=zh HR;clear HR dj fd aH hk ll;go_wp2;refine bodyPost_ret (v:=.agg #[.slice AV mV cV,.slice BI n.ids.length dI,.slice BN n.ac1.length dN]) (by simp[results,Tryz.results150,go_sem, *]) rfl ?_;have hx:=Jt.out;rw[List.take_length]at hx;refine⟨_,_,_,S,rfl,?_,?_⟩
   ·refine(hx.ac4 (fun j hj=>?_)).mono (Nat.le_trans bQ.out.size mA.out.below.size)
    have tB:=(Jt.out.range j hj).1;have uF:=aaK.out;rw[Below.heap_setCell _ _ _ j (by simp;omega),Below.heap_setCell _ _ _ j (by simp;omega),Below.heap_setCell _ _ _ j (by simp;omega)]
   ·exact(((Below.trans bQ.out ((mA.out.after mY.out).below.mono bQ.out.size)).setCell (by simp) _).setCell (by simp) _).setCell (by simp) _
section
variable {P : Program} {ops : Array Oper}
end
structure Cr (wa W:World) (ob b1 b2 g c m:Nat) (vi vn:Value) (N:aw) (S:List Nat) (a e:Int×Int):Prop where
 own:au W wa.heap.size (.slice (some ⟨g,0,none⟩) m c) vi vn N S
 len:N.ends.length=m
 box:bA W ob (.slice (some ⟨g,0,none⟩) m c) vi vn
 e1:E2 W 104 b1 a.1 a.2
 e2:E2 W 104 b2 e.1 e.2
 nb:ob∉S/\b1∉S/\b2∉S
 since:aa wa W
end Go.Proofs.YtnioemnkfojmkaaGreat
