/- Parts of the proof: walks of functions and plain laws. -/
import Derived.Test.YtnioemnkfojmkaaGreatP0
import Derived.Test.YtnioemnkfojmkaaGreatP8
import Derived.Test.YtnioemnkfojmkaaGreatP3
import Derived.Deep.CutRange
import Derived.Test.YtnioemnkfojmkaaGreatP2
set_option maxRecDepth 100000
set_option maxHeartbeats 16000000
namespace Go.Proofs.YtnioemnkfojmkaaGreat
open Go Go.RowKit
def su {σ:Type} (nx:σ->List (List Int)->Bool×σ) (p:az) (ends:List (List (Int×Int))) (ah:List (Int×Int)) (most:Int) (s:σ) (l:List (List Int)):σ×FX:=
 if dS p ends l=true then bW nx p ends ah most (ap most 0 0) s l 0 0 else (s,2,l,0,0)
theorem F_ {σ:Type} (nx:σ->List (List Int)->Bool×σ) (J:σ->World->Prop) (nU:FuncId) (kL:Array Value) (p:az) (n:aw) (pa pb va vb vc ul uf:Value) (sb:Nat) (SL:List Nat) (B:Nat) (ah:List (Int×Int)) (most:Int) (s0:σ) (l0:List (List Int)) (w:World)
  (im:∀args w,(callFunc nU args).run Tryz.prog w=.ok (.enter nU args) w) (pS:B<=sb)
  (wu:∀X,Below B w X->di X pa pb p) (sY:∀X,Below B w X->aU X va vb vc n) (Ww:∀s W W',J s W->aR (sb::SL) W W'->J s W')
  (qs:∀s l st W,Below B w W->cj W sb (kw p pa pb va vb vc ul uf st) l ah ul uf SL B->J s W->Calls Tryz.prog nU kL W fun e W'=>e=.returned (.bool (nx s l).1)/\J (nx s l).2 W'/\cj W' sb (kw p pa pb va vb vc ul uf st) l ah ul uf SL B/\Below B W W')
  (hS:cj w sb (kw p pa pb va vb vc ul uf 0) l0 ah ul uf SL B) (hJ:J s0 w) (hn:aW n=true) (ct:dR p.ac3) (iI:p.ac3.length<=1048576) (fv:1<=p.labels/\p.labels<=8) (eJ:eC n.ends l0) (dH:rK (p.labels-1) l0) (nq:mX n.ends ah) (z8:ah.length<=1000) (pT:0<=most/\most<=200000)
  (mW:∀(v:Nat) (es:List (Int×Int)),n.ends[v]?=some es->es.length<=6):
  Calls Tryz.prog 36 #[.pointer (some ⟨sb,0,none⟩),.int .i64 most,.func (.func nU) #[] kL] w fun e w'=>
   e=.returned (.int .i64 (su nx p n.ends ah most s0 l0).2.1)/\cj w' sb (kw p pa pb va vb vc ul uf (su nx p n.ends ah most s0 l0).2.2.2.2) (su nx p n.ends ah most s0 l0).2.2.1 ah ul uf SL B/\J (su nx p n.ends ah most s0 l0).1 w'/\Below B w w':=by
 have zd:B<=w.heap.size:=Nat.le_trans pS (Nat.le_of_lt hS.1.lt);obtain⟨A5,c5,Bw,-⟩:=id hS.2.1.read;obtain⟨TE,Ko⟩:=hS.2.2.2;obtain⟨A6,c6,Om,-,-,-⟩:=ou Ko;obtain⟨A1,c1,Ni,-⟩:=id (wu w (Below.refl _ _)).1;obtain⟨A2,c2,da,-⟩:=id (wu w (Below.refl _ _)).2;obtain⟨A3,c3,RZ,-⟩:=id (sY w (Below.refl _ _)).1;obtain⟨A4,c4,R3,-⟩:=id (sY w (Below.refl _ _)).2.1;obtain⟨A7,c7,R4,-⟩:=id (sY w (Below.refl _ _)).2.2;subst Bw Om Ni da RZ R3 R4;have R5:IntKind.i64.wrap (p.labels-1)=p.labels-1:=aE _ (by omega) (by omega);have eg:=im;have f5:=zh wu;have iL:=zh sY;have Iy:=zh Ww;have Hcl:=zh qs;have HS:=zh hS;have HJ:=zh hJ;have jP:=zh ct;have fU:=zh eJ;have kp:=zh dH;have nr:=zh nq;have Bv:=zh mW
 have nD:Hid (∀(v:Nat) (row:List Int),l0[v]?=some row->row.length<=1000000):=fun v row hv=>by
  obtain⟨es,ca⟩:=ay n.ends v (by rw[<- eJ.1];exact al hv)
  have:=eJ.2 v es row ca hv
  have:=mW v es ca
  omega
 obtain⟨k0,k1,k2,k3,k4,k5,k6,k7,-,-⟩:=dk hS.1
 replace k0:=ab k0
 replace k1:=ab k1
 replace k2:=ab k2
 replace k3:=ab k3
 replace k4:=ab k4
 replace k5:=ab k5
 replace k6:=ab k6
 replace k7:=ab k7
 clear wu sY Ww qs hS hJ ct eJ dH nq mW Ko im;obtain⟨gW,Wx⟩:∃b,dS p n.ends l0=b:=⟨_,rfl⟩
 have R6:=zh Wx;clear Wx;obtain⟨R,hR⟩:∃R,su nx p n.ends ah most s0 l0=R:=⟨_,rfl⟩
 have HR:=zh hR;rw[hR];clear hR
 go_enter Tryz.func36,Tryz.ntmps36
 go_upto_region 1 with(fail);refine am 14 (aa w) (by kernel_rfl) (by kernel_rfl) (by simp) (ag (ad _)) ?_;simp only[zT]
 iterate 12 (refine bF rfl ?_;simp only[zA])
 refine cH ?_ rfl ?_ ?_;rotate_left;(intro W hW;unfold ba;go_simp;(with_reducible refine(ze _ _ _ _ _ _ p n l0 W (f5.out W (hW.below.mono zd)) (iL.out W (hW.below.mono zd)) (HS.out.ac8 hW.below).rows hn fU.out jP.out iI nD.out).mono ?_);rintro e W' ⟨rfl,aG⟩;first | (refine⟨?_,aa.trans hW aG⟩;with_reducible rfl) | (subst aG;refine⟨?_,hW⟩;with_reducible rfl))
 simp only[zA]
 refine bF rfl ?_;simp only[zA]
 intro W hW;have HW:=zh hW;clear hW k0 k1 k2 k3 k4 k5 k6 k7;rw[R6.out];cases gW
 ·have z_:Hid (R=(s0,2,l0,0,0)):=by show _=_;rw[<- HR.out];unfold su;rw[if_neg (by rw[R6.out];simp)]
  go_wp2;go_ret;rw[z_.out];exact⟨rfl,HS.out.ac8 HW.out.below,Iy.out _ _ _ HJ.out (aR.ac7 HW.out.below),HW.out.below.mono zd⟩
 ·obtain⟨F,hF⟩:∃F,F=ap most 0 0:=⟨_,rfl⟩
  have z_:Hid (R=bW nx p n.ends ah most F s0 l0 0 0):=by show _=_;rw[<- HR.out,hF];unfold su;rw[if_pos R6.out]
  have hF0:Hid (ap most 0 0<=F):=by show _<=_;rw[hF];exact Nat.le_refl _
  clear hF;obtain⟨gU,Wy⟩:∃z,z=sb:=⟨_,rfl⟩
  have HgU:=zh Wy;clear Wy;go_wp2
  go_loopw [7] (fun a wr=>∃(s:σ) (l:List (List Int)) (aO st:Int),a=.int .i64 aO /\ -1<=aO/\aO<=ah.length/\0<=st/\st<=most/\(R=bW nx p n.ends ah most F s l aO st/\ap most aO st<=F)/\(cj wr sb (kw p (.slice A1 p.nodes.length c1) (.slice A2 p.ac3.length c2) (.slice A3 n.ends.length c3) (.slice A4 n.ids.length c4) (.slice A7 n.ac1.length c7) (.slice A5 l0.length c5) (.slice A6 ah.length c6) st) l ah (.slice A5 l0.length c5) (.slice A6 ah.length c6) SL B/\J s wr)/\(eC n.ends l/\rK (p.labels-1) l)/\Below B w wr) (fun a wr=>ap most (intOf a) (jS wr sb 9))
  case atStart=>exact⟨s0,l0,0,0,rfl,by omega,by omega,by omega,pT.1,⟨z_.out,hF0.out⟩,⟨HS.out.ac8 HW.out.below,Iy.out _ _ _ HJ.out (aR.ac7 HW.out.below)⟩,⟨fU.out,kp.out⟩,HW.out.below.mono zd⟩
  case round=>
   obtain⟨s,l,aO,st,rfl,lC,sG,dw,dZ,it,fp,hinv,hb⟩:=hrel;have lk:=zh it;have Aa:=zh fp;have fZ:=zh hinv;have Hb:=zh hb;obtain⟨d0,d1,d2,d3,d4,d5,d6,d7,d8,d9⟩:=dk fp.1.1;have Wz:Hid (jS wr sb 9=st):=cx d9;have R7:Hid (st=jS wr sb 9):=Wz.out.symm
   have wv:Hid (l0.length=l.length):=by show _=_;have h1:=fp.1.rows;obtain⟨_,_,e,-⟩:=h1;simp only[Value.slice.injEq]at e;exact e.2.1
   clear it fp hinv hb d0 d1 d2 d3 d4 d5 d6 d7 d9;have WB:Hid (ap most aO st<=F):=lk.out.2;obtain⟨M0,ww⟩:∃z,ap most (intOf (Value.int .i64 aO)) (jS wr sb 9)=z:=⟨_,rfl⟩
   have yl:=zh ww
   have Ab:Hid (ap most aO st=M0):=by show _=_;rw[<- ww,Wz.out];rfl
   clear ww
   go_upto_if 30 with(fail)
   go_cut [7]from 24 to 121 (fun a wx=>∃(s1:σ) (fC:Int),a=.int .i64 fC /\ -1<=fC/\fC<ah.length/\ap most fC st<=M0/\R=bW nx p n.ends ah most F s1 l fC st/\(cj wx sb (kw p (.slice A1 p.nodes.length c1) (.slice A2 p.ac3.length c2) (.slice A3 n.ends.length c3) (.slice A4 n.ids.length c4) (.slice A7 n.ac1.length c7) (.slice A5 l0.length c5) (.slice A6 ah.length c6) st) l ah (.slice A5 l0.length c5) (.slice A6 ah.length c6) SL B/\J s1 wx)/\Below B w wx)
   case first=>
    by_cases dQ:aO=ah.length
    ·have fH:(aO==(ah.length:Int))=true:=by simpa using dQ
     have gz:=zh (ir nx p n.ends ah most F s l aO st dZ lC lk.out.2);have kU:=zh (Hcl.out s l st wr Hb.out Aa.out.1 Aa.out.2);obtain⟨bo,jx⟩:∃b,(nx s l).1=b:=⟨_,rfl⟩
     have rL:=zh jx;obtain⟨s1,Kq⟩:∃x,(nx s l).2=x:=⟨_,rfl⟩
     have jH:=zh Kq
     have Kr:Hid (∀b,(nx s l).1=b->R=if b=true then bW nx p n.ends ah most F s1 l (aO-1) st else (s1,1,l,aO,st)):=by
      intro b hb;rw[lk.out.1,gz.out,if_neg (by omega),if_pos dQ,hb,jH.out]
     obtain⟨fC,wy⟩:∃z,aO-1=z:=⟨_,rfl⟩
     have wp1:IntKind.i64.wrap (aO-1)=fC:=by rw[aE _ (by omega) (by omega)];exact wy
     have iT : -1<=fC:=by omega
     have lX:fC<ah.length:=by omega
     have Ks:Hid (ap most fC st<=M0):=by show _<=_;rw[<- Ab.out];unfold ap;omega
     have wD:Hid (ap most fC st<=F):=by show _<=_;have:=Ks.out;rw[<- Ab.out]at this;exact Nat.le_trans this WB.out
     have Va:=zh wy;clear jx Kq dQ wy lC sG gz;go_wp2_with fail;refine kU.out.mono ?_;rw[rL.out,jH.out];rintro e w1 ⟨rfl,WC,kh,aX⟩;have h_:=zh (And.intro kh WC);have fE:=zh (Hb.out.trans aX);clear WC kh aX;cases bo
     ·have jy:Hid (R=(s1,1,l,aO,st)):=by show _=_;rw[Kr.out false rL.out,if_neg (by simp)]
      go_wp2;go_ret;rw[jy.out];exact⟨rfl,h_.out.1,h_.out.2,fE.out⟩
     have rM:Hid (R=bW nx p n.ends ah most F s1 l fC st):=by show _=_;rw[Kr.out true rL.out,if_pos rfl,Va.out]
     go_wp2;go_meet
     case rel=>exact⟨s1,fC,rfl,iT,lX,Ks.out,rM.out,h_.out,fE.out⟩
    ·have fH:(aO==(ah.length:Int))=false:=by simpa using dQ
     have lX:aO<ah.length:=by omega
     clear dQ;go_wp2;go_meet
     case rel=>exact⟨s,aO,rfl,lC,lX,by rw[<- Ab.out];exact Nat.le_refl _,lk.out.1,Aa.out,Hb.out⟩
   case rest=>
    obtain⟨s1,fC,rfl,iT,lX,uG,x9,vN,aX⟩:=hcut;obtain⟨w1,kT⟩:∃z,z=wc:=⟨_,rfl⟩
    have Ks:Hid (ap most fC st<=M0):=uG
    have wD:Hid (ap most fC st<=F):=by show _<=_;rw[<- Ab.out]at uG;exact Nat.le_trans uG WB.out
    have rM:=zh x9;have h_:=zh vN;have fE:=zh aX;clear uG x9 vN aX kT w1 d8 lC sG
    by_cases lO:fC<0
    ·have jy:Hid (R=(s1,2,l,fC,st)):=by show _=_;rw[rM.out,ir nx p n.ends ah most F s1 l fC st dZ iT wD.out,if_pos lO]
     go_wp2;go_ret;rw[jy.out];exact⟨rfl,h_.out.1,h_.out.2,fE.out⟩
    ·obtain⟨q,rfl⟩:=Int.eq_ofNat_of_zero_le (show 0<=fC by omega)
     have zi:q<ah.length:=by omega
     obtain⟨e,he⟩:=ay ah q zi;obtain⟨v,i,es,rfl,ca,Od⟩:=nr.out q e he
     have lW:v<l.length:=by rw[fZ.out.1.1];exact al ca
     obtain⟨row,aD⟩:=ay l v lW;have xT:=fZ.out.1.2 v es row ca aD;have mW:=Bv.out v es ca;have sZ:i<row.length:=by omega
     have Cw:row.length<=6:=by omega
     obtain⟨x,hx⟩:=ay row i sZ;have uQ:=fZ.out.2 v row i x aD hx;have fD:=zh (Cy p n.ends ah most F nx s1 he aD hx dZ wD.out);obtain⟨gl,cl,gr,cr,e5,f1,f2,f3,f4,-⟩:=h_.out.1.label aD hx
     injection e5 with ea eb' ec
     subst ea ec;obtain⟨TE1,wE⟩:=h_.out.1.2.2.2;obtain⟨A6',Js,e6,-,-,Cz⟩:=ou wE;obtain⟨b6,o6,e7,t1,t2⟩:=Cz q _ he
     injection e6 with ea6 eb6 ec6
     subst ec6;rw[<- ea6]at e7;subst e7;obtain⟨d0,d1,d2,d3,d4,d5,d6,d7,d8,d9⟩:=dk h_.out.1.1
     have G_:v<l0.length:=by rw[wv.out];exact lW
     have uJ:sb<wc.heap.size:=h_.out.1.1.lt;have Vb:gr<sb:=h_.out.1.2.2.1 gr f4;have ch:=zh aD;have Hx:=zh hx;have nO:=zh ca;clear he ca Od aD hx xT ea6 eb6 eb' Cz wE f3 lW d1 d2 d3 d4 d5 d6 lO iT lX;go_upto_region 11 with(fail);obtain⟨eb,qC⟩:∃eb,eb=wc.heap.size:=⟨_,rfl⟩
     obtain⟨w2,eH⟩:∃w2,w2=wc.alloc (.cells #[.int .i64 v,.int .i64 i] 104):=⟨_,rfl⟩
     have nE:aa wc w2:=by rw[eH];exact ae _ (ad _)
     have HE:Hid (cC w2 eb #[.int .i64 v,.int .i64 i]):=by rw[qC,eH];exact cC.new _ _ _
     have aay:sb<eb:=by rw[qC];exact uJ
     rw[<- eH,<- qC];have g0:∀W,aa w2 W->W.cell? ⟨eb,0,none⟩=some (.int .i64 v):=ab (HE.out.cell 0 _ rfl).1;have g1:∀W,aa w2 W->W.cell? ⟨eb,1,none⟩=some (.int .i64 i):=ab (HE.out.cell 1 _ rfl).1;have l7:=aj (ab d7) nE;have l1:=aj (ab f1) nE;have l2:=aj (ab f2) nE;have WD:=aj (ab d0) nE;have l9:=aj (ab d9) nE;have qD:=zh nE;clear eH qC nE d0 d7 d8 d9 f1 f2 t1 t2 uJ;refine am 12 (aa w2) (by kernel_rfl) (by kernel_rfl) (by simp) (ag (ad _)) ?_;simp only[zT]
     iterate 12 (refine bF rfl ?_;simp only[zA])
     intro W3 ki;have m2:=aj l2 ki;have Nj:=aj WD ki;have On:=zh (aj l1 ki);have R8:=zh (aj l9 ki);have sV:=zh ki;have aaz:=zh Nj;clear g0 g1 l7 l1 l2 WD l9 ki;go_upto_region 12 with(fail)
     by_cases gb:x=p.labels-1
     ·have dj:(x==p.labels-1)=true:=by simpa using gb
      have lq:=zh gb;clear gb;refine am 10 (aa W3) (by kernel_rfl) (by kernel_rfl) (by simp) (ag (ad _)) ?_;simp only[zT]
      iterate 10 (refine bF rfl ?_;simp only[zA])
      intro W4 jT;have pU:=zh (qD.out.after (sV.out.after jT));obtain⟨y1,y2,y3,y4⟩:=(h_.out.1.ac8 pU.out.below).adh ch.out Hx.out (On.out W4 jT);obtain⟨n1,n2,n3⟩:=y4 (-1);have ym:=zh n1;have qE:=zh (fE.out.trans ((pU.out.below.mono (Nat.le_trans pS (Nat.le_of_lt h_.out.1.1.lt))).trans n2));have R9:=zh (Iy.out _ _ _ h_.out.2 ((aR.ac7 pU.out.below).trans n3));clear y4 n1 n2 n3 jT m2 Nj dj
      have rN:Hid (R=bW nx p n.ends ah most F s1 (dA l ((v:Int),(i:Int)) (-1)) ((q:Int)-1) st):=by show _=_;rw[rM.out,fD.out,if_pos lq.out]
      have wq:IntKind.i64.wrap ((q:Int)-1)=(q:Int)-1:=aE _ (by omega) (by omega)
      have pV:Hid (ap most ((q:Int)-1) st<M0/\ap most ((q:Int)-1) st<=F):=by have:=Ks.out;have:=wD.out;unfold ap at *;exact⟨by omega,by omega⟩
      by_cases kX:(q:Int)-1<0
      ·have jy:Hid (R=(s1,2,dA l ((v:Int),(i:Int)) (-1),(q:Int)-1,st)):=by show _=_;rw[rN.out,ir nx p n.ends ah most F s1 _ ((q:Int)-1) st dZ (by omega) pV.out.2,if_pos kX]
       go_wp2;go_ret;rw[jy.out];exact⟨rfl,ym.out,R9.out,qE.out⟩
      ·go_wp2;go_roundw
       case rel=>exact⟨s1,_,(q:Int)-1,st,by go_num,by omega,by omega,dw,dZ,⟨rN.out,pV.out.2⟩,⟨ym.out,R9.out⟩,⟨gC fZ.out.1 ch.out sZ,jR fZ.out.2 ch.out sZ ⟨by omega,by omega⟩⟩,qE.out⟩
       case measure=>
        rw[yl.out,cx (dk ym.out.1).2.2.2.2.2.2.2.2.2];exact pV.out.1
     ·have dj:(x==p.labels-1)=false:=by simpa using gb
      have lq:=zh gb;clear gb;refine am 10 (aa W3) (by kernel_rfl) (by kernel_rfl) (by simp) (ag (ad _)) ?_;simp only[zT]
      iterate 10 (refine bF rfl ?_;simp only[zA])
      intro W4 jT;have pU:=zh (qD.out.after (sV.out.after jT));obtain⟨y1,y2,y3,y4⟩:=(h_.out.1.ac8 pU.out.below).adh ch.out Hx.out (On.out W4 jT);have y9:=R8.out W4 jT;have R_:=zh (h_.out.1.ac8 pU.out.below);have Bx:=zh (HE.out.below (sV.out.after jT).below HE.out.lt);clear jT m2 Nj dj
      by_cases s5:st=most
      ·have Es:(st==most)=true:=by simpa using s5
       have jy:Hid (R=(s1,3,l,(q:Int),st)):=by show _=_;rw[rM.out,fD.out,if_neg lq.out,if_pos s5]
       clear s5 y1 y2 y3 y4;go_wp2;go_ret;rw[jy.out];exact⟨rfl,R_.out,Iy.out _ _ _ h_.out.2 (aR.ac7 pU.out.below),fE.out.trans (pU.out.below.mono (Nat.le_trans pS (Nat.le_of_lt h_.out.1.1.lt)))⟩
      ·have Es:(st==most)=false:=by simpa using s5
       have Ad:=zh s5;obtain⟨n1,n2,n3⟩:=y4 (x+1);obtain⟨m1,m2,m3⟩:=n1.field pS 9 (.int .i64 (st+1));have wx:IntKind.i64.wrap (x+1)=x+1:=aE _ (by omega) (by omega);have ws:IntKind.i64.wrap (st+1)=st+1:=aE _ (by omega) (by omega);obtain⟨W5,ke⟩:∃W5,W5=W4.setCell ⟨gr,i,none⟩ (.int .i64 (x+1)):=⟨_,rfl⟩
       rw[<- ke]at n1 n2 n3 m1 m2 m3;obtain⟨W6,Ae⟩:∃W6,W6=W5.setCell ⟨sb,9,none⟩ (.int .i64 (st+1)):=⟨_,rfl⟩
       rw[<- Ae]at m1 m2 m3
       have WE:Hid (cC W6 eb #[.int .i64 v,.int .i64 i]):=by
        rw[Ae,ke];exact(Bx.out.set (p:=⟨gr,i,none⟩) (show gr≠eb by omega)).set (p:=⟨sb,9,none⟩) (show sb≠eb by omega)
       have z9:=(n1.1.cell 9 (.int .i64 st) rfl).1;have zf:=(n1.1.cell 9 (.int .i64 st) rfl).2;have Nk:W4.cell? ⟨sb,9,none⟩=some (.int .i64 st):=y9;obtain⟨lp,wF⟩:∃lp,lp=dA l ((v:Int),(i:Int)) (x+1):=⟨_,rfl⟩
       rw[<- wF]at m1 n1;have Hlp:=zh wF;have nG:Hid (cj W6 sb (kw p (.slice A1 p.nodes.length c1) (.slice A2 p.ac3.length c2) (.slice A3 n.ends.length c3) (.slice A4 n.ids.length c4) (.slice A7 n.ac1.length c7) (.slice (some ⟨gl,0,none⟩) l0.length c5) (.slice (some ⟨b6,o6,none⟩) ah.length c6) (st+1)) lp ah (.slice (some ⟨gl,0,none⟩) l0.length c5) (.slice (some ⟨b6,o6,none⟩) ah.length c6) SL B):=m1;have Kt:=zh (fE.out.trans ((pU.out.below.mono (Nat.le_trans pS (Nat.le_of_lt h_.out.1.1.lt))).trans (n2.trans m2)));have HJ6:=zh (Iy.out _ _ _ h_.out.2 ((aR.ac7 pU.out.below).trans (n3.trans m3)))
       have Et:Hid (lp[v]?=some (row.set i (x+1))):=by show _=_;rw[wF];exact(jQ ch.out sZ).1
       have Eu:Hid (eC n.ends lp/\rK (p.labels-1) lp):=by rw[wF];exact⟨gC fZ.out.1 ch.out sZ,jR fZ.out.2 ch.out sZ ⟨by omega,by have:=lq.out;omega⟩⟩
       obtain⟨rp,Ev⟩:∃rp,rp=row.set i (x+1):=⟨_,rfl⟩
       have Ku:rp.length=row.length:=by rw[Ev,List.length_set]
       rw[<- Ev]at Et fD;rw[<- wF]at fD;have qw:=zh ke;have Sa:=zh Ae;clear wF Ev n1 n2 n3 m1 m2 m3 y3 y4 s5 ke Ae;go_upto_region 20 with(fail);rw[<- qw.out];clear y1 y2 y9 Nk;go_upto_region 21 with(fail);rw[<- Sa.out];clear z9 zf;obtain⟨d0,d1,d2,d3,d4,d5,d6,d7,d8,d9⟩:=dk nG.out.1;have a0:=ab d0;have a1:=ab d1;have a2:=ab d2;have a3:=ab d3;have a4:=ab d4;have a5:=ab d5;have a6:=ab d6;have a7:=ab d7;have g0:∀W,aa W6 W->W.cell? ⟨eb,0,none⟩=some (.int .i64 v):=ab (WE.out.cell 0 _ rfl).1;have g1:∀W,aa W6 W->W.cell? ⟨eb,1,none⟩=some (.int .i64 i):=ab (WE.out.cell 1 _ rfl).1;have xX:B<=W6.heap.size:=Nat.le_trans pS (Nat.le_of_lt nG.out.1.lt);have Ew:i<rp.length:=by omega
       clear d0 d1 d2 d3 d4 d5 d6 d7 d8 d9;refine am 30 (aa W6) (by kernel_rfl) (by kernel_rfl) (by simp) (ag (ad _)) ?_;simp only[zT]
       iterate 16 (refine bF rfl ?_;simp only[zA])
       refine cH ?_ rfl ?_ ?_;rotate_left;(intro W hW;unfold ba;go_simp;(with_reducible refine(jJ _ _ _ _ _ _ p n lp v i rp W (f5.out W (Kt.out.trans (hW.below.mono xX))) (iL.out W (Kt.out.trans (hW.below.mono xX))) (nG.out.ac8 hW.below).rows hn Eu.out.1 jP.out iI Et.out Ew).mono ?_);rintro e W' ⟨rfl,aG⟩;first | (refine⟨?_,aa.trans hW aG⟩;with_reducible rfl) | (subst aG;refine⟨?_,hW⟩;with_reducible rfl))
       simp only[zA]
       refine bF rfl ?_;simp only[zA]
       iterate 10 (refine gT rfl rfl ?_;simp only[zA])
       refine bv (v:=?_) rfl rfl ?_ ?_;rotate_left;(intro hb;intro W hW;unfold ba;go_simp;(with_reducible refine(jI _ _ _ p lp v rp W (f5.out W (Kt.out.trans (hW.below.mono xX))) (nG.out.ac8 hW.below).rows Et.out (by omega)).mono ?_);rintro e W' ⟨rfl,aG⟩;first | (refine⟨?_,aa.trans hW aG⟩;with_reducible rfl) | (subst aG;refine⟨?_,hW⟩;with_reducible rfl))
       simp only[zA]
       (first | refine eF rfl rfl ?_ | (refine bF rfl ?_));simp only[zA]
       intro W7 CA;have Oo:=zh (nG.out.ac8 CA.below);have By:=zh (Kt.out.trans (CA.below.mono xX));have WF:=zh (Iy.out _ _ _ HJ6.out (aR.ac7 CA.below));clear a0 a1 a2 a3 a4 a5 a6 a7 g0 g1 CA
       have pV:Hid ((ap most (q:Int) (st+1)<M0/\ap most (q:Int) (st+1)<=F)/\(ap most ((q:Int)+1) (st+1)<M0/\ap most ((q:Int)+1) (st+1)<=F)):=by have:=Ks.out;have:=wD.out;unfold ap at *;exact⟨⟨by omega,by omega⟩,⟨by omega,by omega⟩⟩
       have wq:IntKind.i64.wrap ((q:Int)+1)=(q:Int)+1:=aE _ (by omega) (by omega);cases hg:(fc p n.ends lp ((v:Int),(i:Int))&&dL p rp)
       ·have rN:Hid (R=bW nx p n.ends ah most F s1 lp q (st+1)):=by show _=_;rw[rM.out,fD.out,if_neg lq.out,if_neg Ad.out,if_neg (by rw[Bool.and_comm,hg];simp)]
        go_wp2;go_roundw
        case rel=>exact⟨s1,lp,q,st+1,rfl,by omega,by omega,by omega,by have:=Ad.out;omega,⟨rN.out,pV.out.1.2⟩,⟨Oo.out,WF.out⟩,Eu.out,By.out⟩
        case measure=>
         rw[yl.out,cx (dk Oo.out.1).2.2.2.2.2.2.2.2.2];exact pV.out.1.1
       ·have rN:Hid (R=bW nx p n.ends ah most F s1 lp ((q:Int)+1) (st+1)):=by show _=_;rw[rM.out,fD.out,if_neg lq.out,if_neg Ad.out,if_pos (by rw[Bool.and_comm,hg])]
        go_wp2;go_roundw
        case rel=>exact⟨s1,lp,(q:Int)+1,st+1,by go_num,by omega,by omega,by omega,by have:=Ad.out;omega,⟨rN.out,pV.out.2.2⟩,⟨Oo.out,WF.out⟩,Eu.out,By.out⟩
        case measure=>
         rw[yl.out,cx (dk Oo.out.1).2.2.2.2.2.2.2.2.2];exact pV.out.2.1
def uh (p:az) (ends:List (List (Int×Int))) (ah:List (Int×Int)) (most:Int) (fr:Bool) (l:List (List Int)) (i st:Int):FX:=
 if fr=true then (if dS p ends l=true then ft p ends ah most (ap most i st) l i st else (2,l,i,st)) else ft p ends ah most (ap most i st) l (i-1) st
theorem zj (p:az) (n:aw) (pa pb va vb vc ul uf:Value) (sb:Nat) (SL:List Nat) (B:Nat) (ah:List (Int×Int)) (most i0 lu:Int) (fr:Bool) (l0:List (List Int)) (w:World) (pS:B<=sb)
  (wu:∀X,Below B w X->di X pa pb p) (sY:∀X,Below B w X->aU X va vb vc n)
  (hS:cj w sb (jv p pa pb va vb vc ul uf i0 lu most fr) l0 ah ul uf SL B) (hn:aW n=true) (ct:dR p.ac3) (iI:p.ac3.length<=1048576) (fv:1<=p.labels/\p.labels<=8) (eJ:eC n.ends l0) (dH:rK (p.labels-1) l0) (nq:mX n.ends ah) (z8:ah.length<=1000) (pT:0<=most/\most<=200000)
  (hi0:0<=i0/\i0<=ah.length) (bu:0<=lu/\lu<=most)
  (mW:∀(v:Nat) (es:List (Int×Int)),n.ends[v]?=some es->es.length<=6):
  Calls Tryz.prog 41 #[.pointer (some ⟨sb,0,none⟩)] w fun e w'=>
   e=.returned (.int .i64 (uh p n.ends ah most fr l0 i0 lu).1)/\cj w' sb (jv p pa pb va vb vc ul uf (uh p n.ends ah most fr l0 i0 lu).2.2.1 (uh p n.ends ah most fr l0 i0 lu).2.2.2 most false) (uh p n.ends ah most fr l0 i0 lu).2.1 ah ul uf SL B /\
    (eC n.ends (uh p n.ends ah most fr l0 i0 lu).2.1/\rK (p.labels-1) (uh p n.ends ah most fr l0 i0 lu).2.1)/\Below B w w':=by
 have zd:B<=w.heap.size:=Nat.le_trans pS (Nat.le_of_lt hS.1.lt);obtain⟨A5,c5,Bw,-⟩:=id hS.2.1.read;obtain⟨TE,Ko⟩:=hS.2.2.2;obtain⟨A6,c6,Om,-,-,-⟩:=ou Ko;obtain⟨A1,c1,Ni,-⟩:=id (wu w (Below.refl _ _)).1;obtain⟨A2,c2,da,-⟩:=id (wu w (Below.refl _ _)).2;obtain⟨A3,c3,RZ,-⟩:=id (sY w (Below.refl _ _)).1;obtain⟨A4,c4,R3,-⟩:=id (sY w (Below.refl _ _)).2.1;obtain⟨A7,c7,R4,-⟩:=id (sY w (Below.refl _ _)).2.2;subst Bw Om Ni da RZ R3 R4;have R5:IntKind.i64.wrap (p.labels-1)=p.labels-1:=aE _ (by omega) (by omega);have f5:=zh wu;have iL:=zh sY;have HS:=zh hS;have jP:=zh ct;have fU:=zh eJ;have kp:=zh dH;have nr:=zh nq;have Bv:=zh mW
 have nD:Hid (∀(v:Nat) (row:List Int),l0[v]?=some row->row.length<=1000000):=fun v row hv=>by
  obtain⟨es,ca⟩:=ay n.ends v (by rw[<- eJ.1];exact al hv)
  have:=eJ.2 v es row ca hv
  have:=mW v es ca
  omega
 obtain⟨d0,d1,d2,d3,d4,d5,d6,d7,d8,d9,tG,CC,Af⟩:=cn hS.1;have f9:=(hS.1.cell 9 (.int .i64 i0) rfl).2;have WG:=(hS.1.cell 12 (.bool fr) rfl).2;clear wu sY hS ct eJ dH nq mW Ko;obtain⟨R,hR⟩:∃R,uh p n.ends ah most fr l0 i0 lu=R:=⟨_,rfl⟩
 have HR:=zh hR;rw[hR];clear hR;obtain⟨F,hF⟩:∃F,F=ap most i0 lu:=⟨_,rfl⟩
 have HF:=zh hF;clear hF
 go_enter Tryz.func41,Tryz.ntmps41
 go_upto_if 8 with(fail)
 go_cut [0]from 5 to 32 (fun a wx=>a=.pointer (some ⟨sb,0,none⟩)/\∃(aO:Int),-1<=aO/\aO<=ah.length/\(R=ft p n.ends ah most F l0 aO lu/\ap most aO lu<=F)/\cj wx sb (jv p (.slice A1 p.nodes.length c1) (.slice A2 p.ac3.length c2) (.slice A3 n.ends.length c3) (.slice A4 n.ids.length c4) (.slice A7 n.ac1.length c7) (.slice A5 l0.length c5) (.slice A6 ah.length c6) aO lu most false) l0 ah (.slice A5 l0.length c5) (.slice A6 ah.length c6) SL B/\Below B w wx)
 case first=>
  cases fr
  ·obtain⟨m1,m2,m3⟩:=HS.out.field pS 9 (.int .i64 (i0-1));have nG:Hid (cj (w.setCell ⟨sb,9,none⟩ (.int .i64 (i0-1))) sb (jv p (.slice A1 p.nodes.length c1) (.slice A2 p.ac3.length c2) (.slice A3 n.ends.length c3) (.slice A4 n.ids.length c4) (.slice A7 n.ac1.length c7) (.slice A5 l0.length c5) (.slice A6 ah.length c6) (i0-1) lu most false) l0 ah (.slice A5 l0.length c5) (.slice A6 ah.length c6) SL B):=m1;have Kv:=zh m2;have wi:IntKind.i64.wrap (i0-1)=i0-1:=aE _ (by omega) (by omega)
   have z_:Hid (R=ft p n.ends ah most F l0 (i0-1) lu):=by show _=_;rw[<- HR.out,HF.out];unfold uh;rw[if_neg (by simp)]
   have Sb:Hid (ap most (i0-1) lu<=F):=by show _<=_;rw[HF.out];unfold ap;omega
   clear m1 m2 m3;go_wp2;go_meet
   case rel=>exact⟨rfl,i0-1,by omega,by omega,⟨z_.out,Sb.out⟩,nG.out,Kv.out⟩
  ·obtain⟨m1,m2,m3⟩:=HS.out.field pS 12 (.bool false);obtain⟨W1,js⟩:∃W1,W1=w.setCell ⟨sb,12,none⟩ (.bool false):=⟨_,rfl⟩
   rw[<- js]at m1 m2 m3;have nG:Hid (cj W1 sb (jv p (.slice A1 p.nodes.length c1) (.slice A2 p.ac3.length c2) (.slice A3 n.ends.length c3) (.slice A4 n.ids.length c4) (.slice A7 n.ac1.length c7) (.slice A5 l0.length c5) (.slice A6 ah.length c6) i0 lu most false) l0 ah (.slice A5 l0.length c5) (.slice A6 ah.length c6) SL B):=m1;have Kv:=zh m2;have Wo:=zh js;clear m1 m2 m3 js;go_upto_region 3 with(fail);rw[<- Wo.out];clear d0 d1 d2 d3 d4 d5 d6 d7 d8 d9 tG CC Af f9 WG;obtain⟨d0,d1,d2,d3,d4,d5,d6,d7,-⟩:=cn nG.out.1;have a0:=ab d0;have a1:=ab d1;have a2:=ab d2;have a3:=ab d3;have a4:=ab d4;have a5:=ab d5;have a6:=ab d6;have a7:=ab d7;clear d0 d1 d2 d3 d4 d5 d6 d7;have xX:B<=W1.heap.size:=Nat.le_trans pS (Nat.le_of_lt nG.out.1.lt);refine am 14 (aa W1) (by kernel_rfl) (by kernel_rfl) (by simp) (ag (ad _)) ?_;simp only[zT]
   iterate 12 (refine bF rfl ?_;simp only[zA])
   refine cH ?_ rfl ?_ ?_;rotate_left;(intro W hW;unfold ba;go_simp;(with_reducible refine(tF _ _ _ _ _ _ p n l0 W (f5.out W (Kv.out.trans (hW.below.mono xX))) (iL.out W (Kv.out.trans (hW.below.mono xX))) (nG.out.ac8 hW.below).rows hn fU.out jP.out iI nD.out).mono ?_);rintro e W' ⟨rfl,aG⟩;first | (refine⟨?_,aa.trans hW aG⟩;with_reducible rfl) | (subst aG;refine⟨?_,hW⟩;with_reducible rfl))
   simp only[zA]
   refine bF rfl ?_;simp only[zA]
   intro W2 gm;have WH:=zh (nG.out.ac8 gm.below);have xV:=zh (Kv.out.trans (gm.below.mono xX));clear a0 a1 a2 a3 a4 a5 a6 a7 gm;cases hg:dS p n.ends l0
   ·have z_:Hid (R=(2,l0,i0,lu)):=by show _=_;rw[<- HR.out];unfold uh;rw[if_pos rfl,if_neg (by rw[hg];simp)]
    go_wp2;go_ret;rw[z_.out];exact⟨rfl,WH.out,⟨fU.out,kp.out⟩,xV.out⟩
   ·have z_:Hid (R=ft p n.ends ah most F l0 i0 lu):=by show _=_;rw[<- HR.out,HF.out];unfold uh;rw[if_pos rfl,if_pos hg]
    have Sb:Hid (ap most i0 lu<=F):=by show _<=_;rw[HF.out];exact Nat.le_refl _
    go_wp2;go_meet
    case rel=>exact⟨rfl,i0,by omega,by omega,⟨z_.out,Sb.out⟩,WH.out,xV.out⟩
 case rest=>
  obtain⟨rfl,Sc,lC,sG,it,fp,hb⟩:=hcut;have Sd:=zh it;have Kw:=zh fp;have bQ:=zh hb;clear it fp hb d0 d1 d2 d3 d4 d5 d6 d7 d8 d9 tG CC Af f9 WG;go_wp2
  go_loopw [3] (fun _ wr=>∃(l:List (List Int)) (aO st:Int),-1<=aO/\aO<=ah.length/\0<=st/\st<=most/\(R=ft p n.ends ah most F l aO st/\ap most aO st<=F)/\cj wr sb (jv p (.slice A1 p.nodes.length c1) (.slice A2 p.ac3.length c2) (.slice A3 n.ends.length c3) (.slice A4 n.ids.length c4) (.slice A7 n.ac1.length c7) (.slice A5 l0.length c5) (.slice A6 ah.length c6) aO st most false) l ah (.slice A5 l0.length c5) (.slice A6 ah.length c6) SL B/\(eC n.ends l/\rK (p.labels-1) l)/\Below B w wr) (fun _ wr=>ap most (jS wr sb 9) (jS wr sb 10))
  case atStart=>exact⟨l0,Sc,lu,lC,sG,bu.1,bu.2,Sd.out,Kw.out,⟨fU.out,kp.out⟩,bQ.out⟩
  case round=>
   obtain⟨l,aO,st,iT,lX,dw,dZ,it,fp,hinv,hb⟩:=hrel;have rM:=zh it.1;have wD:=zh it.2;have h_:=zh fp;have fZ:=zh hinv;have fE:=zh hb;obtain⟨d0,d1,d2,d3,d4,d5,d6,d7,d8,d9,tG,CC,Af⟩:=cn fp.1
   have wv:Hid (l0.length=l.length):=by show _=_;have h1:=fp.rows;obtain⟨_,_,e,-⟩:=h1;simp only[Value.slice.injEq]at e;exact e.2.1
   obtain⟨M0,ww⟩:∃z,ap most (jS wr sb 9) (jS wr sb 10)=z:=⟨_,rfl⟩
   have yl:=zh ww
   have Ab:Hid (ap most aO st=M0):=by show _=_;rw[<- ww,cx d9,cx tG]
   clear it fp hinv hb ww lC sG;have Oq:B<=wr.heap.size:=Nat.le_trans pS (Nat.le_of_lt h_.out.1.lt)
   by_cases lO:aO<0
   ·have jy:Hid (R=(2,l,aO,st)):=by show _=_;rw[rM.out,mi p n.ends ah most F l aO st dZ iT wD.out,if_pos lO]
    go_wp2;go_ret;rw[jy.out];exact⟨rfl,h_.out,fZ.out,fE.out⟩
   ·obtain⟨q,rfl⟩:=Int.eq_ofNat_of_zero_le (show 0<=aO by omega)
    have a0:=ab d0;have a7:=ab d7;have a8:=ab d8;have a9:=ab d9;have Se:=ab tG;have Sf:=ab CC;have Vc:((q:Int)<0)=False:=by simp
    clear d0 d1 d2 d3 d4 d5 d6 d7 d8 tG CC Af lO;go_upto_region 8 with(fail);clear d9
    by_cases dQ:(q:Int)=ah.length
    ·have fH:((q:Int)==(ah.length:Int))=true:=by simpa using dQ
     have jy:Hid (R=(1,l,(q:Int),st)):=by show _=_;rw[rM.out,mi p n.ends ah most F l q st dZ iT wD.out,if_neg (by omega),if_pos dQ]
     clear dQ;refine am 10 (aa wr) (by kernel_rfl) (by kernel_rfl) (by simp) (ag (ad _)) ?_;simp only[zT]
     iterate 10 (refine bF rfl ?_;simp only[zA])
     intro W2 gm;have pl:=zh gm;clear gm a0 a7 a8 a9 Se Sf;go_wp2;go_ret;rw[jy.out];exact⟨rfl,h_.out.ac8 pl.out.below,fZ.out,fE.out.trans (pl.out.below.mono Oq)⟩
    ·have fH:((q:Int)==(ah.length:Int))=false:=by simpa using dQ
     have zi:q<ah.length:=by omega
     clear dQ;refine am 10 (aa wr) (by kernel_rfl) (by kernel_rfl) (by simp) (ag (ad _)) ?_;simp only[zT]
     iterate 10 (refine bF rfl ?_;simp only[zA])
     intro W2 gm;obtain⟨e,he⟩:=ay ah q zi;obtain⟨v,i,es,rfl,ca,Od⟩:=nr.out q e he
     have lW:v<l.length:=by rw[fZ.out.1.1];exact al ca
     obtain⟨row,aD⟩:=ay l v lW;have xT:=fZ.out.1.2 v es row ca aD;have mW:=Bv.out v es ca;have sZ:i<row.length:=by omega
     have Cw:row.length<=6:=by omega
     obtain⟨x,hx⟩:=ay row i sZ;have uQ:=fZ.out.2 v row i x aD hx;have fD:=zh (F9 p n.ends ah most F he aD hx dZ wD.out);obtain⟨gl,cl,gr,cr,e5,f1,f2,f3,f4,-⟩:=h_.out.label aD hx
     injection e5 with ea eb' ec
     subst ea ec;obtain⟨TE1,wE⟩:=h_.out.2.2.2;obtain⟨A6',Js,e6,-,-,Cz⟩:=ou wE;obtain⟨b6,o6,e7,t1,t2⟩:=Cz q _ he
     injection e6 with ea6 eb6 ec6
     subst ec6;rw[<- ea6]at e7;subst e7
     have G_:v<l0.length:=by rw[wv.out];exact lW
     have Vb:gr<sb:=h_.out.2.2.1 gr f4;have ch:=zh aD;have Hx:=zh hx;have b1:=aj (ab t1) gm;have b2:=aj (ab t2) gm;have b0:=aj a0 gm;have b7:=aj a7 gm;have b8:=aj a8 gm;have b9:=aj a9 gm;have qF:=aj Se gm;have WI:=aj Sf gm;have g1:=aj (ab f1) gm;have g2:=aj (ab f2) gm;have pl:=zh gm;clear he ca Od aD hx xT ea6 eb6 eb' Cz wE f1 f2 f3 t1 t2 lW a0 a7 a8 a9 Se Sf gm iT lX;go_upto_region 10 with(fail);refine am 24 (aa W2) (by kernel_rfl) (by kernel_rfl) (by simp) (ag (ad _)) ?_;simp only[zT]
     iterate 24 (refine bF rfl ?_;simp only[zA])
     intro W3 ki;have j0:=aj b0 ki;have j7:=aj b7 ki;have j9:=aj b9 ki;have Sg:=aj qF ki;have Sh:=aj WI ki;have h1:=aj g1 ki;have h2:=aj g2 ki;have sV:=zh (pl.out.after ki);clear b0 b1 b2 b7 b8 b9 qF WI g1 g2 ki;go_upto_region 11 with(fail)
     by_cases gb:x=p.labels-1
     ·have dj:(x==p.labels-1)=true:=by simpa using gb
      have lq:=zh gb;clear gb;refine am 17 (aa W3) (by kernel_rfl) (by kernel_rfl) (by simp) (ag (ad _)) ?_;simp only[zT]
      iterate 17 (refine bF rfl ?_;simp only[zA])
      intro W4 jT;have pU:=zh (sV.out.after jT);have z7:=j7 W4 jT;have z1:=h1 W4 jT;obtain⟨y1,y2,y3,y4⟩:=(h_.out.ac8 pU.out.below).adh ch.out Hx.out (h1 W4 jT);obtain⟨n1,n2,n3⟩:=y4 (-1);obtain⟨m1,m2,m3⟩:=n1.field pS 9 (.int .i64 ((q:Int)-1));have z9:=(n1.1.cell 9 (.int .i64 (q:Int)) rfl).1;have zf:=(n1.1.cell 9 (.int .i64 (q:Int)) rfl).2;have ym:Hid (cj _ sb (jv p (.slice A1 p.nodes.length c1) (.slice A2 p.ac3.length c2) (.slice A3 n.ends.length c3) (.slice A4 n.ids.length c4) (.slice A7 n.ac1.length c7) (.slice (some ⟨gl,0,none⟩) l0.length c5) (.slice (some ⟨b6,o6,none⟩) ah.length c6) ((q:Int)-1) st most false) _ ah _ _ SL B):=m1;have qE:=zh (fE.out.trans ((pU.out.below.mono Oq).trans (n2.trans m2)));obtain⟨W5,ke⟩:∃W5,W5=W4.setCell ⟨gr,i,none⟩ (.int .i64 (-1)):=⟨_,rfl⟩
      rw[<- ke]at ym qE z9 zf;have qw:=zh ke;clear y3 y4 n1 n2 n3 m1 m2 m3 jT j0 j7 j9 Sg Sh h1 h2 dj ke
      have rN:Hid (R=ft p n.ends ah most F (dA l ((v:Int),(i:Int)) (-1)) ((q:Int)-1) st):=by show _=_;rw[rM.out,fD.out,if_pos lq.out]
      have wq:IntKind.i64.wrap ((q:Int)-1)=(q:Int)-1:=aE _ (by omega) (by omega)
      have pV:Hid (ap most ((q:Int)-1) st<M0/\ap most ((q:Int)-1) st<=F):=by have:=Ab.out;have:=wD.out;unfold ap at *;exact⟨by omega,by omega⟩
      go_upto_region 13 with(fail);rw[<- qw.out];clear z7 z1 y1 y2;go_wp2;go_roundw
      case rel=>exact⟨_,(q:Int)-1,st,by omega,by omega,dw,dZ,⟨rN.out,pV.out.2⟩,ym.out,⟨gC fZ.out.1 ch.out sZ,jR fZ.out.2 ch.out sZ ⟨by omega,by omega⟩⟩,qE.out⟩
      case measure=>
       have hc:=cn ym.out.1;rw[yl.out,cx hc.2.2.2.2.2.2.2.2.2.1,cx hc.2.2.2.2.2.2.2.2.2.2.1];exact pV.out.1
     ·have dj:(x==p.labels-1)=false:=by simpa using gb
      have lq:=zh gb;clear gb;refine am 17 (aa W3) (by kernel_rfl) (by kernel_rfl) (by simp) (ag (ad _)) ?_;simp only[zT]
      iterate 17 (refine bF rfl ?_;simp only[zA])
      intro W4 jT;have k7:=aj j7 jT;have k1:=aj h1 jT;have WJ:=aj Sg jT;have WK:=aj Sh jT;have pU:=zh (sV.out.after jT);clear j0 j7 j9 Sg Sh h1 h2 jT dj;go_upto_region 14 with(fail)
      by_cases s5:st=most
      ·have Es:(st==most)=true:=by simpa using s5
       have jy:Hid (R=(3,l,(q:Int),st)):=by show _=_;rw[rM.out,fD.out,if_neg lq.out,if_pos s5]
       clear s5;refine am 9 (aa W4) (by kernel_rfl) (by kernel_rfl) (by simp) (ag (ad _)) ?_;simp only[zT]
       iterate 9 (refine bF rfl ?_;simp only[zA])
       intro W5 ke;have qw:=zh (pU.out.after ke);clear ke k7 k1 WJ WK;go_wp2;go_ret;rw[jy.out];exact⟨rfl,h_.out.ac8 qw.out.below,fZ.out,fE.out.trans (qw.out.below.mono Oq)⟩
      ·have Es:(st==most)=false:=by simpa using s5
       have Ad:=zh s5;clear s5;refine am 9 (aa W4) (by kernel_rfl) (by kernel_rfl) (by simp) (ag (ad _)) ?_;simp only[zT]
       iterate 9 (refine bF rfl ?_;simp only[zA])
       intro W5 ke;have qw:=zh (pU.out.after ke);have Iz:=h_.out.ac8 qw.out.below;obtain⟨m1,m2,m3⟩:=Iz.field pS 10 (.int .i64 (st+1));have WL:=(Iz.1.cell 10 (.int .i64 st) rfl).1;have Si:=(Iz.1.cell 10 (.int .i64 st) rfl).2;obtain⟨W6,Ae⟩:∃W6,W6=W5.setCell ⟨sb,10,none⟩ (.int .i64 (st+1)):=⟨_,rfl⟩
       rw[<- Ae]at m1 m2 m3;have Kx:=k1 W5 ke;obtain⟨gg,Ru⟩:∃g,g=gl:=⟨_,rfl⟩
       have Ky:W6.cell? ⟨gl,v,none⟩=some (.slice (some ⟨gr,0,none⟩) row.length cr):=by
        rw[Ae]
        have yJ:gl≠sb:=by
         have h1:=Iz.2.1;have h2:=Iz.2.2.1;intro e;obtain⟨vs',Ss,r1,-,-,r4,-⟩:=h1
         have:=h2 gl (by rw[r4];simp[Value.ownBlock])
         omega
        exact(World.cell?_of_block (Below.heap_setCell _ _ _ gl yJ)).trans Kx
       obtain⟨y1,y2,y3,y4⟩:=m1.adh ch.out Hx.out Ky;obtain⟨n1,n2,n3⟩:=y4 (x+1);have z7:=(m1.1.cell 7 (.slice (some ⟨gl,0,none⟩) l0.length c5) rfl).1;obtain⟨W7,CA⟩:∃W7,W7=W6.setCell ⟨gr,i,none⟩ (.int .i64 (x+1)):=⟨_,rfl⟩
       rw[<- CA]at n1 n2 n3;have wx:IntKind.i64.wrap (x+1)=x+1:=aE _ (by omega) (by omega);have ws:IntKind.i64.wrap (st+1)=st+1:=aE _ (by omega) (by omega);obtain⟨lp,wF⟩:∃lp,lp=dA l ((v:Int),(i:Int)) (x+1):=⟨_,rfl⟩
       rw[<- wF]at n1 fD;have nG:Hid (cj W7 sb (jv p (.slice A1 p.nodes.length c1) (.slice A2 p.ac3.length c2) (.slice A3 n.ends.length c3) (.slice A4 n.ids.length c4) (.slice A7 n.ac1.length c7) (.slice (some ⟨gl,0,none⟩) l0.length c5) (.slice (some ⟨b6,o6,none⟩) ah.length c6) (q:Int) (st+1) most false) lp ah (.slice (some ⟨gl,0,none⟩) l0.length c5) (.slice (some ⟨b6,o6,none⟩) ah.length c6) SL B):=n1;have By:=zh (fE.out.trans ((qw.out.below.mono Oq).trans (m2.trans n2)))
       have Et:Hid (lp[v]?=some (row.set i (x+1))):=by show _=_;rw[wF];exact(jQ ch.out sZ).1
       have Eu:Hid (eC n.ends lp/\rK (p.labels-1) lp):=by rw[wF];exact⟨gC fZ.out.1 ch.out sZ,jR fZ.out.2 ch.out sZ ⟨by omega,by have:=lq.out;omega⟩⟩
       obtain⟨rp,Ev⟩:∃rp,rp=row.set i (x+1):=⟨_,rfl⟩
       have Ku:rp.length=row.length:=by rw[Ev,List.length_set]
       rw[<- Ev]at Et fD;have Ew:i<rp.length:=by omega
       have Sj:rp.length<=1000000:=by omega
       have Sa:=zh Ae;have Nl:=zh CA;clear wF Ev n1 n2 n3 m1 m2 m3 y3 y4 Ae CA Iz Kx ke k7 k1 WJ WK Ru gg Es Ku;go_upto_region 17 with(fail);rw[<- Sa.out];clear WL Si;go_upto_region 18 with(fail);rw[<- Nl.out];clear z7 y1 y2 Ky;obtain⟨d0,d1,d2,d3,d4,d5,d6,d7,-⟩:=cn nG.out.1;have a0:=ab d0;have a1:=ab d1;have a2:=ab d2;have a3:=ab d3;have a4:=ab d4;have a5:=ab d5;have a6:=ab d6;have a7:=ab d7;have Ot:B<=W7.heap.size:=Nat.le_trans pS (Nat.le_of_lt nG.out.1.lt);obtain⟨b8,o8,u8,zk,Nn,Sk⟩:=nG.out.rowAt Et.out
       injection zk with zk
       injection zk with hA8a hA8b
       subst hA8a hA8b;obtain⟨A9,z9',rfl,aaA,aaB,-⟩:=id Sk;rw[Nat.zero_add]at Nn;have a8:=ab Nn;have Kz:Hid (∀X,aa W7 X->bO X (.slice A9 rp.length z9') rp):=fun X hX=>Sk.ac2 hX.below
       clear d0 d1 d2 d3 d4 d5 d6 d7 Nn Sk;refine am 29 (aa W7) (by kernel_rfl) (by kernel_rfl) (by simp) (ag (ad _)) ?_;simp only[zT]
       iterate 11 (refine bF rfl ?_;simp only[zA])
       refine cH ?_ rfl ?_ ?_;rotate_left;(intro W hW;unfold ba;go_simp;(with_reducible refine(mN _ _ _ p rp W (f5.out W (By.out.trans (hW.below.mono Ot))) (Kz.out W hW) Sj).mono ?_);rintro e W' ⟨rfl,aG⟩;first | (refine⟨?_,aa.trans hW aG⟩;with_reducible rfl) | (subst aG;refine⟨?_,hW⟩;with_reducible rfl))
       simp only[zA]
       refine bF rfl ?_;simp only[zA]
       iterate 14 (refine gT rfl rfl ?_;simp only[zA])
       refine bv (v:=?_) rfl rfl ?_ ?_;rotate_left;(intro hb;intro W hW;unfold ba;go_simp;(with_reducible refine(mT _ _ _ _ _ _ p n lp v i rp W (f5.out W (By.out.trans (hW.below.mono Ot))) (iL.out W (By.out.trans (hW.below.mono Ot))) (nG.out.ac8 hW.below).rows hn Eu.out.1 jP.out iI Et.out Ew).mono ?_);rintro e W' ⟨rfl,aG⟩;first | (refine⟨?_,aa.trans hW aG⟩;with_reducible rfl) | (subst aG;refine⟨?_,hW⟩;with_reducible rfl))
       simp only[zA]
       (first | refine eF rfl rfl ?_ | (refine bF rfl ?_));simp only[zA]
       intro W8 Sl;have Ga:=zh (nG.out.ac8 Sl.below);have WM:=zh (By.out.trans (Sl.below.mono Ot));clear a0 a1 a2 a3 a4 a5 a6 a7 a8 Sl
       have pV:Hid ((ap most (q:Int) (st+1)<M0/\ap most (q:Int) (st+1)<=F)/\(ap most ((q:Int)+1) (st+1)<M0/\ap most ((q:Int)+1) (st+1)<=F)):=by have:=Ab.out;have:=wD.out;unfold ap at *;exact⟨⟨by omega,by omega⟩,⟨by omega,by omega⟩⟩
       cases hg:(dL p rp&&fc p n.ends lp ((v:Int),(i:Int)))
       ·have rN:Hid (R=ft p n.ends ah most F lp q (st+1)):=by show _=_;rw[rM.out,fD.out,if_neg lq.out,if_neg Ad.out,if_neg (by rw[hg];simp)]
        go_wp2;go_roundw
        case rel=>exact⟨lp,q,st+1,by omega,by omega,by omega,by have:=Ad.out;omega,⟨rN.out,pV.out.1.2⟩,Ga.out,Eu.out,WM.out⟩
        case measure=>
         have hc:=cn Ga.out.1;rw[yl.out,cx hc.2.2.2.2.2.2.2.2.2.1,cx hc.2.2.2.2.2.2.2.2.2.2.1];exact pV.out.1.1
       ·have rN:Hid (R=ft p n.ends ah most F lp ((q:Int)+1) (st+1)):=by show _=_;rw[rM.out,fD.out,if_neg lq.out,if_neg Ad.out,if_pos hg]
        have wq:IntKind.i64.wrap ((q:Int)+1)=(q:Int)+1:=aE _ (by omega) (by omega);obtain⟨m1,m2,m3⟩:=Ga.out.field pS 9 (.int .i64 ((q:Int)+1));have z9:=(Ga.out.1.cell 9 (.int .i64 (q:Int)) rfl).1;have zf:=(Ga.out.1.cell 9 (.int .i64 (q:Int)) rfl).2;have ym:Hid (cj (W8.setCell ⟨sb,9,none⟩ (.int .i64 ((q:Int)+1))) sb (jv p (.slice A1 p.nodes.length c1) (.slice A2 p.ac3.length c2) (.slice A3 n.ends.length c3) (.slice A4 n.ids.length c4) (.slice A7 n.ac1.length c7) (.slice (some ⟨gl,0,none⟩) l0.length c5) (.slice (some ⟨b6,o6,none⟩) ah.length c6) ((q:Int)+1) (st+1) most false) lp ah (.slice (some ⟨gl,0,none⟩) l0.length c5) (.slice (some ⟨b6,o6,none⟩) ah.length c6) SL B):=m1;have qE:=zh (WM.out.trans m2);clear m1 m2 m3;go_wp2;go_roundw
        case rel=>exact⟨lp,(q:Int)+1,st+1,by omega,by omega,by omega,by have:=Ad.out;omega,⟨rN.out,pV.out.2.2⟩,ym.out,Eu.out,qE.out⟩
        case measure=>
         have hc:=cn ym.out.1;rw[yl.out,cx hc.2.2.2.2.2.2.2.2.2.1,cx hc.2.2.2.2.2.2.2.2.2.2.1];exact pV.out.2.1
def Qp {σ:Type} (nx:σ->List (List Int)->Bool×σ) (p:az) (ends:List (List (Int×Int))) (ah:List (Int×Int)) (most:Int) (fr:Bool) (s:σ) (l:List (List Int)) (aO st:Int):σ×FX:=
 if fr=true then (if dS p ends l=true then bW nx p ends ah most (ap most aO st) s l aO st else (s,2,l,aO,st)) else bW nx p ends ah most (ap most aO st) s l (aO-1) st
theorem wG {σ:Type} (nx:σ->List (List Int)->Bool×σ) (p:az) (ends:List (List (Int×Int))) (ah:List (Int×Int)) (most:Int) (fr:Bool) (s:σ) (l:List (List Int)) (aO st:Int) (hp:0<=aO) (sG:aO<=ah.length) (ct:st<=most) (r:FX) (hr:uh p ends ah most fr l aO st=r):
  Qp nx p ends ah most fr s l aO st=(if r.1=1 then (if (nx s r.2.1).1=true then Qp nx p ends ah most false (nx s r.2.1).2 r.2.1 r.2.2.1 r.2.2.2 else ((nx s r.2.1).2,r)) else (s,r)) /\
   (r.1=1->r.2.2.1=ah.length/\st<=r.2.2.2/\r.2.2.2<=most/\ap most r.2.2.1 r.2.2.2+(if fr=true then 0 else 1)<=ap most aO st)/\(r.1=1\/r.1=2\/r.1=3):=by
 unfold Qp uh at *
 cases fr
 ·rw[if_neg (by simp)]at hr ⊢
  have hf:ap most (aO-1) st<=ap most aO st:=by unfold ap;omega
  have hg:=rv nx p ends ah most (ap most aO st) (ap most aO st) s l (aO-1) st ct (by omega) (by omega) hf hf;have he:=vI p ends ah most (ap most aO st) l (aO-1) st ct (by omega) (by omega) hf;rw[hr]at hg he;obtain⟨e1,e2,e3,e4,e5,e6,e7⟩:=he;refine⟨?_,fun h1=>⟨e6 h1,e4,e1,?_⟩,e7⟩
  ·rw[hg];simp only[Bool.false_eq_true,if_false]
   by_cases h1:r.1=1
   ·have h6:=e6 h1;rw[if_pos h1,if_pos h1]
    split
    ·exact mG nx p ends ah most _ _ _ _ _ _ e1 (by omega) (by unfold ap at *;omega) (by unfold ap at *;omega)
    ·rfl
   ·rw[if_neg h1,if_neg h1]
  ·have h6:=e6 h1;simp only[Bool.false_eq_true,if_false]
   unfold ap at *;omega
 ·rw[if_pos rfl]at hr ⊢
  by_cases hh:dS p ends l=true
  ·rw[if_pos hh]at hr ⊢;have hg:=rv nx p ends ah most (ap most aO st) (ap most aO st) s l aO st ct (by omega) sG (Nat.le_refl _) (Nat.le_refl _);have he:=vI p ends ah most (ap most aO st) l aO st ct (by omega) sG (Nat.le_refl _);rw[hr]at hg he;obtain⟨e1,e2,e3,e4,e5,e6,e7⟩:=he;refine⟨?_,fun h1=>⟨e6 h1,e4,e1,by simpa using e5⟩,e7⟩
   rw[hg]
   by_cases h1:r.1=1
   ·have h6:=e6 h1;rw[if_pos h1,if_pos h1]
    split
    ·rw[if_neg (by simp)]
     exact mG nx p ends ah most _ _ _ _ _ _ e1 (by omega) (by unfold ap at *;omega) (by unfold ap at *;omega)
    ·rfl
   ·rw[if_neg h1,if_neg h1]
  ·rw[if_neg hh]at hr ⊢;subst hr;exact⟨by simp,fun h1=>by simp at h1,.inr (.inl rfl)⟩
theorem WN {σ:Type} (nx:σ->List (List Int)->Bool×σ) (p:az) (ends:List (List (Int×Int))) (ah:List (Int×Int)) (most:Int) (s:σ) (l:List (List Int)):su nx p ends ah most s l=Qp nx p ends ah most true s l 0 0:=rfl
theorem fw {n:aw}:eC n.ends (ef n):=by
 refine⟨mm n,fun v es row ca hr=>?_⟩
 rw[sW ca]at hr;cases hr;simp
theorem ov {n:aw} {hi:Int} (h : -1<=hi):rK hi (ef n):=by
 intro v row i x hv hx;unfold ef at hv;rw[List.getElem?_map]at hv
 cases he:n.ends[v]? with
 | none=>rw[he]at hv;cases hv
 | some es=>
  rw[he]at hv;cases hv
  have:=List.mem_of_getElem? hx
  obtain⟨-,rfl⟩:=List.mem_replicate.1 this;omega
theorem gD {n:aw} (h:aW n=true):n.ends.length<=40/\∀(v:Nat) (es:List (Int×Int)),n.ends[v]?=some es->es.length<=6:=by
 have h':=h;unfold aW at h;simp only[Bool.and_eq_true,List.all_eq_true,aL]at h;refine⟨by omega,fun v es ca=>?_⟩
 have:=h.2 v (List.mem_range.2 (al ca))
 rw[ak ca]at this;unfold gA at this;simp only[Bool.and_eq_true,decide_eq_true_eq]at this;exact this.1
theorem uT {n:aw} (h:aW n=true):(ef n).length<=40/\∀(v:Nat) (row:List Int),(ef n)[v]?=some row->row.length<=6:=by
 obtain⟨h1,h2⟩:=gD h
 refine⟨by rw[mm];exact h1,fun v row hv=>?_⟩
 obtain⟨es,ca⟩:=ay n.ends v (by rw[<- mm];exact al hv)
 rw[fw.2 v es row ca hv];exact h2 v es ca
theorem kE {l:List (List Int)} (h1:l.length<=40) (h2:∀(v:Nat) (row:List Int),l[v]?=some row->row.length<=6):(fB l).length<=1000:=by
 have:=wd h2 l.length
 unfold fB;omega
theorem dE {p:az} (h:dF p=true):(1<=p.labels/\p.labels<=8)/\dR p.ac3:=by
 unfold dF at h;simp only[Bool.and_eq_true,aL]at h;exact⟨h.1,n_ h.2.2.2⟩
def oy (c:Int) (_:List (List Int)):Bool×Int:=(true,wrap64 (c+1))
def uj (p:az) (n:aw) (most:Int):Bool:=dF p&&aW n&&fT 0 200000 most
def WO (p:az) (n:aw) (most:Int):Int×FX:=su oy p n.ends (fB (ef n)) most 0 (ef n)
def aJ (p:az) (n:aw) (most:Int):Int:=if uj p n most=true then (WO p n most).1 else 0
def aK (p:az) (n:aw) (most:Int):Int:=if uj p n most=true then (WO p n most).2.1 else 0
theorem cj.mono {w:World} {sb:Nat} {vs:Array Value} {l:List (List Int)} {ah:List (Int×Int)} {ul uf:Value} {SL:List Nat} {B B':Nat} (h:cj w sb vs l ah ul uf SL B) (hB:B'<=B):cj w sb vs l ah ul uf SL B':=by
 obtain⟨h1,h2,h3,h4⟩:=h;exact⟨h1,aI.mono h2 hB,h3,h4⟩
theorem cj.other {w:World} {sb:Nat} {vs:Array Value} {l:List (List Int)} {ah:List (Int×Int)} {ul uf:Value} {SL:List Nat} {B b:Nat} (h:cj w sb vs l ah ul uf SL B) (hb:b<sb) (hS:b∉SL) (i:Nat) (u:Value):cj (w.setCell ⟨b,i,none⟩ u) sb vs l ah ul uf SL B:=by
 obtain⟨h1,h2,h3,T,h4⟩:=h
 exact⟨h1.set (by show b≠sb;omega),aI.ac4 h2 fun k hk=>Below.heap_setCell _ _ _ k (fun e=>hS ((show k=b from e) ▸ hk)),h3,T,ej.put fY h4 (by show b<sb+1;omega) u⟩
theorem CD:∀args w,(callFunc 55 args).run Tryz.prog w=.ok (.enter 55 args) w:=enters_of Tryz.func55 (by kernel_rfl) rfl
theorem KA (b:Nat) (c:Int) (w:World) (h:I1 w b c):Calls Tryz.prog 55 #[.pointer (some ⟨b,0,none⟩)] w fun e w'=>e=.returned (.bool true)/\w'=w.setCell ⟨b,0,none⟩ (.int .i64 (wrap64 (c+1))):=by
 obtain⟨h1,h2⟩:=h.cells
 go_enter Tryz.func55,Tryz.ntmps55
 go_wp2;go_ret;exact⟨rfl,rfl⟩
theorem uU {a b a' b':Int} (h:a=a') (h':b=b'):Ending.returned (.tuple #[.int .i64 a,.int .i64 b])=.returned (.tuple #[.int .i64 a',.int .i64 b']):=by rw[h,h']
theorem Ou {W W':World} {b:Nat} {x:Int} {S:List Nat} (h:I1 W b x) (ho:aR S W W') (hb:b∉S):I1 W' b x:=(ho.block b h.lt hb).trans h
theorem Ex (p:az) (n:aw) (F:List (List Int)) (PT:List (Int×Int)) (most:Int) (sb:Nat) (pa pb va vb vc ul uf:Value) (SL:List Nat) (bc B0:Nat) (w0 W:World) (R:Int×FX) (h0:aa w0 W)
  (wu:∀X,aa w0 X->di X pa pb p) (sY:∀X,aa w0 X->aU X va vb vc n) (hS:cj W sb (kw p pa pb va vb vc ul uf 0) F PT ul uf SL B0) (aX:w0.heap.size<=bc) (bJ:bc<B0) (aG:B0<=sb) (hI:I1 W bc 0)
  (hn:aW n=true) (ct:dR p.ac3) (iI:p.ac3.length<=1048576) (fv:1<=p.labels/\p.labels<=8) (eJ:eC n.ends F) (dH:rK (p.labels-1) F) (nq:mX n.ends PT) (z8:PT.length<=1000) (pT:0<=most/\most<=200000)
  (mW:∀(v:Nat) (es:List (Int×Int)),n.ends[v]?=some es->es.length<=6) (hR:su oy p n.ends PT most 0 F=R):
  Calls Tryz.prog 36 #[.pointer (some ⟨sb,0,none⟩),.int .i64 most,.func (.func 55) #[] #[.pointer (some ⟨bc,0,none⟩)]] W fun e w'=>e=.returned (.int .i64 R.2.1)/\I1 w' bc R.1/\Below w0.heap.size W w':=by
 have hbS:bc∉SL:=fun hk=>by have:=aI.range hS.2.1 bc hk;omega
 have ts:=F_ oy (fun c X=>I1 X bc c) 55 #[.pointer (some ⟨bc,0,none⟩)] p n pa pb va vb vc ul uf sb SL w0.heap.size PT most 0 F W CD (by omega)
  (fun X hX=>wu X (Below.trans h0 hX)) (fun X hX=>sY X (Below.trans h0 hX))
  (fun s W1 W2 hJ ho=>Ou (show I1 W1 bc s from hJ) ho (by intro hk;rcases List.mem_cons.1 hk with h | h;omega;exact hbS h))
  (fun s l st W1 hb kh hJ=>(KA bc s W1 (show I1 W1 bc s from hJ)).mono fun e W2 ⟨he,gm⟩=>by
   rw[gm]
   exact⟨by rw[he];rfl,I1.set (show I1 W1 bc s from hJ) _,kh.other (by omega) hbS 0 _,(Below.refl _ _).setCell (by show w0.heap.size<=bc;exact aX) _⟩)
  (hS.mono (by omega)) hI hn ct iI fv eJ dH nq z8 pT mW
 rw[hR]at ts;exact ts.mono fun e W2 ⟨h1,_,h3,h4⟩=>⟨h1,h3,h4⟩
theorem kY (pa pb ve vi vn:Value) (p:az) (n:aw) (most:Int) (w:World) (hp:di w pa pb p) (h:aU w ve vi vn n) (_ : -9223372036854775808<=most/\most<=9223372036854775807) (pi:ks p<=1048576) (eR:gO n<=1048576):
  Calls Tryz.prog 16 #[.agg #[.int .i64 p.labels,.int .i64 p.degree,pa,pb],.agg #[ve,vi,vn],.int .i64 most] w fun e w'=>e=.returned (.tuple #[.int .i64 (aJ p n most),.int .i64 (aK p n most)])/\Below w.heap.size w w':=by
 have iI:p.ac3.length<=1048576:=by unfold ks oc at pi;omega
 have KB:=zh (jr eR);obtain⟨w0,ar⟩:∃w0,w0=((w).alloc (.cells #[.int .i64 p.labels,.int .i64 p.degree,pa,pb] 26)).alloc (.cells #[ve,vi,vn] 30):=⟨_,rfl⟩
 have bG:Below w.heap.size w w0:=by rw[ar];exact(((Below.refl _ _).alloc (by simp <;> omega) _).alloc (by simp <;> omega) _)
 have H:=zh (h.ac2 bG);obtain⟨h1,h2,h3⟩:=h.ac2 bG;obtain⟨A,c,rfl,f_,hm,hA⟩:=h1;obtain⟨A2,c2,rfl,_,fq,_⟩:=h2;obtain⟨A3,c3,rfl,_,fF,_⟩:=h3;unfold maxLen at hm fq fF;have cZ:=hp.ac2 bG;have HP:=zh cZ;obtain⟨P0,eP,rfl,ji,dX,bZ⟩:=id cZ.1;unfold maxLen at dX;have jj:=zh bZ;clear bZ;obtain⟨P1,eB,rfl,jk,dY,b_⟩:=id cZ.2;unfold maxLen at dY;have jl:=zh b_;clear b_;clear cZ hp
 have gP:∀W,aa w0 W->W.cell? ⟨w.heap.size,0,none⟩=some (.int .i64 p.labels):=ab (by rw[ar];simp)
 have ig:∀W,aa w0 W->W.cell? ⟨w.heap.size,1,none⟩=some (.int .i64 p.degree):=ab (by rw[ar];simp)
 have ii:∀W,aa w0 W->W.cell? ⟨w.heap.size,2,none⟩=some (.slice P0 p.nodes.length eP):=ab (by rw[ar];simp)
 have mL:∀W,aa w0 W->W.cell? ⟨w.heap.size,3,none⟩=some (.slice P1 p.ac3.length eB):=ab (by rw[ar];simp)
 have rJ:∀W,aa w0 W->W.cell? ⟨w.heap.size+1,0,none⟩=some (.slice A n.ends.length c):=ab (by rw[ar];simp)
 have tD:∀W,aa w0 W->W.cell? ⟨w.heap.size+1,1,none⟩=some (.slice A2 n.ids.length c2):=ab (by rw[ar];simp)
 have tE:∀W,aa w0 W->W.cell? ⟨w.heap.size+1,2,none⟩=some (.slice A3 n.ac1.length c3):=ab (by rw[ar];simp)
 have bQ:=zh bG;have cS:=zh ar;have HA:=zh hA;clear hA h;clear bG ar;have f5:=zh (show ∀X,aa w0 X->di X (.slice P0 p.nodes.length eP) (.slice P1 p.ac3.length eB) p from fun X hX=>HP.out.ac2 hX)
 have iL:=zh (show ∀X,aa w0 X->aU X (.slice A n.ends.length c) (.slice A2 n.ids.length c2) (.slice A3 n.ac1.length c3) n from fun X hX=>H.out.ac2 hX.below)
 clear eR pi
 go_enter Tryz.func16,Tryz.ntmps16
 go_upto_region 1 with(fail);rw[<- cS.out];refine bD 13 (aa w0) (ad _) ?_;simp only[zT]
 refine bF rfl ?_;simp only[zA]
 refine cH ?_ rfl ?_ ?_;rotate_left;(intro W hW;unfold ba;go_simp;(with_reducible refine(hZ _ _ p W (f5.out W hW)).mono ?_);rintro e W' ⟨rfl,aG⟩;first | (refine⟨?_,aa.trans hW aG⟩;with_reducible rfl) | (subst aG;refine⟨?_,hW⟩;with_reducible rfl))
 simp only[zA]
 iterate 2 (refine bF rfl ?_;simp only[zA])
 refine gT rfl rfl ?_;simp only[zA]
 refine bv (v:=?_) rfl rfl ?_ ?_;rotate_left;(intro hb;intro W hW;unfold ba;go_simp;(with_reducible refine(g8 _ _ _ n W (iL.out W hW) KB.out).mono ?_);rintro e W' ⟨rfl,aG⟩;first | (refine⟨?_,aa.trans hW aG⟩;with_reducible rfl) | (subst aG;refine⟨?_,hW⟩;with_reducible rfl))
 simp only[zA]
 refine gT rfl rfl ?_;simp only[zA]
 (first | refine cd rfl rfl ?_ | (refine bF rfl ?_));simp only[zA]
 refine bF rfl ?_;simp only[zA]
 refine gT rfl rfl ?_;simp only[zA]
 refine bv (v:=?_) rfl rfl ?_ ?_;rotate_left;(intro hb;intro W hW;unfold ba;go_simp;(with_reducible refine(oo _ _ _ W).mono ?_);rintro e W' ⟨rfl,aG⟩;first | (refine⟨?_,aa.trans hW aG⟩;with_reducible rfl) | (subst aG;refine⟨?_,hW⟩;with_reducible rfl))
 simp only[zA]
 refine gT rfl rfl ?_;simp only[zA]
 (first | refine cd rfl rfl ?_ | (refine bF rfl ?_));simp only[zA]
 intro W hW
 cases hg:(!dF p || !aW n || !fT 0 200000 most)
 ·have dJ:uj p n most=true:=by unfold uj;revert hg;cases dF p <;> cases aW n <;> cases fT 0 200000 most <;> simp
  simp only[Bool.or_eq_false_iff,Bool.not_eq_false']at hg;obtain⟨⟨lC,hn⟩,hm⟩:=hg;have pT:=aL.1 hm;obtain⟨fv,ct⟩:=dE lC;obtain⟨lR,jU⟩:=gD hn;obtain⟨lS,wH⟩:=uT hn;have Ey:=zh wH;have sw:=zh jU;have jP:=zh ct;have mo:=zh (kE lS wH);have nr:=zh (mn (fw (n:=n)));obtain⟨F,hF⟩:∃F,ef n=F:=⟨_,rfl⟩
  obtain⟨PT,rO⟩:∃PT,fB F=PT:=⟨_,rfl⟩
  have fU:Hid (eC n.ends F):=by rw[<- hF];exact fw
  have kp:Hid (rK (p.labels-1) F):=by rw[<- hF];exact ov (by omega)
  obtain⟨R,hR⟩:∃R,WO p n most=R:=⟨_,rfl⟩
  have HR:Hid (su oy p n.ends PT most 0 F=R):=by show _=_;rw[<- hR,<- rO,<- hF];rfl
  have tH:Hid (aJ p n most=R.1):=by show _=_;unfold aJ;rw[if_pos dJ,hR]
  have CE:Hid (aK p n most=R.2.1):=by show _=_;unfold aK;rw[if_pos dJ,hR]
  rw[hF]at Ey mo nr lS;rw[rO]at mo nr;have HF:=zh hF;have KC:=zh rO;obtain⟨bc,hbc⟩:∃bc,bc=W.heap.size:=⟨_,rfl⟩
  obtain⟨w2,eH⟩:∃w2,w2=W.alloc (.cells #[.int .i64 0] 3):=⟨_,rfl⟩
  have Hi:Hid (I1 w2 bc 0):=by rw[eH,hbc];exact I1.new W 0
  have uH:w0.heap.size<=bc:=by rw[hbc];exact(aa.below hW).size
  have dZ:aa w0 w2:=by rw[eH];exact ae _ hW
  have aH:bc<w2.heap.size:=Hi.out.lt;have gn:=zh dZ;have Hh:=zh uH;have Hbc:=zh hbc;have py:=zh eH;clear eH hbc hW uH hF rO hR hm lC ct wH jU dJ;go_upto_region 4 with(fail);rw[<- Hbc.out,<- py.out];have IA:=zh hn;have qG:=zh fv;have No:=zh pT;have Bt:=zh iI;refine el (w0:=w0) 8 [false,false,false,true,true,false,false,true] (by kernel_rfl) (by kernel_rfl) (gn.out) ?_;simp only[ek,dD,zT]
  iterate 5 (apply ei rfl;(intro W hW;go_simp;with_reducible rfl);simp only[zA])
  obtain⟨W,cA⟩:∃W,W=World.drew w2:=⟨_,rfl⟩
  rw[<- cA]
  have hW:aa w0 W:=by rw[cA];exact ag (gn.out)
  refine Or.inl ⟨rfl,?_⟩
  go_simp
  (with_reducible refine(qi _ _ _ n _ (iL.out _ (gn.out.after (ag (ad _)))) (by omega) (fun v es hv=>Nat.le_trans (sw.out v es hv) (by omega))).mono ?_)
  rintro e W' ⟨u1,S1,rfl,ij,aX⟩;refine⟨_,rfl,(gn.out.after (ag (ad _))).trans aX,?_⟩
  replace hW:=(gn.out.after (ag (ad _))).trans aX
  obtain⟨AU,mU,cU,rfl⟩:=aI.one ij;have Gb:=zh (HF.out ▸ ij.read);have Ez:Hid (I1 W' bc 0):=I1.since (Hi.out.since (ag (ad _))) aX;have HL1:Hid (bc<W'.heap.size):=Ez.out.lt;have Qq:Hid (w0.heap.size<=W'.heap.size):=(aa.below hW).size;clear ij aX
  (try simp only[zA])
  refine Or.inl ⟨rfl,?_⟩
  go_simp
  (with_reducible refine(lQ _ _ _ _ _ _ p n F _ (f5.out _ hW) (iL.out _ hW) Gb.out lS Ey.out).mono ?_)
  rintro e W' ⟨sb,ul,uf,SL,rfl,hS,nQ,hb⟩;refine⟨_,rfl,hW.trans hb,?_⟩
  replace hW:=hW.trans hb
  have KD:Hid (I1 W' bc 0):=Ez.out.since hb;rw[KC.out]at hS;have qH:=zh (Ex p n F PT most sb _ _ _ _ _ ul uf SL bc _ w0 W' R hW f5.out iL.out hS Hh.out HL1.out nQ KD.out IA.out jP.out Bt.out qG.out fU.out kp.out nr.out mo.out No.out sw.out HR.out);clear hS hb nQ
  (try simp only[zA])
  refine Or.inl ⟨rfl,?_⟩
  go_simp
  (with_reducible refine(qH.out).mono ?_)
  rintro e W' ⟨rfl,hI,hb⟩;refine⟨_,rfl,Below.trans hW hb,?_⟩
  replace hW:=Below.trans hW hb
  obtain⟨i1,i2⟩:=hI.cells;clear hb hI
  (try simp only[zA])
  simp only[bj];have HW:=zh hW;clear hW;go_wp2
  go_ret2
  exact⟨uU tH.out.symm CE.out.symm,aa.after bQ.out HW.out⟩
 ·have hk:uj p n most=false:=by unfold uj;revert hg;cases dF p <;> cases aW n <;> cases fT 0 200000 most <;> simp
  have h0:aJ p n most=0:=by unfold aJ;rw[hk];rfl
  have h1:aK p n most=0:=by unfold aK;rw[hk];rfl
  have HW:=zh hW;clear hW;go_wp2
  go_ret2
  exact⟨uU h0.symm h1.symm,aa.after bQ.out HW.out⟩
end Go.Proofs.YtnioemnkfojmkaaGreat
