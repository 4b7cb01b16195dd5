/- Parts of the proof: walks of functions and plain laws. -/
import Derived.Test.YtnioemnkfojmkaaGreatP0
import Derived.Test.YtnioemnkfojmkaaGreatP9
import Derived.Test.YtnioemnkfojmkaaGreatP10
import Derived.Test.YtnioemnkfojmkaaGreatP11
set_option maxRecDepth 100000
set_option maxHeartbeats 16000000
namespace Go.Proofs.YtnioemnkfojmkaaGreat
open Go Go.RowKit
structure tn (B:Nat) (S:List Nat) (w w':World):Prop where
 b:Below B w w'
 o:aR S w w'
theorem tn.trans {B:Nat} {S:List Nat} {a b c:World} (h:tn B S a b) (k:tn B S b c):tn B S a c:=⟨h.b.trans k.b,h.o.trans k.o⟩
theorem tn.of {B:Nat} {S:List Nat} {a b:World} (h:Below a.heap.size a b) (hB:B<=a.heap.size):tn B S a b:=⟨h.mono hB,aR.ac7 h⟩
theorem FQ (p:az) (n:aw) (pa pb va vb vc ul uf:Value) (sb:Nat) (SL:List Nat) (B:Nat) (ah:List (Int×Int)) (most i0 lu:Int) (fr:Bool) (l0:List (List Int)) (w:World) (pS:B<=sb)
  (wu:∀X,Below B w X->di X pa pb p) (sY:∀X,Below B w X->aU X va vb vc n)
  (hS:cj w sb (jv p pa pb va vb vc ul uf i0 lu most fr) l0 ah ul uf SL B) (hn:aW n=true) (ct:dR p.ac3) (iI:p.ac3.length<=1048576) (fv:1<=p.labels/\p.labels<=8) (eJ:eC n.ends l0) (dH:rK (p.labels-1) l0) (nq:mX n.ends ah) (z8:ah.length<=1000) (pT:0<=most/\most<=200000)
  (hi0:0<=i0/\i0<=ah.length) (bu:0<=lu/\lu<=most)
  (mW:∀(v:Nat) (es:List (Int×Int)),n.ends[v]?=some es->es.length<=6):
  Calls Tryz.prog 41 #[.pointer (some ⟨sb,0,none⟩)] w fun e w'=>
   e=.returned (.int .i64 (uh p n.ends ah most fr l0 i0 lu).1)/\cj w' sb (jv p pa pb va vb vc ul uf (uh p n.ends ah most fr l0 i0 lu).2.2.1 (uh p n.ends ah most fr l0 i0 lu).2.2.2 most false) (uh p n.ends ah most fr l0 i0 lu).2.1 ah ul uf SL B /\
    (eC n.ends (uh p n.ends ah most fr l0 i0 lu).2.1/\rK (p.labels-1) (uh p n.ends ah most fr l0 i0 lu).2.1)/\tn B (sb::SL) w w':=by
 have zd:B<=w.heap.size:=Nat.le_trans pS (Nat.le_of_lt hS.1.lt);obtain⟨A5,c5,Bw,-⟩:=id hS.2.1.read;obtain⟨TE,Ko⟩:=hS.2.2.2;obtain⟨A6,c6,Om,-,-,-⟩:=ou Ko;obtain⟨A1,c1,Ni,-⟩:=id (wu w (Below.refl _ _)).1;obtain⟨A2,c2,da,-⟩:=id (wu w (Below.refl _ _)).2;obtain⟨A3,c3,RZ,-⟩:=id (sY w (Below.refl _ _)).1;obtain⟨A4,c4,R3,-⟩:=id (sY w (Below.refl _ _)).2.1;obtain⟨A7,c7,R4,-⟩:=id (sY w (Below.refl _ _)).2.2;subst Bw Om Ni da RZ R3 R4;have R5:IntKind.i64.wrap (p.labels-1)=p.labels-1:=aE _ (by omega) (by omega);have f5:=zh wu;have iL:=zh sY;have HS:=zh hS;have jP:=zh ct;have fU:=zh eJ;have kp:=zh dH;have nr:=zh nq;have Bv:=zh mW
 have nD:Hid (∀(v:Nat) (row:List Int),l0[v]?=some row->row.length<=1000000):=fun v row hv=>by
  obtain⟨es,ca⟩:=ay n.ends v (by rw[<- eJ.1];exact al hv)
  have:=eJ.2 v es row ca hv
  have:=mW v es ca
  omega
 obtain⟨d0,d1,d2,d3,d4,d5,d6,d7,d8,d9,tG,CC,Af⟩:=cn hS.1;have f9:=(hS.1.cell 9 (.int .i64 i0) rfl).2;have WG:=(hS.1.cell 12 (.bool fr) rfl).2;clear wu sY hS ct eJ dH nq mW Ko;obtain⟨R,hR⟩:∃R,uh p n.ends ah most fr l0 i0 lu=R:=⟨_,rfl⟩
 have HR:=zh hR;rw[hR];clear hR;obtain⟨F,hF⟩:∃F,F=ap most i0 lu:=⟨_,rfl⟩
 have HF:=zh hF;clear hF
 go_enter Tryz.func41,Tryz.ntmps41
 go_upto_if 8 with(fail)
 go_cut [0]from 5 to 32 (fun a wx=>a=.pointer (some ⟨sb,0,none⟩)/\∃(aO:Int),-1<=aO/\aO<=ah.length/\(R=ft p n.ends ah most F l0 aO lu/\ap most aO lu<=F)/\cj wx sb (jv p (.slice A1 p.nodes.length c1) (.slice A2 p.ac3.length c2) (.slice A3 n.ends.length c3) (.slice A4 n.ids.length c4) (.slice A7 n.ac1.length c7) (.slice A5 l0.length c5) (.slice A6 ah.length c6) aO lu most false) l0 ah (.slice A5 l0.length c5) (.slice A6 ah.length c6) SL B/\tn B (sb::SL) w wx)
 case first=>
  cases fr
  ·obtain⟨m1,m2,m3⟩:=HS.out.field pS 9 (.int .i64 (i0-1));have nG:Hid (cj (w.setCell ⟨sb,9,none⟩ (.int .i64 (i0-1))) sb (jv p (.slice A1 p.nodes.length c1) (.slice A2 p.ac3.length c2) (.slice A3 n.ends.length c3) (.slice A4 n.ids.length c4) (.slice A7 n.ac1.length c7) (.slice A5 l0.length c5) (.slice A6 ah.length c6) (i0-1) lu most false) l0 ah (.slice A5 l0.length c5) (.slice A6 ah.length c6) SL B):=m1;have Kv:=zh (tn.mk m2 m3);have wi:IntKind.i64.wrap (i0-1)=i0-1:=aE _ (by omega) (by omega)
   have z_:Hid (R=ft p n.ends ah most F l0 (i0-1) lu):=by show _=_;rw[<- HR.out,HF.out];unfold uh;rw[if_neg (by simp)]
   have Sb:Hid (ap most (i0-1) lu<=F):=by show _<=_;rw[HF.out];unfold ap;omega
   clear m1 m2 m3;go_wp2;go_meet
   case rel=>exact⟨rfl,i0-1,by omega,by omega,⟨z_.out,Sb.out⟩,nG.out,Kv.out⟩
  ·obtain⟨m1,m2,m3⟩:=HS.out.field pS 12 (.bool false);obtain⟨W1,js⟩:∃W1,W1=w.setCell ⟨sb,12,none⟩ (.bool false):=⟨_,rfl⟩
   rw[<- js]at m1 m2 m3;have nG:Hid (cj W1 sb (jv p (.slice A1 p.nodes.length c1) (.slice A2 p.ac3.length c2) (.slice A3 n.ends.length c3) (.slice A4 n.ids.length c4) (.slice A7 n.ac1.length c7) (.slice A5 l0.length c5) (.slice A6 ah.length c6) i0 lu most false) l0 ah (.slice A5 l0.length c5) (.slice A6 ah.length c6) SL B):=m1;have Kv:=zh (tn.mk m2 m3);have Wo:=zh js;clear m1 m2 m3 js;go_upto_region 3 with(fail);rw[<- Wo.out];clear d0 d1 d2 d3 d4 d5 d6 d7 d8 d9 tG CC Af f9 WG;obtain⟨d0,d1,d2,d3,d4,d5,d6,d7,-⟩:=cn nG.out.1;have a0:=ab d0;have a1:=ab d1;have a2:=ab d2;have a3:=ab d3;have a4:=ab d4;have a5:=ab d5;have a6:=ab d6;have a7:=ab d7;clear d0 d1 d2 d3 d4 d5 d6 d7;have xX:B<=W1.heap.size:=Nat.le_trans pS (Nat.le_of_lt nG.out.1.lt);refine am 14 (aa W1) (by kernel_rfl) (by kernel_rfl) (by simp) (ag (ad _)) ?_;simp only[zT]
   iterate 12 (refine bF rfl ?_;simp only[zA])
   refine cH ?_ rfl ?_ ?_;rotate_left;(intro W hW;unfold ba;go_simp;(with_reducible refine(tF _ _ _ _ _ _ p n l0 W (f5.out W (Kv.out.trans (tn.of hW.below xX)).b) (iL.out W (Kv.out.trans (tn.of hW.below xX)).b) (nG.out.ac8 hW.below).rows hn fU.out jP.out iI nD.out).mono ?_);rintro e W' ⟨rfl,aG⟩;first | (refine⟨?_,aa.trans hW aG⟩;with_reducible rfl) | (subst aG;refine⟨?_,hW⟩;with_reducible rfl))
   simp only[zA]
   refine bF rfl ?_;simp only[zA]
   intro W2 gm;have WH:=zh (nG.out.ac8 gm.below);have xV:=zh (Kv.out.trans (tn.of gm.below xX));clear a0 a1 a2 a3 a4 a5 a6 a7 gm;cases hg:dS p n.ends l0
   ·have z_:Hid (R=(2,l0,i0,lu)):=by show _=_;rw[<- HR.out];unfold uh;rw[if_pos rfl,if_neg (by rw[hg];simp)]
    go_wp2;go_ret;rw[z_.out];exact⟨rfl,WH.out,⟨fU.out,kp.out⟩,xV.out⟩
   ·have z_:Hid (R=ft p n.ends ah most F l0 i0 lu):=by show _=_;rw[<- HR.out,HF.out];unfold uh;rw[if_pos rfl,if_pos hg]
    have Sb:Hid (ap most i0 lu<=F):=by show _<=_;rw[HF.out];exact Nat.le_refl _
    go_wp2;go_meet
    case rel=>exact⟨rfl,i0,by omega,by omega,⟨z_.out,Sb.out⟩,WH.out,xV.out⟩
 case rest=>
  obtain⟨rfl,Sc,lC,sG,it,fp,hb⟩:=hcut;have Sd:=zh it;have Kw:=zh fp;have bQ:=zh hb;clear it fp hb d0 d1 d2 d3 d4 d5 d6 d7 d8 d9 tG CC Af f9 WG;go_wp2
  go_loopw [3] (fun _ wr=>∃(l:List (List Int)) (aO st:Int),-1<=aO/\aO<=ah.length/\0<=st/\st<=most/\(R=ft p n.ends ah most F l aO st/\ap most aO st<=F)/\cj wr sb (jv p (.slice A1 p.nodes.length c1) (.slice A2 p.ac3.length c2) (.slice A3 n.ends.length c3) (.slice A4 n.ids.length c4) (.slice A7 n.ac1.length c7) (.slice A5 l0.length c5) (.slice A6 ah.length c6) aO st most false) l ah (.slice A5 l0.length c5) (.slice A6 ah.length c6) SL B/\(eC n.ends l/\rK (p.labels-1) l)/\tn B (sb::SL) w wr) (fun _ wr=>ap most (jS wr sb 9) (jS wr sb 10))
  case atStart=>exact⟨l0,Sc,lu,lC,sG,bu.1,bu.2,Sd.out,Kw.out,⟨fU.out,kp.out⟩,bQ.out⟩
  case round=>
   obtain⟨l,aO,st,iT,lX,dw,dZ,it,fp,hinv,hb⟩:=hrel;have rM:=zh it.1;have wD:=zh it.2;have h_:=zh fp;have fZ:=zh hinv;have fE:=zh hb;obtain⟨d0,d1,d2,d3,d4,d5,d6,d7,d8,d9,tG,CC,Af⟩:=cn fp.1
   have wv:Hid (l0.length=l.length):=by show _=_;have h1:=fp.rows;obtain⟨_,_,e,-⟩:=h1;simp only[Value.slice.injEq]at e;exact e.2.1
   obtain⟨M0,ww⟩:∃z,ap most (jS wr sb 9) (jS wr sb 10)=z:=⟨_,rfl⟩
   have yl:=zh ww
   have Ab:Hid (ap most aO st=M0):=by show _=_;rw[<- ww,cx d9,cx tG]
   clear it fp hinv hb ww lC sG;have Oq:B<=wr.heap.size:=Nat.le_trans pS (Nat.le_of_lt h_.out.1.lt)
   by_cases lO:aO<0
   ·have jy:Hid (R=(2,l,aO,st)):=by show _=_;rw[rM.out,mi p n.ends ah most F l aO st dZ iT wD.out,if_pos lO]
    go_wp2;go_ret;rw[jy.out];exact⟨rfl,h_.out,fZ.out,fE.out⟩
   ·obtain⟨q,rfl⟩:=Int.eq_ofNat_of_zero_le (show 0<=aO by omega)
    have a0:=ab d0;have a7:=ab d7;have a8:=ab d8;have a9:=ab d9;have Se:=ab tG;have Sf:=ab CC;have Vc:((q:Int)<0)=False:=by simp
    clear d0 d1 d2 d3 d4 d5 d6 d7 d8 tG CC Af lO;go_upto_region 8 with(fail);clear d9
    by_cases dQ:(q:Int)=ah.length
    ·have fH:((q:Int)==(ah.length:Int))=true:=by simpa using dQ
     have jy:Hid (R=(1,l,(q:Int),st)):=by show _=_;rw[rM.out,mi p n.ends ah most F l q st dZ iT wD.out,if_neg (by omega),if_pos dQ]
     clear dQ;refine am 10 (aa wr) (by kernel_rfl) (by kernel_rfl) (by simp) (ag (ad _)) ?_;simp only[zT]
     iterate 10 (refine bF rfl ?_;simp only[zA])
     intro W2 gm;have pl:=zh gm;clear gm a0 a7 a8 a9 Se Sf;go_wp2;go_ret;rw[jy.out];exact⟨rfl,h_.out.ac8 pl.out.below,fZ.out,fE.out.trans (tn.of pl.out.below Oq)⟩
    ·have fH:((q:Int)==(ah.length:Int))=false:=by simpa using dQ
     have zi:q<ah.length:=by omega
     clear dQ;refine am 10 (aa wr) (by kernel_rfl) (by kernel_rfl) (by simp) (ag (ad _)) ?_;simp only[zT]
     iterate 10 (refine bF rfl ?_;simp only[zA])
     intro W2 gm;obtain⟨e,he⟩:=ay ah q zi;obtain⟨v,i,es,rfl,ca,Od⟩:=nr.out q e he
     have lW:v<l.length:=by rw[fZ.out.1.1];exact al ca
     obtain⟨row,aD⟩:=ay l v lW;have xT:=fZ.out.1.2 v es row ca aD;have mW:=Bv.out v es ca;have sZ:i<row.length:=by omega
     have Cw:row.length<=6:=by omega
     obtain⟨x,hx⟩:=ay row i sZ;have uQ:=fZ.out.2 v row i x aD hx;have fD:=zh (F9 p n.ends ah most F he aD hx dZ wD.out);obtain⟨gl,cl,gr,cr,e5,f1,f2,f3,f4,-⟩:=h_.out.label aD hx
     injection e5 with ea eb' ec
     subst ea ec;obtain⟨TE1,wE⟩:=h_.out.2.2.2;obtain⟨A6',Js,e6,-,-,Cz⟩:=ou wE;obtain⟨b6,o6,e7,t1,t2⟩:=Cz q _ he
     injection e6 with ea6 eb6 ec6
     subst ec6;rw[<- ea6]at e7;subst e7
     have G_:v<l0.length:=by rw[wv.out];exact lW
     have Vb:gr<sb:=h_.out.2.2.1 gr f4;have ch:=zh aD;have Hx:=zh hx;have b1:=aj (ab t1) gm;have b2:=aj (ab t2) gm;have b0:=aj a0 gm;have b7:=aj a7 gm;have b8:=aj a8 gm;have b9:=aj a9 gm;have qF:=aj Se gm;have WI:=aj Sf gm;have g1:=aj (ab f1) gm;have g2:=aj (ab f2) gm;have pl:=zh gm;clear he ca Od aD hx xT ea6 eb6 eb' Cz wE f1 f2 f3 t1 t2 lW a0 a7 a8 a9 Se Sf gm iT lX;go_upto_region 10 with(fail);refine am 24 (aa W2) (by kernel_rfl) (by kernel_rfl) (by simp) (ag (ad _)) ?_;simp only[zT]
     iterate 24 (refine bF rfl ?_;simp only[zA])
     intro W3 ki;have j0:=aj b0 ki;have j7:=aj b7 ki;have j9:=aj b9 ki;have Sg:=aj qF ki;have Sh:=aj WI ki;have h1:=aj g1 ki;have h2:=aj g2 ki;have sV:=zh (pl.out.after ki);clear b0 b1 b2 b7 b8 b9 qF WI g1 g2 ki;go_upto_region 11 with(fail)
     by_cases gb:x=p.labels-1
     ·have dj:(x==p.labels-1)=true:=by simpa using gb
      have lq:=zh gb;clear gb;refine am 17 (aa W3) (by kernel_rfl) (by kernel_rfl) (by simp) (ag (ad _)) ?_;simp only[zT]
      iterate 17 (refine bF rfl ?_;simp only[zA])
      intro W4 jT;have pU:=zh (sV.out.after jT);have z7:=j7 W4 jT;have z1:=h1 W4 jT;obtain⟨y1,y2,y3,y4⟩:=(h_.out.ac8 pU.out.below).adh ch.out Hx.out (h1 W4 jT);obtain⟨n1,n2,n3⟩:=y4 (-1);obtain⟨m1,m2,m3⟩:=n1.field pS 9 (.int .i64 ((q:Int)-1));have z9:=(n1.1.cell 9 (.int .i64 (q:Int)) rfl).1;have zf:=(n1.1.cell 9 (.int .i64 (q:Int)) rfl).2;have ym:Hid (cj _ sb (jv p (.slice A1 p.nodes.length c1) (.slice A2 p.ac3.length c2) (.slice A3 n.ends.length c3) (.slice A4 n.ids.length c4) (.slice A7 n.ac1.length c7) (.slice (some ⟨gl,0,none⟩) l0.length c5) (.slice (some ⟨b6,o6,none⟩) ah.length c6) ((q:Int)-1) st most false) _ ah _ _ SL B):=m1;have qE:=zh (fE.out.trans ((tn.of pU.out.below Oq).trans ((tn.mk n2 n3).trans (tn.mk m2 m3))));obtain⟨W5,ke⟩:∃W5,W5=W4.setCell ⟨gr,i,none⟩ (.int .i64 (-1)):=⟨_,rfl⟩
      rw[<- ke]at ym qE z9 zf;have qw:=zh ke;clear y3 y4 n1 n2 n3 m1 m2 m3 jT j0 j7 j9 Sg Sh h1 h2 dj ke
      have rN:Hid (R=ft p n.ends ah most F (dA l ((v:Int),(i:Int)) (-1)) ((q:Int)-1) st):=by show _=_;rw[rM.out,fD.out,if_pos lq.out]
      have wq:IntKind.i64.wrap ((q:Int)-1)=(q:Int)-1:=aE _ (by omega) (by omega)
      have pV:Hid (ap most ((q:Int)-1) st<M0/\ap most ((q:Int)-1) st<=F):=by have:=Ab.out;have:=wD.out;unfold ap at *;exact⟨by omega,by omega⟩
      go_upto_region 13 with(fail);rw[<- qw.out];clear z7 z1 y1 y2;go_wp2;go_roundw
      case rel=>exact⟨_,(q:Int)-1,st,by omega,by omega,dw,dZ,⟨rN.out,pV.out.2⟩,ym.out,⟨gC fZ.out.1 ch.out sZ,jR fZ.out.2 ch.out sZ ⟨by omega,by omega⟩⟩,qE.out⟩
      case measure=>
       have hc:=cn ym.out.1;rw[yl.out,cx hc.2.2.2.2.2.2.2.2.2.1,cx hc.2.2.2.2.2.2.2.2.2.2.1];exact pV.out.1
     ·have dj:(x==p.labels-1)=false:=by simpa using gb
      have lq:=zh gb;clear gb;refine am 17 (aa W3) (by kernel_rfl) (by kernel_rfl) (by simp) (ag (ad _)) ?_;simp only[zT]
      iterate 17 (refine bF rfl ?_;simp only[zA])
      intro W4 jT;have k7:=aj j7 jT;have k1:=aj h1 jT;have WJ:=aj Sg jT;have WK:=aj Sh jT;have pU:=zh (sV.out.after jT);clear j0 j7 j9 Sg Sh h1 h2 jT dj;go_upto_region 14 with(fail)
      by_cases s5:st=most
      ·have Es:(st==most)=true:=by simpa using s5
       have jy:Hid (R=(3,l,(q:Int),st)):=by show _=_;rw[rM.out,fD.out,if_neg lq.out,if_pos s5]
       clear s5;refine am 9 (aa W4) (by kernel_rfl) (by kernel_rfl) (by simp) (ag (ad _)) ?_;simp only[zT]
       iterate 9 (refine bF rfl ?_;simp only[zA])
       intro W5 ke;have qw:=zh (pU.out.after ke);clear ke k7 k1 WJ WK;go_wp2;go_ret;rw[jy.out];exact⟨rfl,h_.out.ac8 qw.out.below,fZ.out,fE.out.trans (tn.of qw.out.below Oq)⟩
      ·have Es:(st==most)=false:=by simpa using s5
       have Ad:=zh s5;clear s5;refine am 9 (aa W4) (by kernel_rfl) (by kernel_rfl) (by simp) (ag (ad _)) ?_;simp only[zT]
       iterate 9 (refine bF rfl ?_;simp only[zA])
       intro W5 ke;have qw:=zh (pU.out.after ke);have Iz:=h_.out.ac8 qw.out.below;obtain⟨m1,m2,m3⟩:=Iz.field pS 10 (.int .i64 (st+1));have WL:=(Iz.1.cell 10 (.int .i64 st) rfl).1;have Si:=(Iz.1.cell 10 (.int .i64 st) rfl).2;obtain⟨W6,Ae⟩:∃W6,W6=W5.setCell ⟨sb,10,none⟩ (.int .i64 (st+1)):=⟨_,rfl⟩
       rw[<- Ae]at m1 m2 m3;have Kx:=k1 W5 ke;obtain⟨gg,Ru⟩:∃g,g=gl:=⟨_,rfl⟩
       have Ky:W6.cell? ⟨gl,v,none⟩=some (.slice (some ⟨gr,0,none⟩) row.length cr):=by
        rw[Ae]
        have yJ:gl≠sb:=by
         have h1:=Iz.2.1;have h2:=Iz.2.2.1;intro e;obtain⟨vs',Ss,r1,-,-,r4,-⟩:=h1
         have:=h2 gl (by rw[r4];simp[Value.ownBlock])
         omega
        exact(World.cell?_of_block (Below.heap_setCell _ _ _ gl yJ)).trans Kx
       obtain⟨y1,y2,y3,y4⟩:=m1.adh ch.out Hx.out Ky;obtain⟨n1,n2,n3⟩:=y4 (x+1);have z7:=(m1.1.cell 7 (.slice (some ⟨gl,0,none⟩) l0.length c5) rfl).1;obtain⟨W7,CA⟩:∃W7,W7=W6.setCell ⟨gr,i,none⟩ (.int .i64 (x+1)):=⟨_,rfl⟩
       rw[<- CA]at n1 n2 n3;have wx:IntKind.i64.wrap (x+1)=x+1:=aE _ (by omega) (by omega);have ws:IntKind.i64.wrap (st+1)=st+1:=aE _ (by omega) (by omega);obtain⟨lp,wF⟩:∃lp,lp=dA l ((v:Int),(i:Int)) (x+1):=⟨_,rfl⟩
       rw[<- wF]at n1 fD;have nG:Hid (cj W7 sb (jv p (.slice A1 p.nodes.length c1) (.slice A2 p.ac3.length c2) (.slice A3 n.ends.length c3) (.slice A4 n.ids.length c4) (.slice A7 n.ac1.length c7) (.slice (some ⟨gl,0,none⟩) l0.length c5) (.slice (some ⟨b6,o6,none⟩) ah.length c6) (q:Int) (st+1) most false) lp ah (.slice (some ⟨gl,0,none⟩) l0.length c5) (.slice (some ⟨b6,o6,none⟩) ah.length c6) SL B):=n1;have By:=zh (fE.out.trans ((tn.of qw.out.below Oq).trans ((tn.mk m2 m3).trans (tn.mk n2 n3))))
       have Et:Hid (lp[v]?=some (row.set i (x+1))):=by show _=_;rw[wF];exact(jQ ch.out sZ).1
       have Eu:Hid (eC n.ends lp/\rK (p.labels-1) lp):=by rw[wF];exact⟨gC fZ.out.1 ch.out sZ,jR fZ.out.2 ch.out sZ ⟨by omega,by have:=lq.out;omega⟩⟩
       obtain⟨rp,Ev⟩:∃rp,rp=row.set i (x+1):=⟨_,rfl⟩
       have Ku:rp.length=row.length:=by rw[Ev,List.length_set]
       rw[<- Ev]at Et fD;have Ew:i<rp.length:=by omega
       have Sj:rp.length<=1000000:=by omega
       have Sa:=zh Ae;have Nl:=zh CA;clear wF Ev n1 n2 n3 m1 m2 m3 y3 y4 Ae CA Iz Kx ke k7 k1 WJ WK Ru gg Es Ku;go_upto_region 17 with(fail);rw[<- Sa.out];clear WL Si;go_upto_region 18 with(fail);rw[<- Nl.out];clear z7 y1 y2 Ky;obtain⟨d0,d1,d2,d3,d4,d5,d6,d7,-⟩:=cn nG.out.1;have a0:=ab d0;have a1:=ab d1;have a2:=ab d2;have a3:=ab d3;have a4:=ab d4;have a5:=ab d5;have a6:=ab d6;have a7:=ab d7;have Ot:B<=W7.heap.size:=Nat.le_trans pS (Nat.le_of_lt nG.out.1.lt);obtain⟨b8,o8,u8,zk,Nn,Sk⟩:=nG.out.rowAt Et.out
       injection zk with zk
       injection zk with hA8a hA8b
       subst hA8a hA8b;obtain⟨A9,z9',rfl,aaA,aaB,-⟩:=id Sk;rw[Nat.zero_add]at Nn;have a8:=ab Nn;have Kz:Hid (∀X,aa W7 X->bO X (.slice A9 rp.length z9') rp):=fun X hX=>Sk.ac2 hX.below
       clear d0 d1 d2 d3 d4 d5 d6 d7 Nn Sk;refine am 29 (aa W7) (by kernel_rfl) (by kernel_rfl) (by simp) (ag (ad _)) ?_;simp only[zT]
       iterate 11 (refine bF rfl ?_;simp only[zA])
       refine cH ?_ rfl ?_ ?_;rotate_left;(intro W hW;unfold ba;go_simp;(with_reducible refine(mN _ _ _ p rp W (f5.out W (By.out.trans (tn.of hW.below Ot)).b) (Kz.out W hW) Sj).mono ?_);rintro e W' ⟨rfl,aG⟩;first | (refine⟨?_,aa.trans hW aG⟩;with_reducible rfl) | (subst aG;refine⟨?_,hW⟩;with_reducible rfl))
       simp only[zA]
       refine bF rfl ?_;simp only[zA]
       iterate 14 (refine gT rfl rfl ?_;simp only[zA])
       refine bv (v:=?_) rfl rfl ?_ ?_;rotate_left;(intro hb;intro W hW;unfold ba;go_simp;(with_reducible refine(mT _ _ _ _ _ _ p n lp v i rp W (f5.out W (By.out.trans (tn.of hW.below Ot)).b) (iL.out W (By.out.trans (tn.of hW.below Ot)).b) (nG.out.ac8 hW.below).rows hn Eu.out.1 jP.out iI Et.out Ew).mono ?_);rintro e W' ⟨rfl,aG⟩;first | (refine⟨?_,aa.trans hW aG⟩;with_reducible rfl) | (subst aG;refine⟨?_,hW⟩;with_reducible rfl))
       simp only[zA]
       (first | refine eF rfl rfl ?_ | (refine bF rfl ?_));simp only[zA]
       intro W8 Sl;have Ga:=zh (nG.out.ac8 Sl.below);have WM:=zh (By.out.trans (tn.of Sl.below Ot));clear a0 a1 a2 a3 a4 a5 a6 a7 a8 Sl
       have pV:Hid ((ap most (q:Int) (st+1)<M0/\ap most (q:Int) (st+1)<=F)/\(ap most ((q:Int)+1) (st+1)<M0/\ap most ((q:Int)+1) (st+1)<=F)):=by have:=Ab.out;have:=wD.out;unfold ap at *;exact⟨⟨by omega,by omega⟩,⟨by omega,by omega⟩⟩
       cases hg:(dL p rp&&fc p n.ends lp ((v:Int),(i:Int)))
       ·have rN:Hid (R=ft p n.ends ah most F lp q (st+1)):=by show _=_;rw[rM.out,fD.out,if_neg lq.out,if_neg Ad.out,if_neg (by rw[hg];simp)]
        go_wp2;go_roundw
        case rel=>exact⟨lp,q,st+1,by omega,by omega,by omega,by have:=Ad.out;omega,⟨rN.out,pV.out.1.2⟩,Ga.out,Eu.out,WM.out⟩
        case measure=>
         have hc:=cn Ga.out.1;rw[yl.out,cx hc.2.2.2.2.2.2.2.2.2.1,cx hc.2.2.2.2.2.2.2.2.2.2.1];exact pV.out.1.1
       ·have rN:Hid (R=ft p n.ends ah most F lp ((q:Int)+1) (st+1)):=by show _=_;rw[rM.out,fD.out,if_neg lq.out,if_neg Ad.out,if_pos hg]
        have wq:IntKind.i64.wrap ((q:Int)+1)=(q:Int)+1:=aE _ (by omega) (by omega);obtain⟨m1,m2,m3⟩:=Ga.out.field pS 9 (.int .i64 ((q:Int)+1));have z9:=(Ga.out.1.cell 9 (.int .i64 (q:Int)) rfl).1;have zf:=(Ga.out.1.cell 9 (.int .i64 (q:Int)) rfl).2;have ym:Hid (cj (W8.setCell ⟨sb,9,none⟩ (.int .i64 ((q:Int)+1))) sb (jv p (.slice A1 p.nodes.length c1) (.slice A2 p.ac3.length c2) (.slice A3 n.ends.length c3) (.slice A4 n.ids.length c4) (.slice A7 n.ac1.length c7) (.slice (some ⟨gl,0,none⟩) l0.length c5) (.slice (some ⟨b6,o6,none⟩) ah.length c6) ((q:Int)+1) (st+1) most false) lp ah (.slice (some ⟨gl,0,none⟩) l0.length c5) (.slice (some ⟨b6,o6,none⟩) ah.length c6) SL B):=m1;have qE:=zh (WM.out.trans (tn.mk m2 m3));clear m1 m2 m3;go_wp2;go_roundw
        case rel=>exact⟨lp,(q:Int)+1,st+1,by omega,by omega,by omega,by have:=Ad.out;omega,⟨rN.out,pV.out.2.2⟩,ym.out,Eu.out,qE.out⟩
        case measure=>
         have hc:=cn ym.out.1;rw[yl.out,cx hc.2.2.2.2.2.2.2.2.2.1,cx hc.2.2.2.2.2.2.2.2.2.2.1];exact pV.out.2.1
theorem Ji (s:List (List (List Int))) (l:List (List Int)):Nr (s++[l])=Nr s+ya l:=by
 unfold Nr;simp
def Rn (p:az) (n:aw) (PT:List (Int×Int)) (k:Int) (R:List (List (List Int))×FX) (s:List (List (List Int))) (fr:Bool) (l:List (List Int)) (aO st:Int):Prop:=
 (((s.length:Int)<k/\Qp (k9 k) p n.ends PT 200000 fr s l aO st=R)\/(¬(s.length:Int)<k/\R.1=s/\R.2.1=1))/\Nr s<=240*s.length/\(s.length:Int)<=50
theorem lh (pa pb ve vi vn:Value) (p:az) (n:aw) (k:Int) (w:World) (hp:di w pa pb p) (h:aU w ve vi vn n) (_ : -9223372036854775808<=k/\k<=9223372036854775807) (pi:ks p<=1048576) (eR:gO n<=1048576):
  Calls Tryz.prog 15 #[.agg #[.int .i64 p.labels,.int .i64 p.degree,pa,pb],.agg #[ve,vi,vn],.int .i64 k] w fun e w'=>∃u S,e=.returned (.tuple #[u,.bool (bt p n k)])/\iv w' w.heap.size u (aF p n k) S/\Nr (aF p n k)<=1000000000/\Below w.heap.size w w':=by
 have iI:p.ac3.length<=1048576:=by unfold ks oc at pi;omega
 have KB:=zh (jr eR);obtain⟨w0,ar⟩:∃w0,w0=((w).alloc (.cells #[.int .i64 p.labels,.int .i64 p.degree,pa,pb] 26)).alloc (.cells #[ve,vi,vn] 30):=⟨_,rfl⟩
 have bG:Below w.heap.size w w0:=by rw[ar];exact(((Below.refl _ _).alloc (by simp <;> omega) _).alloc (by simp <;> omega) _)
 have H:=zh (h.ac2 bG);obtain⟨h1,h2,h3⟩:=h.ac2 bG;obtain⟨A,c,rfl,f_,hm,hA⟩:=h1;obtain⟨A2,c2,rfl,_,fq,_⟩:=h2;obtain⟨A3,c3,rfl,_,fF,_⟩:=h3;unfold maxLen at hm fq fF;have cZ:=hp.ac2 bG;have HP:=zh cZ;obtain⟨P0,eP,rfl,ji,dX,bZ⟩:=id cZ.1;unfold maxLen at dX;have jj:=zh bZ;clear bZ;obtain⟨P1,eB,rfl,jk,dY,b_⟩:=id cZ.2;unfold maxLen at dY;have jl:=zh b_;clear b_;clear cZ hp
 have gP:∀W,aa w0 W->W.cell? ⟨w.heap.size,0,none⟩=some (.int .i64 p.labels):=ab (by rw[ar];simp)
 have ig:∀W,aa w0 W->W.cell? ⟨w.heap.size,1,none⟩=some (.int .i64 p.degree):=ab (by rw[ar];simp)
 have ii:∀W,aa w0 W->W.cell? ⟨w.heap.size,2,none⟩=some (.slice P0 p.nodes.length eP):=ab (by rw[ar];simp)
 have mL:∀W,aa w0 W->W.cell? ⟨w.heap.size,3,none⟩=some (.slice P1 p.ac3.length eB):=ab (by rw[ar];simp)
 have rJ:∀W,aa w0 W->W.cell? ⟨w.heap.size+1,0,none⟩=some (.slice A n.ends.length c):=ab (by rw[ar];simp)
 have tD:∀W,aa w0 W->W.cell? ⟨w.heap.size+1,1,none⟩=some (.slice A2 n.ids.length c2):=ab (by rw[ar];simp)
 have tE:∀W,aa w0 W->W.cell? ⟨w.heap.size+1,2,none⟩=some (.slice A3 n.ac1.length c3):=ab (by rw[ar];simp)
 have bQ:=zh bG;have cS:=zh ar;have HA:=zh hA;clear hA h;clear bG ar;have f5:=zh (show ∀X,aa w0 X->di X (.slice P0 p.nodes.length eP) (.slice P1 p.ac3.length eB) p from fun X hX=>HP.out.ac2 hX)
 have iL:=zh (show ∀X,aa w0 X->aU X (.slice A n.ends.length c) (.slice A2 n.ids.length c2) (.slice A3 n.ac1.length c3) n from fun X hX=>H.out.ac2 hX.below)
 clear eR pi
 go_enter Tryz.func15,Tryz.ntmps15
 go_upto_region 1 with(fail);rw[<- cS.out];refine bD 13 (aa w0) (ad _) ?_;simp only[zT]
 refine bF rfl ?_;simp only[zA]
 refine cH ?_ rfl ?_ ?_;rotate_left;(intro W hW;unfold ba;go_simp;(with_reducible refine(mM _ _ p W (f5.out W hW)).mono ?_);rintro e W' ⟨rfl,aG⟩;first | (refine⟨?_,aa.trans hW aG⟩;with_reducible rfl) | (subst aG;refine⟨?_,hW⟩;with_reducible rfl))
 simp only[zA]
 iterate 2 (refine bF rfl ?_;simp only[zA])
 refine gT rfl rfl ?_;simp only[zA]
 refine bv (v:=?_) rfl rfl ?_ ?_;rotate_left;(intro hb;intro W hW;unfold ba;go_simp;(with_reducible refine(mF _ _ _ n W (iL.out W hW)).mono ?_);rintro e W' ⟨rfl,aG⟩;first | (refine⟨?_,aa.trans hW aG⟩;with_reducible rfl) | (subst aG;refine⟨?_,hW⟩;with_reducible rfl))
 simp only[zA]
 refine gT rfl rfl ?_;simp only[zA]
 (first | refine cd rfl rfl ?_ | (refine bF rfl ?_));simp only[zA]
 refine bF rfl ?_;simp only[zA]
 refine gT rfl rfl ?_;simp only[zA]
 refine bv (v:=?_) rfl rfl ?_ ?_;rotate_left;(intro hb;intro W hW;unfold ba;go_simp;(with_reducible refine(zW _ _ _ W).mono ?_);rintro e W' ⟨rfl,aG⟩;first | (refine⟨?_,aa.trans hW aG⟩;with_reducible rfl) | (subst aG;refine⟨?_,hW⟩;with_reducible rfl))
 simp only[zA]
 refine gT rfl rfl ?_;simp only[zA]
 (first | refine cd rfl rfl ?_ | (refine bF rfl ?_));simp only[zA]
 intro W hW
 cases hg:(!dF p || !aW n || !fT 1 50 k)
 ·have dJ:rR p n k=true:=by unfold rR;revert hg;cases dF p <;> cases aW n <;> cases fT 1 50 k <;> simp
  simp only[Bool.or_eq_false_iff,Bool.not_eq_false']at hg;obtain⟨⟨lC,hn⟩,hm⟩:=hg;have hk:=aL.1 hm;obtain⟨fv,ct⟩:=dE lC;obtain⟨lR,jU⟩:=gD hn;obtain⟨lS,wH⟩:=uT hn;have Ey:=zh wH;have sw:=zh jU;have jP:=zh ct;have mo:=zh (kE lS wH);have nr:=zh (mn (fw (n:=n)));obtain⟨F,hF⟩:∃F,ef n=F:=⟨_,rfl⟩
  obtain⟨PT,rO⟩:∃PT,fB F=PT:=⟨_,rfl⟩
  have fU:Hid (eC n.ends F):=by rw[<- hF];exact fw
  have kp:Hid (rK (p.labels-1) F):=by rw[<- hF];exact ov (by omega)
  obtain⟨R,hR⟩:∃R,OD p n k=R:=⟨_,rfl⟩
  have HR:Hid (Rn p n PT k R [] true F 0 0):=⟨.inl ⟨by show((0:Nat):Int)<k;omega,by rw[<- hR,<- rO,<- hF];rfl⟩,by simp[Nr],by simp⟩
  have uk:=zh (KM dJ hR);rw[hF]at Ey mo nr lS;rw[rO]at mo nr;have HF:=zh hF;have KC:=zh rO;have IA:=zh hn;have qG:=zh fv;have Hk:=zh hk;have Bt:=zh iI;have gn:=zh hW;clear hF rO hR hm lC ct wH jU dJ hW;go_upto_region 3 with(fail);refine fh (w0:=w0) 5 [false,false,false,true,true] (by kernel_rfl) (by kernel_rfl) (gn.out) ?_;simp only[ek,dD,zT]
  iterate 3 (apply ei rfl;(intro W hW;go_simp;with_reducible rfl);simp only[zA])
  intro W hW;refine Or.inl ⟨rfl,?_⟩
  go_simp
  (with_reducible refine(lD _ _ _ n W (iL.out W hW) (by omega) (fun v es hv=>Nat.le_trans (sw.out v es hv) (by omega))).mono ?_)
  rintro e W' ⟨u1,S1,rfl,ij,aX⟩;refine⟨_,rfl,hW.trans aX,?_⟩
  replace hW:=hW.trans aX
  obtain⟨AU,mU,cU,rfl⟩:=aI.one ij;have Gb:=zh (HF.out ▸ ij.read);have Qq:Hid (w0.heap.size<=W'.heap.size):=(aa.below hW).size;clear ij aX
  (try simp only[zA])
  refine Or.inl ⟨rfl,?_⟩
  go_simp
  (with_reducible refine(ot _ _ _ _ _ _ p n F 200000 _ (f5.out _ hW) (iL.out _ hW) Gb.out lS Ey.out).mono ?_)
  rintro e W' ⟨sb,ul,uf,SL,rfl,hS,nQ,hb⟩;refine⟨_,rfl,hW.trans hb,?_⟩
  replace hW:=hW.trans hb
  rw[KC.out]at hS;have rP:=zh (hS.mono Qq.out);have vO:Hid (w0.heap.size<=sb):=Nat.le_trans Qq.out nQ;clear hS hb nQ
  (try simp only[zA])
  simp only[bj];have HW:=zh hW;obtain⟨B1,eA⟩:∃B1,B1=W'.heap.size:=⟨_,rfl⟩
  have acX:sb<B1:=by rw[eA];exact rP.out.1.lt
  have abV:Hid (∀j,uf.ownBlock=some j->sb+1<=j/\j<B1):=by rw[eA];exact rP.out.uf
  have aab:Hid (∀j∈SL,j<sb):=rP.out.2.2.1
  have HwB:Hid (w.heap.size<=B1):=by show _<=_;rw[eA];exact Nat.le_trans bQ.out.size HW.out.below.size
  have abW:Hid (w0.heap.size<=B1):=by show _<=_;rw[eA];exact HW.out.below.size
  have HBW:Hid (B1<=W'.heap.size):=by show _<=_;rw[eA];exact Nat.le_refl _
  clear hW eA;go_wp2
  go_loopw [9] (fun cv wr=>∃(s:List (List (List Int))) (So:List Nat) (fr:Bool) (l:List (List Int)) (aO st:Int),iv wr B1 cv s So/\(0<=aO/\aO<=PT.length/\0<=st/\st<=200000)/\Rn p n PT k R s fr l aO st/\cj wr sb (jv p (.slice P0 p.nodes.length eP) (.slice P1 p.ac3.length eB) (.slice A n.ends.length c) (.slice A2 n.ids.length c2) (.slice A3 n.ac1.length c3) ul uf aO st 200000 fr) l PT ul uf SL w0.heap.size/\(eC n.ends l/\rK (p.labels-1) l)/\(aa w0 wr/\B1<=wr.heap.size)) (fun _ wr=>IB wr sb+ap 200000 (jS wr sb 9) (jS wr sb 10))
  case atStart=>exact⟨[],[],true,F,0,0,jA _ _,⟨by omega,by omega,by omega,by omega⟩,HR.out,rP.out,⟨fU.out,kp.out⟩,⟨HW.out,HBW.out⟩⟩
  case round=>
   obtain⟨s,So,fr,l,aO,st,hO,⟨iT,lX,dw,dZ⟩,it,fp,hinv,hb⟩:=hrel;have HO:=zh hO;obtain⟨AO,mO,cO,rfl⟩:=ge.one hO
   have hmO:mO=s.length:=by
    obtain⟨vs0,Ss0,e0,-⟩:=id hO;rcases e0.2 with⟨hv,hz⟩ | ⟨g,cap,cur,hv,-⟩
    ·simp only[Value.slice.injEq]at hv;omega
    ·simp only[Value.slice.injEq]at hv;omega
   subst hmO;clear hO;obtain⟨it,aac,I0⟩:=it;have UM:=zh aac;clear aac
   by_cases aH:(s.length:Int)<k
   ·have GG:Qp (k9 k) p n.ends PT 200000 fr s l aO st=R:=by
     rcases it with h | h
     ·exact h.2
     ·exact absurd aH h.1
    obtain⟨M0,ww⟩:∃z,IB wr sb+ap 200000 (jS wr sb 9) (jS wr sb 10)=z:=⟨_,rfl⟩
    have yl:=zh ww
    have Ab:Hid ((if fr=true then 1 else 0)+ap 200000 aO st=M0):=by
     show _=_
     obtain⟨d0,d1,d2,d3,d4,d5,d6,d7,d8,d9,tG,CC,Af⟩:=cn fp.1;rw[<- ww,cx d9,cx tG,uV Af]
    have qH:=zh (FQ p n _ _ _ _ _ ul uf sb SL w0.heap.size PT 200000 aO st fr l wr vO.out (fun X hX=>f5.out X (Below.trans hb.1 hX)) (fun X hX=>iL.out X (Below.trans hb.1 hX)) fp IA.out jP.out Bt.out qG.out hinv.1 hinv.2 nr.out mo.out ⟨by omega,by omega⟩ ⟨iT,lX⟩ ⟨dw,dZ⟩ sw.out)
    obtain⟨r,hr⟩:∃r,uh p n.ends PT 200000 fr l aO st=r:=⟨_,rfl⟩
    have zQ:=zh (wG (k9 k) p n.ends PT 200000 fr s l aO st iT lX dZ r hr);rw[GG]at zQ;rw[hr]at qH;have Hb:=zh hb;clear hr ww fp hinv it hb GG;go_wp2_with fail;refine qH.out.mono ?_;rintro e W2 ⟨rfl,uW,pW,bJ⟩;have qB:=zh uW;have CF:=zh pW
    have tM:=zh (ge.only HO.out bJ.o (fun j hj hm=>by
     have h8:=(ge.range HO.out j hj).1;rcases List.mem_cons.1 hm with h | h
     ·omega
     ·have:=aab.out j h;omega))
    have gn:=zh (show aa w0 W2 from Below.trans Hb.out.1 bJ.b);have HZ2:Hid (B1<=W2.heap.size):=Nat.le_trans Hb.out.2 bJ.b.size;clear uW pW bJ
    by_cases h3:r.1=3
    ·have fH:(r.1==3)=true:=by simpa using h3
     have jy:=zQ.out.1;rw[if_neg (by omega)]at jy;have jm:=uk.out.1;have lY:=uk.out.2;rw[jy,if_pos h3]at jm;rw[jy,decide_eq_true h3]at lY;have H0:=zh jm;have H1:=zh lY;clear jy jm lY h3;go_wp2
     go_ret2
     rw[H0.out,H1.out];exact⟨_,_,rfl,jA _ _,by simp[Nr],aa.after bQ.out gn.out⟩
    ·have acY:(r.1==3)=false:=by simpa using h3
     by_cases h2:r.1=2
     ·have fH:(r.1==2)=true:=by simpa using h2
      have jy:=zQ.out.1;rw[if_neg (by omega)]at jy;have jm:=uk.out.1;have lY:=uk.out.2;rw[jy,if_neg h3]at jm;rw[jy,decide_eq_false h3]at lY;have H0:=zh jm;have H1:=zh lY;clear jy jm lY h3 h2;go_wp2
      go_ret2
      rw[H0.out,H1.out]
      exact⟨_,_,rfl,ge.mono tM.out HwB.out,by have:=UM.out;show Nr s<=_;omega,aa.after bQ.out gn.out⟩
     ·have fH:(r.1==2)=false:=by simpa using h2
      have h1:r.1=1:=by rcases zQ.out.2.2 with h | h | h <;> omega
      have jy:=zQ.out.1;rw[if_pos h1]at jy;obtain⟨e1,e2,e3,e4⟩:=zQ.out.2.1 h1;have E4:=zh e4;have KE:=zh jy;have H1r:=zh h1;obtain⟨Ki,DE⟩:=mr IA.out CF.out.1;have Hl6:=zh DE;have hc7:=(cn qB.out.1).2.2.2.2.2.2.2.1;have q7:=ab hc7;have hL:=qB.out.rows;have HL:=zh (show ∀X,aa W2 X->a_ X ul r.2.1 from fun X hX=>hL.ac2 hX.below)
      obtain⟨AL,cL,rfl,f_,hmc,-⟩:=hL;unfold maxLen at hmc;clear jy e4 h1 h2 h3 DE hc7
      have HnL:=zh (show ∀j,(Value.slice AO s.length cO).ownBlock=some j->B1<=j from fun j hj=>by
       obtain⟨vs,Ss,r1,r2,r3,r4,r5⟩:=id tM.out
       exact(ge.range tM.out j (by rw[r4,hj];simp)).1)
      have Jq:(s.length:Int)+1<=50:=by have:=Hk.out;omega
      have abX:s.length+1<=4000000:=by omega
      have R7:=zh dw;clear iT lX dw dZ;have q77:=q7 W2 (ad _);go_wp2_with fail;refine(wb _ r.2.1 W2 (HL.out _ (ad _)) (by omega) (fun v row hv=>Nat.le_trans (Hl6.out v row hv) (by omega))).mono ?_
      rintro e W' ⟨u2,T2,rfl,dW,bJ⟩;obtain⟨A2',m2',EH,rfl⟩:=aI.one dW;have nW:=zh dW;obtain⟨WA,Aj⟩:∃WA,WA=W'.alloc (.cells #[.slice A2' m2' EH] 24):=⟨_,rfl⟩
      have hW:aa W2 WA:=by rw[Aj];exact ae _ bJ
      have HWA:=zh Aj;clear q77 dW bJ;clear q7;have OB:=zh hW;have HoO:=zh (ge.ac2 tM.out OB.out.below)
      have Kh:Hid (bz WA B1 (.slice A2' m2' EH) r.2.1 T2):=by rw[Aj];exact aI.mono (aI.ac2 nW.out (ao _ _)) HZ2.out
      have HD:=zh (show ∀j∈T2,j∉So from fun j hj hS=>by have h1:=(aI.range nW.out j hj).1;have:=(ge.range tM.out j hS).2;omega)
      have Qt:WA.cell? ⟨W'.heap.size,0,none⟩=some (.slice A2' m2' EH):=by rw[Aj];simp
      have KK:=zh Qt;have Vd:Hid (B1<=WA.heap.size):=Nat.le_trans HZ2.out OB.out.below.size;have HSA:=zh (qB.out.ac8 OB.out.below);clear hW Aj Qt
      go_wp2_with (at_builtin;rw[<- HWA.out];refine wN rfl _ _ rfl rfl HoO.out W'.heap.size rfl KK.out Kh.out HD.out abX Vd.out ?_;intro g cc w3 S3 iH nB aG;have Ve:=zh nB;have pP:=zh aG;have wO:=zh iH;clear iH nB aG)
      have BH:=zh (HSA.out.ac4 (w':=w3) (fun j hj=>by
       have tB:j<B1:=by
        rcases hj with h | h | h
        ·omega
        ·have:=aab.out j h;omega
        ·exact(abV.out j h).2
       exact Ve.out.block j (by have:=Vd.out;omega) (fun e=>by have:=HnL.out j e.symm;omega)))
      go_roundw
      case rel=>
       refine⟨s++[r.2.1],S3,false,r.2.1,r.2.2.1,r.2.2.2,wO.out,⟨by omega,by omega,by have:=R7.out;omega,by omega⟩,⟨?_,?_,?_⟩,BH.out,CF.out,⟨?_,?_⟩⟩
       ·by_cases jN:((s++[r.2.1]).length:Int)<k
        ·refine .inl ⟨jN,?_⟩;have h7:=KE.out
         rw[if_pos (show(k9 k s r.2.1).1=true from decide_eq_true (by rw[List.length_append]at jN;exact jN))]at h7
         exact h7.symm
        ·refine .inr ⟨jN,?_⟩;have h7:=KE.out
         rw[if_neg (show ¬(k9 k s r.2.1).1=true from fun h=>jN (by rw[List.length_append];exact of_decide_eq_true h))]at h7
         rw[h7];exact⟨rfl,H1r.out⟩
       ·rw[Ji,List.length_append];have h8:=zl Hl6.out;have h9:=UM.out;simp only[List.length_cons,List.length_nil];omega
       ·rw[List.length_append];simp only[List.length_cons,List.length_nil];omega
       ·exact Below.trans (gn.out.after OB.out) (pP.out.mono abW.out)
       ·exact Nat.le_trans Vd.out pP.out.size
      case measure=>
       obtain⟨d0,d1,d2,d3,d4,d5,d6,d7,d8,d9,tG,CC,Af⟩:=cn BH.out.1;rw[yl.out,cx d9,cx tG,uV Af,<- Ab.out]
       have:=E4.out
       cases fr <;> simp at this ⊢ <;> omega
   ·have GG:R.1=s/\R.2.1=1:=by
     rcases it with h | h
     ·exact absurd h.1 aH
     ·exact h.2
    have jm:=uk.out.1;have lY:=uk.out.2;rw[if_neg (by omega),GG.1]at jm;rw[decide_eq_false (by omega)]at lY;have H0:=zh jm;have H1:=zh lY;have Hb:=zh hb;clear jm lY GG it fp hinv hb;go_wp2
    go_ret2
    rw[H0.out,H1.out]
    exact⟨_,rfl,⟨_,ge.mono HO.out HwB.out⟩,by have:=UM.out;show Nr s<=_;omega,aa.after bQ.out Hb.out.1⟩
 ·have hk:rR p n k=false:=by unfold rR;revert hg;cases dF p <;> cases aW n <;> cases fT 1 50 k <;> simp
  obtain⟨h0,h1⟩:=Qu hk;have HW:=zh hW;have H0:=zh h0;have H1:=zh h1;clear hW h0 h1;go_wp2
  go_ret2
  rw[H0.out,H1.out];exact⟨_,_,rfl,jA _ _,by simp[Nr],aa.after bQ.out HW.out⟩
end Go.Proofs.YtnioemnkfojmkaaGreat
