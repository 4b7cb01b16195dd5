/- Parts of the proof: walks of functions and plain laws. -/
import Derived.Test.YtnioemnkfojmkaaGreatP24
set_option maxRecDepth 100000
set_option maxHeartbeats 16000000
namespace Go.Proofs.YtnioemnkfojmkaaGreat
open Go Go.RowKit
def lu (M:List (List Int)) (v k x:Nat):Bool:=aO (ak M v k) x
def aa1 (p:aq) (n:ao) (M:List (List Int)) (f v:Nat) (i:Int) (w:World) (e:Ending) (w':World):Prop:=
 ∃u,e=.returned u/\Own w' w.heap.size u (me p n (lu M) p.labels.toNat f v i)/\Below w.heap.size w w'
def BrS (p:aq) (n:ao) (M:List (List Int)) (f:Nat):Prop:=∀(v:Nat) (i:Int) (pa pb va vb vc vm:Value) (w:World),el w pa pb p->aR w va vb vc n->bS w vm M->v<n.ends.length->n.ends.length<=gK n v+f+1->qg n v i ->
  Calls Tryz.prog 116 #[.agg #[.int .i64 p.labels,.int .i64 p.degree,pa,pb],.agg #[va,vb,vc],vm,.int .i64 v,.int .i64 i] w (aa1 p n M f v i w)
theorem ye {p:aq} {n:ao} {M:List (List Int)} (cC:bV p=true) (hn:ar n=true) (hM:uA n M) (gM:p.agW.length<=1048576) (hc:io n) (f:Nat) (hIH:∀g,f=g+1->BrS p n M g):BrS p n M f:=by
 intro v i pa pb va vb vc vm w hp h hm hv hf kh;obtain⟨eV,hst⟩:=aE cC;obtain⟨iX,iz⟩:=eX hn;obtain⟨lb,eK⟩:∃z:Nat,p.labels=(z:Int):=⟨p.labels.toNat,zO⟩
 have pm:p.labels.toNat=lb:=zO
 have pY:1<=lb/\lb<=8:=zO
 obtain⟨es,aU⟩:=au n.ends v hv;obtain⟨q,hq⟩:=J_ es.length
 have hq6:q<=6:=by rw[hq];exact iz v es aU
 have FV:(n.ends.getD v []).length=q:=by rw[ag aU,hq]
 obtain⟨yy,yz⟩:=kh.rng hn;rw[FV]at yz
 have af6 : -1<=i/\i<=100:=by
  refine⟨yy,?_⟩
  by_cases h0:0<=i
  ·have:=yz h0;omega
  ·omega
 obtain⟨kq,iP⟩:=au M v (by rw[hM.shp.1];exact hv)
 have Yw:kq.length=q:=by rw[gz hM.shp iP,FV]
 obtain⟨dn,Y0⟩:=J_ (I0 p n (lu M) lb (yv p n (lu M) lb f) v)
 obtain⟨Hdn,HIH,HM,jB,Hn,JG,Hc,nr,Il,Hf⟩:=I_ Y0 hIH hm cC hn hM hc hst kh hf;obtain⟨My,Hi2,ni,Hq,rV,SG,ka,po⟩:=G_ FV yz aU hq iP Yw eK pm;obtain⟨AM,cM,rfl,-,-,-⟩:=id hm;have Tm:M.length=n.ends.length:=hM.shp.1;have O5:=zh Tm
 obtain⟨w0,A,c,A2,c2,A3,c3,P0,iG,P1,it,rfl,rfl,rfl,fR,hm,gC,jz,HA,H,rfl,rfl,jj,jk,jl,jm,jn,jo,HP,cD,aY,fp,fE,fM,ku,nY,oW,oX⟩:=Ah hp h;clear hp h
 obtain⟨gO,iD,Cn⟩:=B_ (Ai HP.out) (ET H.out) (GQ (HM.out.agU aY.out));obtain⟨A',c',wb,-,-,hAA⟩:=id H.out.es;cases wb;obtain⟨bE,oE,uE,hAe,Vo,hrE⟩:=hAA v es aU;subst hAe;obtain⟨AE,zE,rfl,-,-,hEE⟩:=hrE;rw[<- hq]at Vo;obtain⟨Qk,HEE⟩:=A_ (ae Vo) hEE;obtain⟨_,_,e8,-,-,sL⟩:=Cn w0 (aa _);cases e8;obtain⟨b8,o8,u8,e9,c8,s9⟩:=sL v kq iP;subst e9;obtain⟨AR,cR,rfl,-,-,-⟩:=id s9;have MT:=zh (zpI s9);rw[Yw]at c8;have DZ:=zh (ae c8);have hvM:v<M.length:=ah iP
 have yt:∀W,ab w0 W->W.cell? ⟨w.heap.size,0,none⟩=some (.int .i64 (lb:Int)):=fun W hW=>by rw[<- eK];exact fp W hW
 have aK:ab w0 w0:=aa _;have aa2:=Qk w0 aK;clear cC hn iz eV eK hM hc hst kh hf aU hq iP Yw Y0 hIH hm hAA Vo hEE sL s9 c8 FV yz pm Tm iX
 go_enter Tryz.func116,Tryz.ntmps116
 go_upto_region 1 with(fail);rw[<- cD.out];go_upto_region 3 with(fail);clear aa2
 go_loopw [11,27] (fun u t wr=>∃(j:Nat) (S:List Nat),j<=q/\t=.int .i64 j/\bu wr w0.heap.size u (fL lb i dn j) S/\ab w0 wr) (fun _ t _=>q-(intOf t).toNat)
 case atStart=>exact⟨0,_,Zac _,rfl,by simpa[fL]using iW _ _,aK⟩
 case round=>
  obtain⟨j,S,hj,rfl,ho,hs⟩:=hrel;obtain⟨Ho,Hs⟩:=A_ ho hs;clear ho aK
  by_cases aA:j<q
  ·obtain⟨⟨k0,k1⟩,hx⟩:=au es j (by rw[<- Hq.out];exact aA)
   obtain⟨k,m,NQ,e3,qE,gC⟩:=pM Hn ni hx;cases e3
   have qR:Lk n v j k m:=by unfold Lk bA;rw[ag ni.out];exact hx
   obtain⟨b1,o1,ja,qD,jL⟩:=HEE j _ hx;subst ja;have d1:=bc hs.below qD;have d2:=bc hs.below jL;have m3:=zw j;obtain⟨ba,Fl⟩:=J_ wr.heap.size
   obtain⟨W1,sl⟩:=J_ (wr.alloc (.cells #[.int .i64 k,.int .i64 m] 104))
   have dw:ab wr W1:=by rw[sl];exact ad _ (aa _)
   have g1:∀W,ab W1 W->W.cell? ⟨ba,0,none⟩=some (.int .i64 k):=ae (by rw[Fl,sl];simp)
   have g2:∀W,ab W1 W->W.cell? ⟨ba,1,none⟩=some (.int .i64 m):=ae (by rw[Fl,sl];simp)
   obtain⟨VP,Qf,di,Vq⟩:=C_ sl Fl dw qR;have l0:=yt W1 (Hs.after dw);clear hx qD jL sl Fl dw qR qE;go_upto_region 5 with(fail);rw[<- VP.out,<- Qf.out];clear d1 d2
   go_upto_region 6 with(at_make;refine lT _ rfl _ _ rfl _ _ lb rfl rfl rfl rfl zO ?_;intro W2 dD aS dY)
   have fH:ab W1 W2:=aS;have eU:=zh fH;obtain⟨bo,kv⟩:=J_ W1.heap.size
   rw[<- kv]at dD dY ⊢;obtain⟨mg,qU,yF⟩:=B_ dD dY kv;clear dD aS dY fH kv l0
   by_cases nh:(j:Int)=i
   ·have hjb:((j:Int)==i)=true:=by simp[nh]
    have Cx:Hid (fL lb i dn (j+1)=fL lb i dn j++[[]]):=by show _=_;rw[qf,if_pos nh]
    obtain⟨tc,HoF⟩:=A_ ((Hs.out.after di.out).after eU.out) (aL.agU (aL.agU Ho.out (di.out.after eU.out).below) (am W2 (.cells #[.slice none 0 0] 28)))
    have qR:Hid ((fL lb i dn j).length+1<=4000000):=by show _<=_;rw[fm];omega
    clear nh
    go_wp2_with (at_builtin;refine mh rfl _ _ rfl rfl HoF W2.heap.size rfl (by simp[go_sem]) (fA _ _) (fun j hj=>by simp[Value.ownBlock]at hj) qR.out (Zak tc.out.below.size zS) ?_;intro g cc w3 S3 gZ er)
    rw[<- Cx.out]at gZ;have HsE:Hid (ab w0 w3):=Zbw (ad _ tc) er;have uU:=zh gZ;clear gZ er;go_roundw
    exact⟨j+1,S3,zO,zN,uU,HsE⟩
    simp[intOf];omega
   ·have hjb:((j:Int)==i)=false:=by simp[nh]
    have Cx:Hid (fL lb i dn (j+1)=fL lb i dn j++[iO lb (dn j)]):=by show _=_;rw[qf,if_neg nh]
    obtain⟨Ge,Ub⟩:=Il.child Hn Hc Vq nh;have WA:=(Vq.lt Hn).2.1;have aa3:=yZ Hn WA;have hfv:=Hf.out;obtain⟨g,hg⟩:∃g,f=g+1:=⟨f-1,zO⟩
    obtain⟨br,r_⟩:=J_ (yv p n (lu M) lb f k m)
    have oU:me p n (lu M) lb g k (m:Int)=iO lb br:=by
     unfold me;rw[if_neg zO,Zag,r_,hg]
    have TV:=(Lk.of Hn (by rw[My.out];exact aA)).fn Vq
    obtain⟨fe,Fs⟩:∃z:Nat->Nat->Nat,z=fun (a b:Nat)=>if edgeB p (a:Int) (b:Int)=true then br b else 0:=⟨_,rfl⟩
    obtain⟨x,P9⟩:=au kq j (by rw[SG.out];exact aA)
    have pc:=JG.rng v kq j x rV P9
    have dK:∀a,lu M v j a=aO x a:=fun a=>by unfold lu ak;rw[ag rV.out,ag P9]
    have Uc:∀a,dn j a=if aO x a=true then bt lb (fe a) else 0:=fun a=>by
     rw[Hdn.out];unfold I0;rw[dK a,TV.1,TV.2,Fs,r_]
    have tc:=zh ((Hs.out.after di.out).after eU.out);have Vr:=zh (HIH.out g hg k (m:Int) _ _ _ _ _ _ W2 (gO.out W2 tc.out) (iD.out W2 tc.out) (Cn.out W2 tc.out) WA zO Ub);rw[ka.out]at Vr;obtain⟨EX,aa4,Hfe,YX,Hxm⟩:=D_ oU Uc Fs pc P9;have y0:=yt W2 tc;have y1:=fE W2 tc;have y2:=fM W2 tc;have y3:=ku W2 tc;have y4:=nY W2 tc;have y5:=oW W2 tc;have y6:=oX W2 tc;have y7:=g1 W2 eU;have y8:=g2 W2 eU;clear nh Ge Ub WA aa3 hfv oU TV dK Uc Fs pc P9 r_ hg;go_wp2_with fail;refine Vr.mono ?_;rintro e W4 ⟨u4,rfl,jA,pu⟩;rw[po.out,EX.out]at jA;have oh:ab W2 W4:=pu;rcases jA.cases with⟨-,h0⟩ | ⟨g4,c4,rfl,Ud,-⟩
    ·exfalso
     have:=jy lb br
     rw[h0]at this;simp at this
     omega
    rw[jy]at jA ⊢;have Hg4:Hid (W2.heap.size<=g4):=Ud;have vQ:=zh jA
    have BX:Hid (Own W4 bo (.slice (some ⟨bo,0,none⟩) lb lb) (lJ lb 0 (dn j) 0)):=by show Own _ _ _ _;rw[xj];exact mg.since oh
    obtain⟨vN,RD,RC⟩:=B_ (eU.out.after oh) (aL.agU Ho.out di.out.below) (Hs.out.after di.out);obtain⟨b9,o9,e9,hc9⟩:=kU (MT w0 (aa _)) Hxm;subst e9;have Yo:=zh (ae hc9);clear y0 y1 y2 y3 y4 y5 y6 y7 y8 jA pu oh Ud hc9 Vr mg g1 g2;go_upto_region 10 with(fail)
    go_loopw [51] (fun t wr=>∃a:Nat,a<=lb/\t=.int .i64 a/\Own wr bo (.slice (some ⟨bo,0,none⟩) lb lb) (lJ lb a (dn j) 0)/\Own wr W2.heap.size (.slice (some ⟨g4,0,none⟩) lb c4) (iO lb br)/\ab W1 wr) (fun t _=>lb-(intOf t).toNat)
    case atStart=>exact⟨0,Zac _,rfl,BX,vQ,vN⟩
    case round=>
     clear BX vQ vN;obtain⟨a,ha,rfl,MY,jA,MZ⟩:=hrel;obtain⟨BX,vQ,vN⟩:=B_ MY jA MZ;clear MY jA MZ
     by_cases CZ:a<lb
     ·have m5:=zw a;obtain⟨wo,rfl⟩:=J_ wr
      go_upto_region 13 with(fail)
      go_loopw [56] (fun t wr=>∃b:Nat,b<=lb/\t=.int .i64 b/\Own wr bo (.slice (some ⟨bo,0,none⟩) lb lb) (lJ lb a (dn j) (if aO x a=true then aF (bt b (fe a)) else 0))/\Own wr W2.heap.size (.slice (some ⟨g4,0,none⟩) lb c4) (iO lb br)/\ab W1 wr) (fun t _=>lb-(intOf t).toNat)
      case atStart=>exact⟨0,Zac _,rfl,by have:=BX.out;split <;> exact this,vQ,vN⟩
      case round=>
       clear BX vQ vN;obtain⟨b,hb,rfl,MY,jA,MZ⟩:=hrel;obtain⟨BX,vQ,vN⟩:=B_ MY jA MZ;clear MY jA MZ
       by_cases aa5:b<lb
       ·have m6:=zw b;obtain⟨wi,rfl⟩:=J_ wr
        have wF:ab w0 wi:=RC.after vN;have Mk:=zh wF;have DJ:=vQ.cell (lq (L:=lb) (f:=br) aa5);have Vs:=zh (fun W=>mT x a W YX.out zO)
        have Vt:=zh (show ∀W,ab wi W->Calls Tryz.prog 142 #[.agg #[.int .i64 (lb:Int),.int .i64 p.degree,.slice P0 p.nodes.length iG,.slice P1 p.agW.length it],.int .i64 a,.int .i64 b] W fun e w'=>e=.returned (.bool (edgeB p a b))/\Below W.heap.size W w' from fun W hW=>by
         have h9:=Af _ _ p a b W (gO W (Mk.after hW)) nr gM;rw[ka.out]at h9
         exact h9)
        go_upto_region 15 with(fail);clear DJ;have z0:=fun W (hW:ab wi W)=>DZ W (Mk.after hW)
        have z1:=fun W (hW:ab wi W)=>Yo W (Mk.after hW)
        have y0:=fun W (hW:ab wi W)=>yt W (Mk.after hW)
        have y1:=fun W (hW:ab wi W)=>fE W (Mk.after hW)
        have y2:=fun W (hW:ab wi W)=>fM W (Mk.after hW)
        have y3:=fun W (hW:ab wi W)=>ku W (Mk.after hW)
        clear wF;refine aM 15 (ab wi) (aa _) ?_;simp only[zT]
        iterate 8 (refine ch rfl ?_;simp only[zA])
        apply dE _ rfl;(intro W hW;unfold a_;go_simp;with_reducible exact zQ (Vs.out W));simp only[zA]
        refine ch rfl ?_;simp only[zA]
        iterate 3 (refine iT rfl rfl ?_;simp only[zA])
        apply bn rfl rfl;(intro hb;intro W hW;unfold a_;go_simp;with_reducible exact zQ (Vt.out W hW));simp only[zA]
        (first | refine dy rfl rfl ?_ | (refine ch rfl ?_));simp only[zA]
        intro W hW;obtain⟨Ue,Uf,Ug⟩:=B_ (BX.out.since hW) (vQ.out.since hW) (vN.out.after hW);clear hW y0 y1 y2 y3 z0 z1;have tZ:∀y,edgeB p (a:Int) (b:Int)=y->fe a b=if y=true then br b else 0:=fun y hy=>by rw[Hfe.out,<- hy]
        cases hG:(aO x a&&edgeB p (a:Int) (b:Int))
        ·have Az:Hid ((if aO x a=true then aF (bt (b+1) (fe a)) else 0)=(if aO x a=true then aF (bt b (fe a)) else 0)):=by
          show _=_
          cases aP:aO x a
          ·rfl
          ·rw[aP,Bool.true_and]at hG;have h1:=tZ _ hG;rw[if_neg zS]at h1;rw[if_pos rfl,if_pos rfl];show aF (bt b (fe a)+fe a b)=_
           rw[h1,Nat.add_zero]
         clear tZ;go_wp2;go_roundw
         exact⟨b+1,zO,zN,by rw[Az.out];exact Ue,Uf,Ug⟩
         simp[intOf];omega
        ·have Vu:=hG;rw[Zai]at Vu;have h1:=tZ _ Vu.2;rw[if_pos rfl]at h1;have sZ:(if aO x a=true then aF (bt b (fe a)) else 0)=aF (bt b (fe a)):=if_pos Vu.1;have Vv:=Ue.out;rw[sZ]at Vv
         have Po:aF (aF (bt b (fe a))+aF (br b))=(if aO x a=true then aF (bt (b+1) (fe a)) else 0):=by
          rw[if_pos Vu.1,<- h1];exact ze (fe a) b
         have Ay:=zh Po;have dU:=Vv.cell (zg (f:=dn j) (c:=aF (bt b (fe a))) CZ);have hfz:=gX Vv a;have n_:=zh (Own.set (k:=a) ((aF (aF (bt b (fe a))+aF (br b)):Nat):Int) Vv)
         have vR:=zh (show Own (W.setCell ⟨bo,a,none⟩ (.int .i64 ((aF (aF (bt b (fe a))+aF (br b)):Nat):Int))) W2.heap.size (.slice (some ⟨g4,0,none⟩) lb c4) (iO lb br)from aD Uf.out (fun q hq=>Zan _ _ _ q (by
          have h5:=Hg4.out;have h6:=qU.out;have h7:q=g4:=by simpa[Value.ownBlock,eq_comm]using hq
          show q≠bo
          omega)))
         have jF:=zh (Ug.out.setCell (p:=⟨bo,a,none⟩) (by show W1.heap.size<=bo;rw[yF.out];exact Zaj _) (.int .i64 ((aF (aF (bt b (fe a))+aF (br b)):Nat):Int)))
         obtain⟨cu,f8⟩:=K_ (aF (bt b (fe a)))
         obtain⟨bv,Y2⟩:=K_ (aF (br b))
         rw[f8]at dU n_ vR jF Ay;rw[Y2]at n_ vR jF Ay ⊢
         have lh:cu<=1000000000001:=by rw[<- f8];exact eH _
         have Xq:bv<=1000000000001:=by rw[<- Y2];exact eH _
         have T_:=zh (fun W=>pX cu bv W lh Xq)
         clear tZ Vu h1 sZ Vv Po f8 Y2 lh Xq;go_wp2_with fail;refine(T_ W).mono ?_;rintro e W5 ⟨rfl,rfl⟩;go_wp2;go_roundw
         exact⟨b+1,zO,zN,by have h8:=n_.out;rw[BV]at h8;rw[<- Ay.out];exact h8,vR,jF⟩
         simp[intOf];omega
       ·obtain rfl:b=lb:=zO
        have si:Hid (lJ b a (dn j) (if aO x a=true then aF (bt b (fe a)) else 0)=lJ b (a+1) (dn j) 0):=by
         show _=_
         rw[<- sQ];congr 1
         rw[aa4.out a]
         split <;> rfl
        go_wp2;go_roundw
        exact⟨a+1,zO,zN,by rw[<- si.out];exact BX,vQ,vN⟩
        simp[intOf];omega
     ·obtain rfl:a=lb:=zO
      have Uh:=BX.out;rw[BW]at Uh;have hSr:=aL.range RD;have Ui:=yF.out
      have Hd:Hid (∀j,(Value.slice (some ⟨bo,0,none⟩) a a).ownBlock=some j->j∉S):=fun j hj Q_=>by
       have h1:=(hSr _ Q_).2;have h2:j=bo:=by simpa[Value.ownBlock,eq_comm]using hj
       omega
      have HsX:Hid (ab w0 wr):=RC.after vN;have HoX:=zh (aL.agU (aL.agU RD.out vN.out.below) (am wr (.cells #[.slice (some ⟨bo,0,none⟩) a a] 28)))
      have Uj:w0.heap.size<=bo:=by rw[Ui];exact RC.below.size
      have HoR:=zh ((Uh.mono Uj).agU (am wr (.cells #[.slice (some ⟨bo,0,none⟩) a a] 28)))
      have qR:Hid ((fL a i dn j).length+1<=4000000):=by show _<=_;rw[fm];omega
      clear Uh hSr Ui Uj
      go_wp2_with (at_builtin;refine mh rfl _ _ rfl rfl HoX wr.heap.size rfl (by simp[go_sem]) HoR Hd qR (Zak HsX.below.size zS) ?_;intro g cc w3 S3 gZ er)
      rw[<- Cx.out]at gZ;have HsE:Hid (ab w0 w3):=Zbw (ad _ HsX) er;have uU:=zh gZ;clear gZ er;go_roundw
      exact⟨j+1,S3,zO,zN,uU,HsE⟩
      simp[intOf];omega
  ·obtain rfl:j=q:=zO
   clear hs
   by_cases PO:i<0
   ·have Uk:i = -1:=by
     rcases Il.out with h | ⟨i',_,_,h,_⟩
     ·exact h.1
     ·omega
    have Gh:=zh (Eo _ _ _ p (fL lb i dn j) dn (-1) 0 0 wr (gO.out wr Hs.out) Ho.out.read jB.out (by rw[fm];omega) zO rfl (zX po.out) (by rw[po.out,<- Uk];exact Fy lb i dn j) (by rw[<- Uk];exact I6 lb i dn j))
    obtain⟨z,hz⟩:=K_ (aF (mY p p.labels.toNat (fL lb i dn j).length (jH (-1) 0 dn)))
    have HBr:Hid (me p n (lu M) p.labels.toNat f v i=[(z:Int)]):=by
     show _=_
     unfold me i8
     rw[if_pos PO,<- hz,Fz,fm,My.out,po.out,Hdn.out]
    rw[hz,ka.out]at Gh;have y0:=yt wr Hs;have y1:=fE wr Hs;have y2:=fM wr Hs;have y3:=ku wr Hs;clear hz Uk;go_wp2_with fail;refine Gh.mono ?_;rintro e W5 ⟨rfl,k8⟩;have Ml:Hid (Below w.heap.size w W5):=ab.after aY (Hs.after (show ab wr W5 from k8));clear k8 y0 y1 y2 y3;have xk:=dS W5 [(z:Int)] (by simp[maxLen]);have vZ:=zh xk;clear xk;go_wp2;go_ret;refine⟨_,rfl,?_,?_⟩
    ·rw[HBr.out];exact Own.mono vZ Ml.size
    ·exact ab.after Ml (ad _ (aa _))
   ·obtain⟨hiq,hie⟩:=Hi2 zO;obtain⟨i',hii⟩:=J_ i.toNat
    rw[<- hii]at hiq hie;subst hie;clear hii;have agJ:((i':Int)<0)=False:=zS
    obtain⟨fI,hfI⟩:∃z,z=fun a=>yv p n (lu M) lb (f+1) v i' a:=⟨_,rfl⟩
    have HBr:Hid (me p n (lu M) p.labels.toNat f v (i':Int)=iO lb fI):=by
     show _=_
     unfold me;rw[if_neg PO,Zag,po.out,hfI]
    obtain⟨x,P9⟩:=au kq i' (by rw[SG.out];exact hiq)
    have pc:=JG.rng v kq i' x rV P9
    have dK:∀a,lu M v i' a=aO x a:=fun a=>by unfold lu ak;rw[ag rV.out,ag P9]
    have HfI:Hid (∀a,fI a=if aO x a=true then mY p lb j (jH (i':Int) (a:Int) dn) else 0):=fun a=>by
     rw[hfI];show yv p n (lu M) lb (f+1) v i' a=_
     unfold yv;rw[dK a,MX,Hdn.out,My.out]
    obtain⟨b9,o9,e9,hc9⟩:=kU (MT w0 (aa _)) P9;subst e9;obtain⟨Yo,YX⟩:=A_ (ae hc9) pc;have l0:=yt wr Hs;obtain⟨wR,rfl⟩:=J_ wr
    clear hfI P9 dK hc9 pc PO
    go_upto_region 25 with(at_make;refine lT _ rfl _ _ rfl _ _ lb rfl rfl rfl rfl zO ?_;intro W2 dD aS dY)
    obtain⟨bo,kv⟩:=J_ wR.heap.size
    rw[<- kv]at dD ⊢;rw[<- xj lb fI]at dD;have mg:=zh dD;have eU:Hid (ab wR W2):=aS;have yF:=zh kv;clear dD aS dY kv l0
    go_loopw [103] (fun t wr=>∃a:Nat,a<=lb/\t=.int .i64 a/\Own wr bo (.slice (some ⟨bo,0,none⟩) lb lb) (lJ lb a fI 0)/\ab wR wr) (fun t _=>lb-(intOf t).toNat)
    case atStart=>exact⟨0,Zac _,rfl,mg,eU⟩
    case round=>
     clear mg eU;obtain⟨a,ha,rfl,MY,MZ⟩:=hrel;obtain⟨BX,vN⟩:=A_ MY MZ;clear MY MZ
     by_cases CZ:a<lb
     ·have m5:=zw a;obtain⟨wo,rfl⟩:=J_ wr
      have tD:=Hs.after vN;have Fg:=zh tD;have c1:=DZ wo tD;have yG:=Yo wo tD;clear tD;go_wp2_with fail;refine(mT x a wo YX zO).mono ?_;rintro e W5 ⟨rfl,rfl⟩;have Wv:=HfI a;cases oc:aO x a
      ·rw[oc,if_neg zS]at Wv
       have si:Hid (lJ lb a fI 0=lJ lb (a+1) fI 0):=by
        show _=_
        rw[<- sQ,Wv];rfl
       clear Wv;go_wp2;go_roundw
       exact⟨a+1,zO,zN,by rw[<- si.out];exact BX,vN⟩
       simp[intOf];omega
      ·rw[oc,if_pos rfl]at Wv
       have Gh:=zh (Eo _ _ _ p (fL lb (i':Int) dn j) dn (i':Int) (a:Int) a wo (gO.out wo Fg.out) (bu.read (aL.agU Ho.out vN.out.below)) jB.out (by rw[fm];omega) zO rfl (by rw[po.out];exact CZ) (by rw[po.out];exact Fy lb (i':Int) dn j) (I6 lb (i':Int) dn j))
       rw[po.out,fm,<- Wv,ka.out]at Gh;obtain⟨z,hz⟩:=K_ (aF (fI a))
       have Hz:=zh hz;rw[hz]at Gh;have y0:=yt wo Fg;have y1:=fE wo Fg;have y2:=fM wo Fg;have y3:=ku wo Fg;clear Wv hz c1 yG;go_wp2_with fail;refine Gh.mono ?_;rintro e W6 ⟨rfl,tw⟩;have yq:ab wo W6:=tw;have Xr:=BX.since yq;have dU:=Xr.cell (zg (f:=fI) (c:=0) CZ);have hfz:=gX Xr a;obtain⟨n_,C1⟩:=A_ (Own.set (k:=a) (z:Int) Xr) ((vN.out.after yq).setCell (p:=⟨bo,a,none⟩) (by show wR.heap.size<=bo;rw[yF.out];exact Zaj _) (.int .i64 (z:Int)))
       clear tw yq Xr y0 y1 y2 y3;go_wp2;go_roundw
       exact⟨a+1,zO,zN,by have h8:=n_.out;rw[BV,<- Hz.out,sQ]at h8;rw[Hz.out]at h8;exact h8,C1⟩
       simp[intOf];omega
     ·obtain rfl:a=lb:=zO
      have Uh:=BX.out;rw[BW]at Uh;have HoE:=zh Uh;have Ml:Hid (Below w.heap.size w wr):=ab.after aY (Hs.after vN);clear Uh;go_wp2;go_ret;refine⟨_,rfl,?_,Ml⟩;rw[HBr.out]
      exact Own.mono HoE (by rw[yF.out];exact(ab.after aY Hs:Below w.heap.size w wR).size)
theorem FA {p:aq} {n:ao} {M:List (List Int)} (cC:bV p=true) (hn:ar n=true) (hM:uA n M) (gM:p.agW.length<=1048576) (hc:io n):∀f,BrS p n M f:=by
 intro f
 induction f with
 | zero=>exact ye cC hn hM gM hc 0 fun g hg=>zO
 | succ f ih=>
  refine ye cC hn hM gM hc (f+1) fun g hg=>?_
  obtain rfl:f=g:=zO
  exact ih
theorem jI {w:World} {base:Nat} {v:Value} {q_:List (List Int)} {S:List Nat} (h:bu w base v q_ S) (hl:0<q_.length):∃g c,v=.slice (some ⟨g,0,none⟩) q_.length c:=by
 obtain⟨vs,Ss,h1,-⟩:=h;rcases cj h1 with⟨-,h0⟩ | ⟨g,c,rfl,-⟩
 ·omega
 ·exact⟨g,c,rfl⟩
def Er (p:aq) (n:ao) (M:List (List Int)) (lb m:Nat) (w:World) (e:Ending) (w':World):Prop:=
 ∃(g cm:Nat) (M':List (List Int)) (S:List Nat),e=.returned (.slice (some ⟨g,0,none⟩) m cm)/\bu w' w.heap.size (.slice (some ⟨g,0,none⟩) m cm) M' S/\Qn p n M M'/\JF p n M' lb m 0 0/\Below w.heap.size w w'
def Ul (t:Value):Nat:=match t with
 | .bool true=>1
 | _=>0
theorem I7 (pa pb va vb vc vm:Value) (p:aq) (n:ao) (M:List (List Int)) (w:World) (hp:el w pa pb p) (h:aR w va vb vc n) (hm:bS w vm M) (cC:bV p=true) (hn:ar n=true) (hM:uA n M) (gM:p.agW.length<=1048576) (hc:io n):
  Calls Tryz.prog 109 #[.agg #[.int .i64 p.labels,.int .i64 p.degree,pa,pb],.agg #[va,vb,vc],vm] w (Er p n M p.labels.toNat n.ends.length w):=by
 obtain⟨eV,-⟩:=aE cC;obtain⟨iX,iz⟩:=eX hn;have ly:=(bK hn).1;obtain⟨lb,eK⟩:∃z:Nat,p.labels=(z:Int):=⟨p.labels.toNat,zO⟩
 obtain⟨m,vU⟩:=J_ n.ends.length
 rw[show p.labels.toNat=lb from by omega]
 have pY:1<=lb/\lb<=8:=zO
 have TG:1<=m/\m<=40:=zO
 have Tm:M.length=m:=by rw[vU];exact hM.shp.1
 have I8:∀(v:Nat) (row:List Int),M[v]?=some row->row.length<=17592186044416:=fun v row hr=>by
  obtain⟨es,aU⟩:=au n.ends v (by rw[<- hM.shp.1];exact ah hr)
  rw[gz hM.shp hr,ag aU]
  have:=iz v es aU
  omega
 obtain⟨Um,O5,HM⟩:=B_ I8 Tm hm;obtain⟨AM,cM,rfl,-,-,-⟩:=id hm
 obtain⟨w0,A,c,A2,c2,A3,c3,P0,iG,P1,it,rfl,rfl,rfl,fR,hm,gC,jz,HA,H,rfl,rfl,jj,jk,jl,jm,jn,jo,HP,cD,aY,fp,fE,fM,ku,nY,oW,oX⟩:=Ah hp h;clear hp h
 obtain⟨gO,iD,Cn,jB,Hn,H6,ka,Hm,JG,Hc⟩:=I_ (Ai HP.out) (ET H.out) (GQ (HM.out.agU aY.out)) cC hn iz eK vU hM hc
 have yt:∀W,ab w0 W->W.cell? ⟨w.heap.size,0,none⟩=some (.int .i64 (lb:Int)):=fun W hW=>by rw[<- eK];exact fp W hW
 have aK:ab w0 w0:=aa _;clear cC hn iz eV eK vU hM Tm I8 hm iX ly hc
 go_enter Tryz.func109,Tryz.ntmps109
 go_upto_region 1 with(fail);rw[<- cD.out];go_wp2_with fail
 refine(Al _ M w0 (Cn w0 aK) (by rw[O5.out];omega) Um.out).mono ?_
 rintro e w1 ⟨u,S,rfl,ho,aP⟩
 obtain⟨g,cm,rfl⟩:=jI ho (by rw[O5.out];omega)
 rw[O5.out]at ho ⊢;have HK0:Hid (LS w0 g cm m M S w1):=⟨aP,ho⟩;clear aP ho aK;rw[<- Hm.out];go_upto_region 3 with(fail)
 go_loopw [8] (fun t wr=>∃(b:Bool) (M1:List (List Int)),t=.bool b/\LS w0 g cm m M1 S wr/\Qn p n M M1/\(b=false->JF p n M1 lb m 0 0)) (fun t wr=>Ul t*(nO wr g m+1))
 case atStart=>exact⟨true,M,rfl,HK0.out,Qn.refl JG.out,fun h=>by cases h⟩
 case round=>
  clear HK0;obtain⟨b,M1,rfl,hK1,hP1,hD1⟩:=hrel;obtain⟨Ix,BY,HD1⟩:=B_ hK1 hP1 hD1;obtain⟨wl,rfl⟩:=J_ wr
  clear hK1 hP1 hD1;cases b
  ·have hD:=HD1 rfl;have HD:=zh hD;clear hD;go_wp2;go_ret;rw[<- Hm.out];exact⟨g,cm,M1,S,rfl,aL.mono Ix.ow aY.size,BY,HD,ab.after aY Ix.sn⟩
  ·clear HD1;go_upto_region 6 with(fail)
   go_loopw [8,17] (fun t i wr=>∃(v:Nat) (M':List (List Int)),v<=m/\i=.int .i64 v/\LS w0 g cm m M' S wr/\tb p n M1 lb v 0 0 t M') (fun _ i _=>m-(intOf i).toNat)
   case atStart=>exact⟨0,M1,Zac _,rfl,Ix,BY.ms,⟨fun s _ h=>h,fun _ _ _ _ h=>h⟩,.inl ⟨rfl,rfl,fun u j c _ _ hl=>zO⟩⟩
   case round=>
    obtain⟨v,M',hv,rfl,hK,hR⟩:=hrel;obtain⟨HK,HR⟩:=A_ hK hR;clear hK hR
    by_cases aA:v<m
    ·have m1:=zw v
     obtain⟨es,aU⟩:=au n.ends v (by rw[<- Hm.out];exact aA)
     obtain⟨q,hq⟩:=J_ es.length
     have hq6:q<=6:=by rw[hq];exact H6 v es aU
     obtain⟨row,aG⟩:=au M' v (by rw[HR.out.1.shp.1,<- Hm.out];exact aA)
     have hrq:row.length=q:=by rw[gz HR.out.1.shp aG,ag aU,hq]
     obtain⟨AR,cR,pd,-,-,DJ⟩:=mo HK.ow aG;rw[hrq]at pd;obtain⟨ni,Hq⟩:=A_ aU hq;have HqI:Hid (∀M2,uA n M2->(M2.getD v []).length=q):=fun M2 h2=>by rw[h2.shp.2 v,ag aU,hq]
     obtain⟨wo,rfl⟩:=J_ wr
     clear aU hq aG hrq;go_upto_region 9 with(fail);clear pd
     go_loopw [8,25] (fun t i wr=>∃(j:Nat) (M':List (List Int)),j<=q/\i=.int .i64 j/\LS w0 g cm m M' S wr/\tb p n M1 lb v j 0 t M') (fun _ i _=>q-(intOf i).toNat)
     case atStart=>exact⟨0,M',Zac _,rfl,HK,HR⟩
     case round=>
      clear HK HR;obtain⟨j,M',hj,rfl,hK,hR⟩:=hrel;obtain⟨HK,HR⟩:=A_ hK hR;clear hK hR
      by_cases ij:j<q
      ·have m2:=zw j;obtain⟨wo2,rfl⟩:=J_ wr
       go_upto_region 12 with(fail)
       go_loopw [8,11] (fun t i wr=>∃(a:Nat) (M':List (List Int)),a<=lb/\i=.int .i64 a/\LS w0 g cm m M' S wr/\tb p n M1 lb v j a t M') (fun _ i _=>lb-(intOf i).toNat)
       case atStart=>exact⟨0,M',Zac _,rfl,HK,HR⟩
       case round=>
        clear HK HR;obtain⟨a,M',ha,rfl,hK,hR⟩:=hrel;obtain⟨HK,HR⟩:=A_ hK hR;clear hK hR;have k0:=yt wr HK.sn
        by_cases Xg:a<lb
        ·have m3:=zw a
         obtain⟨row,x,aG,nd,hx,ti,pc⟩:=HR.out.1.at ni.out (show j<es.length by rw[<- Hq.out];exact ij)
         rw[<- Hq.out]at nd;obtain⟨gr,cr,h1,h2,h3,kh⟩:=HK.put aG hx;rw[nd]at h1;obtain⟨dT,yD,Hx,YX,TH⟩:=D_ aG nd hx pc ti;obtain⟨wi,rfl⟩:=J_ wr
         obtain⟨H2,H3,H1⟩:=B_ h2 h3 h1
         have qR:Lk n v j (cF n v j).1 (cF n v j).2:=Lk.of Hn (by rw[ag ni.out,<- Hq.out];exact ij)
         have Gh:=zh (show ∀W,ab wi W->Calls Tryz.prog 154 #[.agg #[.int .i64 p.labels,.int .i64 p.degree,.slice P0 p.nodes.length iG,.slice P1 p.agW.length it],.agg #[.slice A n.ends.length c,.slice A2 n.ids.length c2,.slice A3 n.agT.length c3],.slice (some ⟨g,0,none⟩) m cm,.int .i64 v,.int .i64 j,.int .i64 a] W fun e w'=>e=.returned (.bool (rR p n M' v j a))/\Below W.heap.size W w' from fun W hW=>by
          have hk:=HK.agU hW
          exact Pf _ _ _ _ _ _ p n M' v j a _ _ W (gO W hk.sn) (iD W hk.sn) hk.ow.read jB Hn HR.1 qR (fun e=>Hc.stub (by rw[e]at qR;exact qR)) zO gM)
         rw[ka.out]at Gh;have Vs:=zh (fun W=>mT x a W pc zO)
         have z0:=ae h1;have z1:=ae h2;have y0:=fun W (hW:ab wi W)=>yt W (HK.sn.after hW)
         have y1:=fun W (hW:ab wi W)=>fE W (HK.sn.after hW)
         have y2:=fun W (hW:ab wi W)=>fM W (HK.sn.after hW)
         have y3:=fun W (hW:ab wi W)=>ku W (HK.sn.after hW)
         have y4:=fun W (hW:ab wi W)=>nY W (HK.sn.after hW)
         have y5:=fun W (hW:ab wi W)=>oW W (HK.sn.after hW)
         have y6:=fun W (hW:ab wi W)=>oX W (HK.sn.after hW)
         clear aG nd hx pc ti h1 h2 h3 kh qR;go_upto_region 14 with(fail);clear k0;refine aM 19 (ab wi) (aa _) ?_;simp only[zT]
         iterate 8 (refine ch rfl ?_;simp only[zA])
         apply dE _ rfl;(intro W hW;unfold a_;go_simp;with_reducible exact zQ (Vs.out W));simp only[zA]
         refine ch rfl ?_;simp only[zA]
         iterate 6 (refine iT rfl rfl ?_;simp only[zA])
         apply bn rfl rfl;(intro hb;intro W hW;unfold a_;go_simp;with_reducible exact zQ (Gh.out W hW));simp only[zA]
         refine iT rfl rfl ?_;simp only[zA]
         (first | refine dy rfl rfl ?_ | (refine ch rfl ?_));simp only[zA]
         intro W hW;have Ql:=zh (HK.out.agU hW);clear hW y0 y1 y2 y3 y4 y5 y6 z0 z1;cases hG:(aO x a && !rR p n M' v j a)
         ·have TI:aO x a=true->rR p n M' v j a=true:=fun hb=>by
           rw[hb]at hG;simpa using hG
          go_wp2;go_roundw
          exact⟨a+1,M',zO,zN,Ql,HR.skip (fun hb=>TI (by rw[<- TH.out];exact hb))⟩
          simp[intOf];omega
         ·have Vu:=hG;rw[Zai,Bool.not_eq_true']at Vu;have HG2:=zh Vu;obtain⟨y,V1,qv,Iy,IN⟩:=T7 YX.out (show a<8 by omega) Vu.1
          obtain⟨P,hP⟩:=K_ (((2^a:Nat):Int):Int)
          have LD:IntKind.i64.wrap ((2:Int)^a)=P:=by rw[<- hP];exact(pZ ⟨a,zO⟩).1
          rw[hP]at V1;obtain⟨Vn,WX,a1,a2,a3,kh⟩:=Ql.put dT Hx;rw[yD.out]at a1;obtain⟨HKf,IP,Vj,TJ⟩:=C_ (kh y) qv Iy IN;have m64:min a 64=a:=zO
          clear qv Iy IN kh hP Vu;go_wp2;go_roundw
          exact⟨a+1,_,zO,zN,HKf.out,HR.out.cut jB.out Hn.out (zX ka.out) dT.out Hx.out IP.out Vj.out TJ.out HG2.out.2⟩
          simp[intOf];omega
        ·obtain rfl:a=lb:=zO
         go_wp2;go_roundw
         exact⟨j+1,M',zO,zN,HK,HR.port⟩
         simp[intOf];omega
      ·obtain rfl:j=q:=zO
       go_wp2;go_roundw
       exact⟨v+1,M',zO,zN,HK,HR.node (by unfold ax;rw[HqI.out M' HR.out.1];omega)⟩
       simp[intOf];omega
    ·obtain rfl:v=m:=zO
     have hb:∃sh:Bool,u8=.bool sh:=by
      rcases HR.out.2.2 with q | q
      ·exact⟨false,q.1⟩
      ·exact⟨true,q.1⟩
     obtain⟨sh,rfl⟩:=hb;have e1:=vI HK.ow (by rw[HR.out.1.shp.1,<- Hm.out]);have e2:=vI Ix.ow (by rw[BY.out.ms.shp.1,<- Hm.out])
     have Hme:Hid (Ul (.bool sh)*(nO wr g v+1)<Ul (.bool true)*(nO wl g v+1)):=by
      show _<_
      rw[e1,e2];rcases HR.out.2.2 with q | q
      ·rw[q.1];show 0*_<1*_
       omega
      ·rw[q.1];show 1*_<1*_
       omega
     clear e1 e2;go_wp2;go_roundw
     case rel=>
      refine⟨sh,M',rfl,HK,BY.next HR,fun hf=>?_⟩
      subst hf;rcases HR.out.2.2 with q | q
      ·rw[q.2.1];exact q.2.2
      ·cases q.1
     case measure=>exact Hme
def I9 (l M:List (List Int)) (v i:Nat):Prop:=∀u j,ax l u j->¬(u<v\/u=v/\j<i)->ak M u j=ak l u j
theorem I9.put {l M:List (List Int)} {v i:Nat} {row:List Int} {y:Int} (h:I9 l M v i) (hv:M[v]?=some row) (hi:i<row.length):I9 l (M.set v (row.set i y)) v (i+1):=fun u j hj hn=>by
 rw[eJ hv hi,if_neg zO];exact h u j hj zO
theorem I9.next {l M:List (List Int)} {v i:Nat} (h:I9 l M v i):I9 l M (v+1) 0:=fun u j hj hn=>h u j hj zO
def Un (p:aq) (n:ao) (l:List (List Int)) (w:World) (e:Ending) (w':World):Prop:=
 ∃u S M,e=.returned u/\bu w' w.heap.size u M S/\uA n M/\(∀v i,ax l v i->Bs l p.labels.toNat M v i)/\Below w.heap.size w w'
theorem uj (pa pb vl:Value) (p:aq) (n:ao) (l:List (List Int)) (w:World) (hp:el w pa pb p) (hl:bS w vl l) (cC:bV p=true) (hn:ar n=true) (hs:dv n l) (cH:Ju (p.labels-1) l):
  Calls Tryz.prog 64 #[.agg #[.int .i64 p.labels,.int .i64 p.degree,pa,pb],vl] w (Un p n l w):=by
 obtain⟨eV,-⟩:=aE cC;obtain⟨iX,iz⟩:=eX hn;have ly:=(bK hn).1;obtain⟨lb,eK⟩:∃z:Nat,p.labels=(z:Int):=⟨p.labels.toNat,zO⟩
 have pm:p.labels.toNat=lb:=zO
 have pY:1<=lb/\lb<=8:=zO
 obtain⟨m,vU⟩:=J_ n.ends.length
 have TG:1<=m/\m<=40:=zO
 have Cj:l.length=m:=by rw[vU];exact hs.1
 have I8:∀(v:Nat) (row:List Int),l[v]?=some row->row.length<=17592186044416:=fun v row hr=>by
  obtain⟨es,aU⟩:=au n.ends v (by rw[<- hs.1];exact ah hr)
  rw[gz hs hr,ag aU]
  have:=iz v es aU
  omega
 obtain⟨Um,xC,HL⟩:=B_ I8 Cj hl;obtain⟨AL,cL,rfl,-,-,-⟩:=id hl;obtain⟨H6,ka,po,Hm,HsN,wE⟩:=E_ iz eK pm vU hs cH
 obtain⟨w0,P0,iG,P1,it,rfl,rfl,jj,jk,jl,jm,jn,jo,HP,cD,aY,fp,fE,fM,ku⟩:=UZ hp;clear hp
 have HL0:=zh (GQ (HL.out.agU aY.out))
 have yt:∀W,ab w0 W->W.cell? ⟨w.heap.size,0,none⟩=some (.int .i64 (lb:Int)):=fun W hW=>by rw[<- eK];exact fp W hW
 have aK:ab w0 w0:=aa _;clear cC hn iz eV eK vU hs Cj I8 hl iX ly pm cH
 go_enter Tryz.func64,Tryz.ntmps64
 go_upto_region 1 with(fail);rw[<- cD.out];go_wp2_with fail
 refine(Al _ l w0 (HL0 w0 aK) (by rw[xC.out];omega) Um.out).mono ?_
 rintro e w1 ⟨u,S,rfl,ho,aP⟩
 obtain⟨g,cm,rfl⟩:=jI ho (by rw[xC.out];omega)
 rw[xC.out]at ho ⊢;have HK0:Hid (LS w0 g cm m l S w1):=⟨aP,ho⟩;clear aP ho aK;go_upto_region 3 with(fail)
 go_loopw [14] (fun t wr=>∃(v:Nat) (M:List (List Int)),v<=m/\t=.int .i64 v/\LS w0 g cm m M S wr/\dv n M/\Pg l lb v 0 M/\I9 l M v 0) (fun t _=>m-(intOf t).toNat)
 case atStart=>exact⟨0,l,Zac _,rfl,HK0,HsN,fun u j _ hl=>zO,fun u j _ _=>rfl⟩
 case round=>
  clear HK0;obtain⟨v,M,hv,rfl,hK,TO,TP,hUn⟩:=hrel;obtain⟨HK,Eg,Gg,HUn⟩:=C_ hK TO TP hUn;clear hK TO TP hUn
  by_cases aA:v<m
  ·have m1:=zw v
   obtain⟨row,aG⟩:=au M v (by rw[Eg.out.1,<- Hm.out];exact aA)
   obtain⟨q,hq⟩:=J_ row.length
   have VM:(n.ends.getD v []).length=q:=by rw[hq];exact(gz Eg aG).symm
   have hq6:q<=6:=by
    obtain⟨es,aU⟩:=au n.ends v (by rw[<- Hm.out];exact aA)
    rw[<- VM,ag aU];exact H6 v es aU
   obtain⟨AR,cR,pd,-,-,DJ⟩:=mo HK.ow aG;rw[<- hq]at pd;have Hqn:=zh VM
   have TQ:Hid (∀M2,dv n M2->∃row,M2[v]?=some row/\row.length=q):=fun M2 h2=>by
    obtain⟨row,aG⟩:=au M2 v (by rw[h2.1,<- Hm.out];exact aA)
    exact⟨row,aG,by rw[gz h2 aG,Hqn.out]⟩
   obtain⟨wo,rfl⟩:=J_ wr
   clear hq aG VM;go_upto_region 6 with(fail);have adf:=zh pd;clear pd
   go_loopw [21] (fun t wr=>∃(j:Nat) (M:List (List Int)),j<=q/\t=.int .i64 j/\LS w0 g cm m M S wr/\dv n M/\Pg l lb v j M/\I9 l M v j/\wr.cell? ⟨g,v,none⟩=some (.slice AR q cR)) (fun t _=>q-(intOf t).toNat)
   case atStart=>exact⟨0,M,Zac _,rfl,HK,Eg,Gg,HUn,adf⟩
   case round=>
    clear HK Eg Gg HUn adf;obtain⟨j,M,hj,rfl,hK,TO,TP,hUn,pd⟩:=hrel;obtain⟨HK,Eg,Gg,HUn,Hcr⟩:=D_ hK TO TP hUn pd;clear hK TO TP hUn
    by_cases ij:j<q
    ·have m2:=zw j;obtain⟨row,aG,nd⟩:=TQ M Eg;obtain⟨x,hx⟩:=au row j zO
     have uy:ax l v j:=by unfold ax;rw[HsN.out.2 v,Hqn.out];exact ij
     have ti:ak l v j=x:=by
      rw[<- HUn.out v j uy zO];unfold ak;rw[ag aG,ag hx]
     have pc : -1<=x/\x<=(lb:Int)-1:=by
      obtain⟨lr,hlr⟩:=au l v (by rw[xC.out];exact aA)
      have aa6:=uy;unfold ax at aa6;rw[ag hlr]at aa6;obtain⟨y,hy⟩:=au lr j aa6;have h1:=wE v lr j y hlr hy
      have h2:ak l v j=y:=by unfold ak;rw[ag hlr,ag hy]
      rw[ti]at h2;rw[<- h2,ka.out]at h1;exact h1
     obtain⟨gr,cr,a1,a2,a3,a4,a5,kh⟩:=eY HK.ow aG hx;rw[nd,pd]at a1
     injection a1 with a1
     injection a1 with a1 a6 a7
     subst a1 a7;obtain⟨dT,yD,Hx,TH⟩:=C_ aG nd hx ti
     have Il:Hid (∀(W:World),ab wr W->∀y,LS w0 g cm m (M.set v (row.set j y)) S (W.setCell ⟨gr,j,none⟩ (.int .i64 y))/\(W.setCell ⟨gr,j,none⟩ (.int .i64 y)).cell? ⟨g,v,none⟩=some (.slice (some ⟨gr,0,none⟩) q cR)/\W.frozen? ⟨gr,j,none⟩=false):=fun W hW y=>by
      obtain⟨gr',cr',b1,b2,b3,b4,b5,bup⟩:=eY (HK.agU hW).ow aG hx;have b0:=bc hW.below pd;rw[nd,b0]at b1
      injection b1 with b1
      injection b1 with b1
      injection b1 with b1
      injection b1 with b1
      subst b1;refine⟨⟨(HK.out.agU hW).sn.setCell (p:=⟨gr,j,none⟩) (aL.range (HK.out.agU hW).ow gr b4).1 _,bup y⟩,?_,b3⟩;rw[Zam (a:=⟨g,v,none⟩) (Zan _ _ _ g (by exact fun e=>b5 e.symm))]
      exact b0
     have z1:=ae pd;have z2:=ae a2;obtain⟨wi,rfl⟩:=J_ wr
     have q0:∀W,ab wi W->W.cell? ⟨w.heap.size,0,none⟩=some (.int .i64 lb):=fun W pt=>yt W (HK.sn.after pt)
     clear aG nd hx ti a4 a5 a6 kh pd uy;go_upto_region 8 with(fail)
     by_cases nG:x<0
     ·have hxd:(x<(0:Int))=True:=eq_true nG;obtain⟨pw,fu,LD,Yv,oF,tZ⟩:=Ef pY.2;have Xh:min lb 64=lb:=zO
      have agK:RowKit.wrap64 ((2:Int)^lb)=pw:=by have h9:=LD;rw[PlainAid.i64_is]at h9;exact h9
      have agL:RowKit.wrap64 (pw-1)=fu:=by have h9:=Yv;rw[PlainAid.i64_is]at h9;exact h9
      have Hfr:=zh oF
      have afg:Hid (∀c,c<8->aO fu c=(decide (c<lb)&&(decide (ak l v j<0)||decide (ak l v j=(c:Int))))):=fun c hc=>by
       rw[tZ c hc,TH.out,decide_eq_true nG];simp
      clear oF tZ a2 a3;go_upto_region 9 with(fail);refine ap 11 (ab wi) zK zK zS (aj (aa _)) ?_;simp only[zT]
      iterate 11 (refine ch rfl ?_;simp only[zA])
      intro W hW;obtain⟨k1,k2,k3⟩:=Il W hW fu;have k4:=z2 W hW;obtain⟨K1,K2⟩:=A_ k1 k2;clear k1 k2 hW z1 z2 q0;go_wp2;go_roundw
      exact⟨j+1,_,zO,zN,K1,sK (i:=j) fu Eg dT,Gg.put dT (by rw[yD.out];exact ij) afg Hfr,HUn.put dT (by rw[yD.out];exact ij),K2⟩
      simp[intOf];omega
     ·have hxd:(x<(0:Int))=False:=eq_false nG;obtain⟨an,rfl⟩:∃z:Nat,x=(z:Int):=⟨x.toNat,zO⟩
      have ha8:an<8:=zO
      obtain⟨y,hy,qv,Iy⟩:=IQ ha8;have WE:min an 64=an:=zO
      have IP:=zh qv
      have aaS:Hid (∀c,c<8->aO y c=(decide (c<lb)&&(decide (ak l v j<0)||decide (ak l v j=(c:Int))))):=fun c hc=>by
       rw[Iy c hc,TH.out,show decide ((an:Int)<0)=false from zS,Bool.false_or,Zbl]
       simp
       omega
      obtain⟨k1,k2,-⟩:=Il wi (aa _) y;obtain⟨K1,K2⟩:=A_ k1 k2;have z3:=z1 wi (aa _);clear qv Iy k1 k2 z1 z2 q0 nG;go_wp2;go_roundw
      exact⟨j+1,_,zO,zN,K1,sK (i:=j) y Eg dT,Gg.put dT (by rw[yD.out];exact ij) aaS IP,HUn.put dT (by rw[yD.out];exact ij),K2⟩
      simp[intOf];omega
    ·obtain rfl:j=q:=zO
     clear pd;go_wp2;go_roundw
     exact⟨v+1,M,zO,zN,HK,Eg,Gg.next (by unfold ax;rw[HsN.out.2 v,Hqn.out];omega),HUn.out.next⟩
     simp[intOf];omega
  ·obtain rfl:v=m:=zO
   have JG:Hid (uA n M):=Pg.mks (lb:=lb) (by have h9:=Gg.out;rwa [Hm.out]at h9) HsN.out Eg.out
   have HB:Hid (∀v i,ax l v i->Bs l lb M v i):=fun v i hi=>(Gg v i hi (.inl (by have:=hi.lt;rw[xC.out]at this;exact this))).1
   have dH:Hid (Below w.heap.size w wr):=ab.after aY HK.sn;go_wp2;go_ret
   exact⟨_,S,M,rfl,aL.mono HK.ow aY.size,JG,by rw[po.out];exact HB,dH⟩
section
variable {p : aq} {n : ao} {B B' : Nat → Nat → Nat → Bool} {L : Nat} (hn : ar n = true) (hB : ∀ v k x, v < n.ends.length → k < (n.ends.getD v []).length → x < L → B v k x = B' v k x)
include hn hB
theorem Es {br br':Nat->Nat->Nat->Nat} (r_:∀v i a,v<n.ends.length->i<(n.ends.getD v []).length->a<L->br v i a=br' v i a) {v k x:Nat} (hv:v<n.ends.length) (hk:k<(n.ends.getD v []).length) (hx:x<L):I0 p n B L br v k x=I0 p n B' L br' v k x:=by
 have hl:=(Lk.of hn hk).lt hn;unfold I0;rw[hB v k x hv hk hx]
 split
 ·refine fh fun b hb=>?_
  split
  ·exact r_ _ _ _ hl.2.1 hl.2.2.2 hb
  ·rfl
 ·rfl
theorem Et:∀(f v i a:Nat),v<n.ends.length->i<(n.ends.getD v []).length->a<L->yv p n B L f v i a=yv p n B' L f v i a
 | 0,_,_,_,_,_,_=>rfl
 | f+1,v,i,a,hv,hi,ha=>by
  unfold yv;rw[hB v i a hv hi ha]
  split
  ·unfold mY;refine mX (fun j x hj CE hx=>?_) fun _ _ _=>rfl
   unfold wtI
   split
   ·rfl
   ·exact Es hn hB (Et f) hv zO hx
  ·rfl
theorem Ja (f v:Nat) (hv:v<n.ends.length):i8 p n B L f v=i8 p n B' L f v:=by
 unfold i8 mY
 refine mX (fun j x hj CE hx=>?_) fun _ _ _=>rfl
 exact Es hn hB (Et hn hB f) hv zO hx
end
def gR (p:aq) (n:ao) (B:Nat->Nat->Nat->Bool) (L f:Nat):Nat->Nat
 | 0=>1
 | k+1=>if aH n k=k then gR p n B L f k*i8 p n B L f k else gR p n B L f k
theorem yf {p:aq} {n:ao} {B B':Nat->Nat->Nat->Bool} {L f:Nat} (hn:ar n=true) (hB:∀v k x,v<n.ends.length->k<(n.ends.getD v []).length->x<L->B v k x=B' v k x):∀k,k<=n.ends.length->gR p n B L f k=gR p n B' L f k
 | 0,_=>rfl
 | k+1,hk=>by
  unfold gR;rw[yf hn hB k zO,Ja hn hB f k zO]
theorem pp {p:aq} {n:ao} {B:Nat->Nat->Nat->Bool} {L f:Nat}:∀k,0<gR p n B L f k↔∀u,u<k->aH n u=u->0<i8 p n B L f u
 | 0=>by simp[gR]
 | k+1=>by
  unfold gR
  have lw:∀P:Prop,((∀u,u<k+1->aH n u=u->0<i8 p n B L f u)↔P)↔(((∀u,u<k->aH n u=u->0<i8 p n B L f u)/\(aH n k=k->0<i8 p n B L f k))↔P):=fun P=>by
   have:(∀u,u<k+1->aH n u=u->0<i8 p n B L f u)↔((∀u,u<k->aH n u=u->0<i8 p n B L f u)/\(aH n k=k->0<i8 p n B L f k)):=by
    constructor
    ·intro h;exact⟨fun u hu=>h u zO,h k zO⟩
    ·rintro⟨h1,h2⟩ u hu;rcases Zbi u k with h3 | h3
     ·exact h1 u h3
     ·rw[show u=k by omega];exact h2
   rw[this]
  refine Iff.symm ((lw _).2 (Iff.symm ?_))
  by_cases e:aH n k=k
  ·rw[if_pos e];constructor
   ·intro h
    exact⟨(pp k).1 (Nat.pos_of_ne_zero fun e2=>by rw[e2,Nat.zero_mul]at h;omega),fun _=>Nat.pos_of_ne_zero fun e2=>by rw[e2,Nat.mul_zero]at h;omega⟩
   ·rintro⟨h1,h2⟩;exact Nat.mul_pos ((pp k).2 h1) (h2 e)
  ·rw[if_neg e,pp k];exact⟨fun h=>⟨h,fun e2=>absurd e2 e⟩,fun h=>h.1⟩
def jV (p:aq) (n:ao):Bool:=bV p&&ar n&&sX n
theorem jD {p:aq} {n:ao} (h:jV p n=true):bV p=true/\ar n=true/\io n:=by
 unfold jV at h;simp only[Zai]at h;refine⟨h.1.1,h.1.2,?_⟩;have h2:=h.2;unfold sX at h2;rw[Zai,decide_eq_true_eq]at h2;exact(AG h.1.2).1 h2.2
def FB (p:aq) (n:ao):Nat:=gR p n (fun _ _ _=>true) p.labels.toNat (n.ends.length-1) n.ends.length
def ke (p:aq) (n:ao):Bool:=jV p n&&decide (FB p n<=1000000000000)
def qO (p:aq) (n:ao):Int:=if ke p n=true then (FB p n:Int) else 0
def M3 (e:Ed):Bool:=(e.1==e.2.2.1)&&(e.2.1==e.2.2.2)
theorem Uo (n:ao):(et n).any M3=DN n:=by
 unfold DN;congr 1
theorem Uq (x:Ed) (w:World):Calls Tryz.prog 107 #[.agg #[.int .i64 x.1,.int .i64 x.2.1,.int .i64 x.2.2.1,.int .i64 x.2.2.2]] w fun e w'=>e=.returned (.bool (M3 x))/\Below w.heap.size w w':=by
 unfold M3;obtain⟨a,b,c,d⟩:=x;obtain⟨w0,bj⟩:=J_ (w.alloc (.cells #[.int .i64 a,.int .i64 b,.int .i64 c,.int .i64 d] 126))
 have aY:Hid (Below w.heap.size w w0):=by rw[bj];exact am _ _
 have p0:∀W,ab w0 W->W.cell? ⟨w.heap.size,0,none⟩=some (.int .i64 a):=ae (by rw[bj];simp)
 have p1:∀W,ab w0 W->W.cell? ⟨w.heap.size,1,none⟩=some (.int .i64 b):=ae (by rw[bj];simp)
 have p2:∀W,ab w0 W->W.cell? ⟨w.heap.size,2,none⟩=some (.int .i64 c):=ae (by rw[bj];simp)
 have p3:∀W,ab w0 W->W.cell? ⟨w.heap.size,3,none⟩=some (.int .i64 d):=ae (by rw[bj];simp)
 have cD:=zh bj;clear bj
 go_enter Tryz.func107,Tryz.ntmps107
 go_upto_region 1 with(fail);rw[<- cD.out];refine aM 13 (ab w0) (aa _) ?_;simp only[zT]
 iterate 6 (refine ch rfl ?_;simp only[zA])
 iterate 5 (refine iT rfl rfl ?_;simp only[zA])
 (first | refine dy rfl rfl ?_ | (refine ch rfl ?_));simp only[zA]
 refine ch rfl ?_;simp only[zA]
 intro W hW;go_wp2;go_ret;exact⟨rfl,ab.after aY hW⟩
theorem Jb:∀args w,(callFunc 107 args).run Tryz.prog w=.ok (.enter 107 args) w:=enters_of Tryz.func107 zK rfl
theorem Jc (n:ao) (k:Nat):kE n (k+1)=kE n k+(if aH n k==k then 1 else 0):=by
 unfold kE;rw[Zaa,List.countP_append];simp only[List.countP_cons,List.countP_nil,Zba]
theorem Pq (n:ao) (k:Nat):kE n k<=k:=by
 unfold kE;exact Zak List.countP_le_length zS
theorem qh (ve vi vn:Value) (n:ao) (w:World) (h:aR w ve vi vn n) (hn:ar n=true):
  Calls Tryz.prog 57 #[.agg #[ve,vi,vn]] w fun e w'=>e=.returned (.bool (sX n))/\Below w.heap.size w w':=by
 have iM:=bK hn;have On:=iM.1;have Oo:=iM.2;have Hn:=zh hn
 obtain⟨w0,A,c,A2,c2,A3,c3,rfl,rfl,rfl,fR,hm,gC,jz,HA,H,cD,aY,fp,fE,fM⟩:=zB h;clear h
 have aK:ab w0 w0:=aa _;obtain⟨rb,gh⟩:=K_ (sX n)
 have fX:=zh gh;rw[gh];clear hn iM gh
 go_enter Tryz.func57,Tryz.ntmps57
 go_upto_region 1 with(fail);rw[<- cD.out];go_wp2_with fail;refine(Og _ _ _ n w0 H Hn).mono ?_;rintro e w1 ⟨u1,rfl,gL,aP⟩;have di:Hid (ab w0 w1):=aP;have kZ:=vf u1 (et n) 107 #[] M3 w1 gL.read Jb (fun x _ w _=>Uq x w)
 rw[Uo]at kZ;have gD:=zh kZ;obtain⟨A1,c1,rfl,dk,qs,_⟩:=id gL.read;unfold maxLen at dk
 have gM:(et n).length<=240:=by have:=xM Hn n.ends.length;show(fC n n.ends.length).length<=_;omega
 have Nv:=zh gM;clear kZ gL aP aK;go_wp2_with fail;refine gD.mono ?_;rintro e w2 ⟨rfl,aS⟩;have eU:=zh (di.out.after aS);have fH:=eU.out;clear aS;cases hst:DN n
 ·go_wp2_with fail;refine(ry _ _ _ n w2 (H.agU eU.below) Hn).mono ?_;rintro e w3 ⟨u3,rfl,gZ,er⟩;have lC:(mG n).length=n.ends.length:=by simp[mG]
  obtain⟨gc,cc,rfl⟩:∃gc cc,u3=.slice (some ⟨gc,0,none⟩) n.ends.length cc:=by
   rcases gZ.cases with⟨-,e1⟩ | ⟨gc,cc,rfl,tC,ut⟩
   ·have:=congrArg List.length e1;rw[lC,List.length_nil]at this;omega
   ·exact⟨gc,cc,by rw[lC]⟩
  obtain⟨uU,lM,nr⟩:=B_ gZ (eU.out.after er) hst;clear gZ er lC fH hst;go_wp2
  go_loopw [4,14] (fun u i wr=>∃k:Nat,k<=n.ends.length/\i=.int .i64 k/\u=.int .i64 (kE n k:Nat)/\ab w3 wr) (fun _ i _=>n.ends.length-(intOf i).toNat)
  case atStart=>exact⟨0,Zac _,rfl,rfl,aa _⟩
  case round=>
   obtain⟨k,hk,rfl,rfl,eD⟩:=hrel;have Hs:=zh eD;clear eD;have LF:=Pq n k
   by_cases aA:k<n.ends.length
   ·have m3:=zw k;have m4:IntKind.i64.wrap ((kE n k:Int)+1)=(kE n k:Int)+1:=bU _ zO zO;obtain⟨p,hp⟩:=J_ (aH n k)
    have c1:=(uU.since Hs).cell (show(mG n)[k]?=some (p:Int)by rw[hp];unfold mG;rw[Zbr,Zcj aA];rfl)
    have wM:=Jc n k;rw[<- hp]at wM;clear hp
    by_cases he:p=k
    ·subst he;rw[if_pos zS]at wM;have ZC:=zh wM;clear wM;go_wp2;go_roundw
     exact⟨p+1,zO,zN,by rw[ZC.out];first | rfl | go_num,Hs⟩
     simp[intOf];omega
    ·have lV:((k:Int)==(p:Int))=false:=by simp;omega
     rw[if_neg (by simpa using he)]at wM;have ZC:=zh wM;clear wM he;go_wp2;go_roundw
     exact⟨k+1,zO,zN,by rw[ZC.out];first | rfl | go_num,Hs⟩
     simp[intOf];omega
   ·obtain rfl:k=n.ends.length:=zO
    have kD:=zh (lM.out.after Hs.out);have q0:=fp _ kD;obtain⟨R,hR⟩:=K_ (kE n n.ends.length)
    rw[hR]at LF ⊢;have m5:IntKind.i64.wrap ((n.ends.length:Int)-(R:Int))=(n.ends.length:Int)-(R:Int):=bU _ zO zO;obtain⟨E,hE⟩:=K_ ((et n).length)
    have adg:((E:Int)==(n.ends.length:Int)-(R:Int))=rb:=by
     rw[<- fX.out];unfold sX;rw[nr.out,hR,hE,Bool.not_false,Bool.true_and,Zbl,beq_iff_eq,decide_eq_true_eq];omega
    rw[hE]at qs ⊢;have afh:=zh adg;clear adg hR hE hk aA;go_wp2;go_ret;exact⟨bG afh,ab.after aY kD⟩
 ·have hf:rb=false:=by rw[<- fX.out];unfold sX;rw[hst];rfl
  subst hf;go_wp2;go_ret;exact⟨rfl,ab.after aY eU⟩
theorem LW {w:World} {base:Nat} {v:Value} {q_:List (List Bool)} {S:List Nat} (h:nK w base v q_ S) (hl:0<q_.length):∃g c,v=.slice (some ⟨g,0,none⟩) q_.length c:=by
 obtain⟨vs,Ss,h1,-⟩:=h;rcases cj h1 with⟨-,h0⟩ | ⟨g,c,rfl,-⟩
 ·omega
 ·exact⟨g,c,rfl⟩
def ag1 (K:List (List Bool)) (v i:Nat):List (List Bool):=K.set v ((K.getD v []).set i false)
theorem tM.ag1 {n:ao} {K:List (List Bool)} {kf:Nat->Nat->Bool} (h:tM n K kf) (v i:Nat):tM n (ag1 K v i) (fun x j=>kf x j && !(x==v&&j==i)) where
 len:=by unfold Proofs.YtnioemnkfojmkaaGreat.ag1;rw[Zau];exact h.len
 row:=fun x es aU=>by
  obtain⟨row,h1,h2,h3⟩:=h.row x es aU;unfold Proofs.YtnioemnkfojmkaaGreat.ag1
  by_cases e:v=x
  ·subst e
   refine⟨row.set i false,by rw[Zav (ah h1),zDd,h1];rfl,by rw[Zau];exact h2,fun j hj=>?_⟩
   rw[Zci]
   by_cases e2:i=j
   ·subst e2;rw[if_pos rfl,if_pos zO];simp
   ·rw[if_neg e2,h3 j hj]
    have:(v==v&&j==i)=false:=by simp;exact fun e=>e2 e.symm
    rw[this];simp
  ·refine⟨row,by rw[Zaw e];exact h1,h2,fun j hj=>?_⟩
   rw[h3 j hj]
   have:(x==v&&j==i)=false:=by simp;exact fun e2=>absurd e2.symm e
   rw[this];simp
theorem Jd (n:ao):tM n (lN n n.ends.length) (fun _ _=>true) where
 len:=sy (Zaj _)
 row:=fun v es aU=>by
  unfold lN;rw[Zbq]
  exact⟨List.replicate es.length true,by rw[Zbr,aU];rfl,zS,fun i hi=>by rw[Zch,if_pos hi]⟩
theorem Je {n:ao} {v i:Nat} {f:Int×Int}:tM n (ag1 (ag1 (lN n n.ends.length) v i) f.1.toNat f.2.toNat) (gG v i f):=by
 have h:=((Jd n).ag1 v i).ag1 f.1.toNat f.2.toNat
 have e:(fun x j=>(true && !(x==v&&j==i)) && !(x==f.1.toNat&&j==f.2.toNat))=gG v i f:=by
  funext x j
  unfold gG
  cases (x==v&&j==i) <;> cases (x==f.1.toNat&&j==f.2.toNat) <;> rfl
 rwa [e]at h
theorem rW {w:World} {base g c n:Nat} {K:List (List Bool)} {S:List Nat} (h:nK w base (.slice (some ⟨g,0,none⟩) n c) K S) {v i:Nat} {row:List Bool} (hr:K[v]?=some row) (hi:i<row.length):
  ∃gr cr y,w.cell? ⟨g,v,none⟩=some (.slice (some ⟨gr,0,none⟩) row.length cr)/\row.length<=cr/\cr<=9223372036854775807/\w.cell? ⟨gr,i,none⟩=some (.bool y)/\w.frozen? ⟨gr,i,none⟩=false/\base<=gr /\
   nK (w.setCell ⟨gr,i,none⟩ (.bool false)) base (.slice (some ⟨g,0,none⟩) n c) (ag1 K v i) S:=by
 obtain⟨u,T,h1,h2,h3,h4⟩:=aZ.ahn Oz h hr;rcases cj h2.row with⟨-,h0⟩ | ⟨gr,cr,rfl,hb,hg,hc,hm⟩
 ·omega
 ·obtain⟨y,hy⟩:=au row i hi;unfold maxLen at hm;refine⟨gr,cr,y,h1,hc,zO,h2.cell hy,gX h2.row i,hb,?_⟩
  have h5:=h4 (row.set i false) (w.setCell ⟨gr,i,none⟩ (.bool false)) (h2.set i false) ((aV.refl _ _).setCell (.inl (by rw[h2.2];simp[Value.ownBlock])) _)
  have e:ag1 K v i=K.set v (row.set i false):=by unfold ag1;rw[zDd,hr];rfl
  rw[e];exact h5
theorem Ur {n:ao} (hn:ar n=true) {v i:Nat} (hv:v<n.ends.length) (hi:i<(n.ends.getD v []).length) : -1<=n8 n v i/\n8 n v i<=40:=by
 have hp:bA n v i (im n v i):=h_.2 ⟨hi,rfl⟩;obtain⟨p1,p2,p3,p4,p5⟩:=dZ hn hp;have hc:=AF hn (gG v i (im n v i)) (ph hn hp);have lC:(jt n (gG v i (im n v i))).ends.length=n.ends.length:=by simp[jt]
 have h1:=E9 hc (v:=v) (w:=(im n v i).1.toNat) zO zO;have h2:=(bK hn).2;unfold n8;omega
theorem Jf (ve vi vn:Value) (n:ao) (v i:Nat) (w:World) (h:aR w ve vi vn n) (hn:ar n=true) (hv:v<n.ends.length) (hi:i<(n.ends.getD v []).length):
  Calls Tryz.prog 188 #[.agg #[ve,vi,vn],.int .i64 v,.int .i64 i] w fun e w'=>e=.returned (.int .i64 (n8 n v i))/\Below w.heap.size w w':=by
 have ly:=(bK hn).1;have iX:=(bK hn).2;have Hn:=zh hn;obtain⟨es,aU⟩:=au n.ends v hv;have gT:n.ends.getD v []=es:=ag aU;rw[gT]at hi;obtain⟨⟨x1,x2⟩,hx⟩:=au es i hi
 have uy:bA n v i (x1,x2):=by unfold bA;rw[gT];exact hx
 have Yd:im n v i=(x1,x2):=(h_.1 uy).2;obtain⟨-,p2,p3,p4,p5⟩:=dZ hn uy;obtain⟨a1,rfl⟩:=Int.eq_ofNat_of_zero_le p2;obtain⟨a2,rfl⟩:=Int.eq_ofNat_of_zero_le p4;simp only[Zag]at p5;have Cw:a1<n.ends.length:=zO
 obtain⟨NQ,qE⟩:=au n.ends a1 Cw
 have YJ:a2<NQ.length:=by have:=(h_.1 p5).1;rwa [ag qE]at this
 obtain⟨C,hC⟩:=K_ (jt n (gG v i ((a1:Int),(a2:Int))))
 have adh:ar C=true:=by rw[<- hC];exact AF hn _ (ph hn uy)
 have hCl:C.ends.length=n.ends.length:=by rw[<- hC];simp[jt]
 obtain⟨D,hD⟩:=K_ (n8 n v i)
 have HD:Hid ((cJ C v).getD a1 0=D):=by show _=_;rw[<- hD,<- hC];unfold n8;rw[Yd];rfl
 rw[hD];obtain⟨HC,adi,HCl⟩:=B_ hC adh hCl;have E3:=(fO hn aU).1
 obtain⟨w0,A,c,A2,c2,A3,c3,rfl,rfl,rfl,fR,hm,gC,jz,HA,H,cD,aY,fp,fE,fM⟩:=zB h;clear h
 obtain⟨b,CV,cr,ur,ja,Kv,dk,J6⟩:=iK H.es aU;cases ja;obtain⟨A1,z1,rfl,dP,dY,ja⟩:=J6;unfold maxLen at dY;obtain⟨b1,CH,rfl,qD,jL⟩:=ja i _ hx;have t0:=ae dk;have t1:=ae qD;have t2:=ae jL;have aK:ab w0 w0:=aa _;obtain⟨ni,afi⟩:=A_ aU qE;obtain⟨w1,lD⟩:=J_ (w0.alloc (.cells #[.int .i64 (a1:Int),.int .i64 (a2:Int)] 104))
 have dw:ab w0 w1:=by rw[lD];exact ad _ (aa _)
 obtain⟨eb,Ri⟩:=J_ w0.heap.size
 have k0:∀W,ab w1 W->W.cell? ⟨eb,0,none⟩=some (.int .i64 (a1:Int)):=ae (by rw[lD,Ri];simp)
 have k1:∀W,ab w1 W->W.cell? ⟨eb,1,none⟩=some (.int .i64 (a2:Int)):=ae (by rw[lD,Ri];simp)
 obtain⟨di,QZ,Wm⟩:=B_ dw lD Ri;clear hn gT hx uy Yd p2 p3 p4 p5 hC adh hCl hD dk ja qD jL aU qE lD Ri
 go_enter Tryz.func188,Tryz.ntmps188
 go_upto_region 1 with(fail);rw[<- cD.out];go_upto_region 2 with(fail);rw[<- QZ.out,<- Wm.out];clear aK;go_wp2_with fail;refine(OE _ _ _ n w1 (H.agU di.below) Hn).mono ?_;rintro e w2 ⟨u2,S2,rfl,dD,aS⟩
 obtain⟨gB,cB,EE⟩:=LW dD (by rw[sy (Zaj _)];omega)
 rw[sy (Zaj _)]at EE;subst EE;have rs:ab w1 w2:=aS
 have EW:(lN n n.ends.length)[v]?=some (List.replicate es.length true):=by unfold lN;rw[Zbq,Zbr,ni.out];rfl
 obtain⟨gr,cr0,y0,m1,m2,m3,m4,m5,m6,Us⟩:=rW dD EW (i:=i) (by simpa using hi);rw[Zbb]at m1 m2;obtain⟨K1,hK1⟩:=K_ (ag1 (lN n n.ends.length) v i)
 rw[hK1]at Us;obtain⟨yo,iY,afj,-⟩:=(((Jd n).ag1 v i)).row a1 NQ afi;rw[hK1]at iY;obtain⟨w3,ib⟩:=J_ (w2.setCell ⟨gr,i,none⟩ (.bool false))
 have tV:ab w1 w3:=by rw[ib];exact Below.setCell rs m6 _
 rw[<- ib]at Us;obtain⟨Vn,WX,y2,q1,q2,q3,q4,q5,q6,afk⟩:=rW Us iY (i:=a2) zO;rw[afj]at q1 q2;obtain⟨afl,adj⟩:=A_ Us iY
 have HKI:Hid (tM n (ag1 K1 a1 a2) (gG v i ((a1:Int),(a2:Int)))):=by rw[<- hK1];exact Je (f:=((a1:Int),(a2:Int)))
 obtain⟨afm,yI⟩:=A_ tV ib;have r1:=ae q1;have e0:=al k0 tV;have e1:=al k1 tV;have h00:=al fp di;have pL:=al fE di;have h02:=al fM di;clear dD aS EW Us afk tV ib hK1 iY q1 q4 q5 m6 q6 t0 t1 t2 fp fE fM;go_upto_region 4 with(fail);rw[<- yI.out];clear rs m1 m4 m5;refine ap 8 (ab w3) zK zK zS (aj (aa _)) ?_;simp only[zT]
 iterate 8 (refine ch rfl ?_;simp only[zA])
 intro W hW;have adk:=xT.agU afl hW.below;obtain⟨gr3,cr3,y3,n1,n2,n3,n4,n5,n6,aa7⟩:=rW adk adj (i:=a2) zO;have hn:=(r1 W hW).symm.trans n1;simp only[Option.some.injEq,Value.slice.injEq,Addr.mk.injEq,and_true]at hn;obtain⟨rfl,-,rfl⟩:=hn;obtain⟨w4,km⟩:=J_ (W.setCell ⟨Vn,a2,none⟩ (.bool false))
 have Pr:ab w1 w4:=by rw[km];exact Below.setCell (afm.out.after hW) n6 _
 rw[<- km]at aa7;obtain⟨HK4,adl,V6⟩:=B_ aa7 Pr km;have u0:=al k0 Pr;have u1:=al h00 Pr;have u2:=al pL Pr;have u3:=al h02 Pr;have HKr:Hid (∀X,ab w4 X->rz X (.slice (some ⟨gB,0,none⟩) n.ends.length cB) (ag1 K1 a1 a2)):=fun X hX=>(nK.read HK4).agU hX.below
 have HNr:Hid (∀X,ab w4 X->aR X (.slice (some ⟨b,CV,none⟩) n.ends.length c) (.slice A2 n.ids.length c2) (.slice A3 n.agT.length c3) n):=fun X hX=>H.agU (di.after (adl.after hX)).below
 clear hW r1 e0 e1 n1 n6 aa7 km Pr adk k0 k1 h00 pL h02;go_upto_region 5 with(fail);rw[<- V6.out];clear n4 n5;refine dO (w0:=w4) 9 [false,false,true,false,true,false,false,true,true] zK zK (aa _) ?_;simp only[ew,dM,zT]
 iterate 5 (apply ef rfl;(intro W hW;go_simp;with_reducible rfl);simp only[zA])
 intro W hW;refine Or.inl ⟨rfl,?_⟩
 go_simp
 (with_reducible refine(OK _ _ _ _ n _ _ W (HNr.out W hW) Hn.out (HKr.out W hW) HKI.out).mono ?_)
 rintro e W' ⟨qe,qi,qn,Sq,rfl,hoq,L7⟩;refine⟨_,rfl,hW.trans L7,?_⟩
 replace hW:=hW.trans L7
 have HCq:Hid (∀X,ab W' X->aR X qe qi qn C):=(fun X hX=>by have h9:=hoq.read;rw[HC.out]at h9;exact h9.agU hX.below)
 clear hoq L7
 (try simp only[zA])
 refine Or.inl ⟨rfl,?_⟩
 go_simp
 (with_reducible refine(Aw _ _ _ C v _ (HCq.out _ (aa _)) adi.out (by rw[HCl.out];exact hv)).mono ?_)
 rintro e W' ⟨ud,rfl,Y_,Cu⟩;refine⟨_,rfl,hW.trans Cu,?_⟩
 replace hW:=hW.trans Cu
 obtain⟨gd,cd,dd,rfl,FW,cdd,gT⟩:=RR adi (by rw[HCl.out];exact hv) (show a1<C.ends.length by rw[HCl.out];exact Cw) Y_
 have afn:dd=D:=by rw[<- HD.out,ag FW]
 subst afn;rw[HCl.out]at *
 clear Y_ Cu FW gT
 (try simp only[zA])
 refine fj (v:=?_) rfl ?_ hW ?_;rotate_left;(go_simp;with_reducible rfl)
 simp only[zA]
 refine fj (v:=?_) rfl ?_ hW ?_;rotate_left;(go_simp;with_reducible rfl)
 simp only[zA];simp only[bP];have HW:=zh (adl.out.after hW);clear hW;go_wp2;go_ret;exact⟨rfl,ab.after aY (di.after HW)⟩
theorem Jg (ve vi vn:Value) (n:ao) (w:World) (h:aR w ve vi vn n) (hn:ar n=true):
  Calls Tryz.prog 153 #[.agg #[ve,vi,vn]] w fun e w'=>e=.returned (.int .i64 (Fc n))/\Below w.heap.size w w':=by
 have iM:=bK hn;have On:=iM.1;have Oo:=iM.2;have Hn:=zh hn
 obtain⟨w0,A,c,A2,c2,A3,c3,rfl,rfl,rfl,fR,hm,gC,jz,HA,H,cD,aY,fp,fE,fM⟩:=zB h;clear h
 have aK:ab w0 w0:=aa _;obtain⟨rb,gh⟩:=K_ (Fc n)
 have fX:Hid (Ve n n.ends.length=rb):=gh;rw[gh];clear hn iM gh
 go_enter Tryz.func153,Tryz.ntmps153
 go_upto_region 1 with(fail);rw[<- cD.out];go_wp2
 go_loopw [3,11] (fun o i wr=>∃k:Nat,k<=n.ends.length/\i=.int .i64 k/\o=.int .i64 (Ve n k)/\ab w0 wr) (fun _ i _=>n.ends.length-(intOf i).toNat)
 case atStart=>exact⟨0,Zac _,rfl,rfl,aK⟩
 case round=>
  obtain⟨k,hk,rfl,rfl,eD⟩:=hrel;have Hs:=zh eD;clear aK;obtain⟨o0,ho0⟩:=K_ (Ve n k)
  have Ho0:=zh ho0;rw[ho0];clear ho0
  by_cases aA:k<n.ends.length
  ·obtain⟨es,aU⟩:=au n.ends k aA;have aG:=fO Hn aU;have E3:=aG.1;have gT:n.ends.getD k []=es:=ag aU;obtain⟨b,CV,cr,ur,ja,Kv,dk,J6⟩:=iK H.es aU;cases ja;obtain⟨A1,z1,rfl,dP,dY,ja⟩:=J6;unfold maxLen at dY;have JT:=zh ja;have r1:=al (ae dk) Hs;have q5:=r1 wr (aa _);have kw:=zh gT;have m4:=zw k;clear aU aG dk ja gT;go_wp2
   go_loopw [3,20] (fun o i wq=>∃j:Nat,j<=es.length/\i=.int .i64 j/\o=.int .i64 (Fb n k j o0)/\ab w0 wq) (fun _ i _=>es.length-(intOf i).toNat)
   case atStart=>exact⟨0,Zac _,rfl,rfl,Hs⟩
   case round=>
    obtain⟨j,hj,rfl,rfl,xS⟩:=hrel;have oy:=zh xS;obtain⟨o1,gL⟩:=K_ (Fb n k j o0)
    have Hsu:=wN n k j o0;rw[gL]at Hsu ⊢;obtain⟨HSu,Ck⟩:=A_ Hsu gL;clear Hsu gL
    by_cases xK:j<es.length
    ·obtain⟨⟨x1,x2⟩,hx⟩:=au es j xK;obtain⟨b1,CH,rfl,qD,jL⟩:=JT j _ hx;have t1:=ae qD wr oy;have t2:=ae jL wr oy
     have Yd:im n k j=(x1,x2):=by unfold im;rw[kw.out];exact ag hx
     have m3:=zw j;obtain⟨w8,lz⟩:=J_ (wr.alloc (.cells #[.int .i64 x1,.int .i64 x2] 104))
     have kK:ab w0 w8:=by rw[lz];exact ad _ oy
     have KF:=zh lz
     have d00:w8.cell? ⟨wr.heap.size,0,none⟩=some (.int .i64 x1):=by rw[lz];simp
     have d11:w8.cell? ⟨wr.heap.size,1,none⟩=some (.int .i64 x2):=by rw[lz];simp
     obtain⟨j6,Ye⟩:=A_ kK Yd
     have hav:=Ur Hn aA (i:=j) (by rw[kw.out];exact xK)
     obtain⟨d,hd⟩:=K_ (n8 n k j)
     rw[hd]at hav;obtain⟨Hd,gD⟩:=A_ hd (Jf _ _ _ n k j w8 (H.out.agU kK.below) Hn.out aA (by rw[kw.out];exact xK))
     clear hx qD jL lz Yd hd;go_upto_region 8 with(fail);rw[<- KF.out];clear t1 t2;cases hg:wg (x1,x2) ((k:Int),(j:Int))
     ·have Yu:tr n k o1 j=tq o1 d:=by unfold tr;rw[Ye.out,if_neg (by unfold wg at hg;exact of_decide_eq_false hg),Hd]
      have Hgp:=zh Yu;have m5:IntKind.i64.wrap (d+1)=d+1:=bU _ zO zO;clear Yu hav;go_wp2_with fail;refine gD.mono ?_;rw[Hd.out];rintro e w9 ⟨rfl,lO⟩;have yL:=zh (j6.out.after lO);clear lO d00 d11 kK xS;go_upto_region 10 with(fail);refine aM 12 (ab w9) (aa _) ?_;simp only[zT]
      iterate 3 (refine ch rfl ?_;simp only[zA])
      iterate 3 (refine iT rfl rfl ?_;simp only[zA])
      iterate 4 (apply iI rfl rfl;(intro hb aS;intro W hW;go_simp;with_reducible rfl);simp only[zA])
      refine Qu rfl rfl rfl ?_;simp only[zA]
      (first | refine dy rfl rfl ?_ | (refine ch rfl ?_));simp only[zA]
      intro W hW;have HW:=zh (yL.out.after hW);clear hW
      cases Dr:(decide (0<=d)&&((o1==0)||decide (d+1<o1)))
      ·have hst:tq o1 d=o1:=by
        unfold tq;rw[if_neg];rintro⟨h1,h2⟩;rw[Zah]at Dr;rcases Dr with h3 | h3
        ·exact(of_decide_eq_false h3) h1
        ·rw[Zbn]at h3;rcases h2 with h4 | h4
         ·rw[h4]at h3;simp at h3
         ·exact(of_decide_eq_false h3.2) h4
       have nr:=zh hst;clear hst;go_wp2;go_roundw
       exact⟨j+1,zO,zN,by rw[HSu.out,Hgp.out,nr.out],HW⟩
       simp[intOf];omega
      ·have hst:tq o1 d=d+1:=by
        unfold tq;rw[if_pos];rw[Zai,Zbp]at Dr;exact⟨of_decide_eq_true Dr.1,Dr.2.elim (fun h=>.inl (by simpa using h)) (fun h=>.inr (of_decide_eq_true h))⟩
       have nr:=zh hst;clear hst;go_wp2;go_roundw
       exact⟨j+1,zO,zN,by rw[HSu.out,Hgp.out,nr.out],HW⟩
       simp[intOf];omega
     ·have Yu:tr n k o1 j=o1:=by unfold tr;rw[Ye.out,if_pos (by unfold wg at hg;exact of_decide_eq_true hg)]
      have Hgp:=zh Yu;clear Yu xS;go_wp2;go_roundw
      exact⟨j+1,zO,zN,by rw[HSu.out,Hgp.out],j6⟩
      simp[intOf];omega
    ·obtain rfl:j=es.length:=zO
     have si:Hid (Ve n (k+1)=o1):=by show _=_;rw[AO,Ho0.out,kw.out,Ck.out]
     clear xS eD;go_wp2;go_roundw
     exact⟨k+1,zO,zN,by rw[si.out],oy⟩
     simp[intOf];omega
  ·obtain rfl:k=n.ends.length:=zO
   have hb:rb=o0:=by rw[<- fX.out];exact Ho0
   subst hb;clear eD;go_wp2;go_ret;exact⟨rfl,ab.after aY Hs⟩
theorem FC (ve vi vn:Value) (n:ao) (w:World) (h:aR w ve vi vn n) (hn:ar n=true):
  Calls Tryz.prog 108 #[.agg #[ve,vi,vn]] w fun e w'=>e=.returned (.bool (sX n))/\Below w.heap.size w w':=by
 have Hn:=zh hn
 obtain⟨w0,A,c,A2,c2,A3,c3,rfl,rfl,rfl,fR,hm,gC,jz,HA,H,cD,aY,fp,fE,fM⟩:=zB h;clear h
 have HE:=zh (Wg hn);clear hn
 go_enter Tryz.func108,Tryz.ntmps108
 go_upto_region 1 with(fail);rw[<- cD.out];refine aM 9 (ab w0) (aa _) ?_;simp only[zT]
 refine ch rfl ?_;simp only[zA]
 apply dE _ rfl;(intro W hW;unfold a_;go_simp;with_reducible exact zQ (KW _ _ _ n W (H.out.agU hW.below) Hn.out));simp only[zA]
 iterate 2 (refine ch rfl ?_;simp only[zA])
 refine iT rfl rfl ?_;simp only[zA]
 apply bn rfl rfl;(intro hb;intro W hW;unfold a_;go_simp;with_reducible exact zQ (Jg _ _ _ n W (H.out.agU hW.below) Hn.out));simp only[zA]
 refine iT rfl rfl ?_;simp only[zA]
 (first | refine dy rfl rfl ?_ | (refine ch rfl ?_));simp only[zA]
 refine ch rfl ?_;simp only[zA]
 intro W hW;go_wp2;go_ret;exact⟨bG HE.symm,ab.after aY hW⟩
end Go.Proofs.YtnioemnkfojmkaaGreat
