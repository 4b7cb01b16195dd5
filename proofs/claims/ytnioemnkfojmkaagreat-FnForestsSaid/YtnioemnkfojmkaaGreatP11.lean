/- Parts of the proof: walks of functions and plain laws. -/
import Derived.Test.YtnioemnkfojmkaaGreatP10
import Derived.Maps.OwnOps
import Derived.Maps.RangeWalk
import Derived.WalkArith
set_option maxRecDepth 100000
set_option maxHeartbeats 16000000
namespace Go.Proofs.YtnioemnkfojmkaaGreat
open Go Go.RowKit
theorem Own.ahy {W W':World} {base g:Nat} {u:Value} {xs:List Int} (h:Own W base u xs) (ho:aV [g] W W') (hd:u.ownBlock≠some g):Own W' base u xs:=
 aD h fun j hj=>ho.block j (Zad h j (by simpa using hj)).2 (fun hs=>hd (by simp at hs;subst hs;simpa using hj))
theorem vw (ve vi vn:Value) (n:ao) (v:Nat) (w:World) (h:aR w ve vi vn n) (hn:ar n=true) (hv:v<n.ends.length):
  Calls Tryz.prog 112 #[.agg #[ve,vi,vn],.int .i64 v] w fun e w'=>∃u,e=.returned u/\Own w' w.heap.size u (cJ n v)/\Below w.heap.size w w':=by
 have iM:=bK hn;have Hn:=zh hn
 obtain⟨w0,A,c,A2,c2,A3,c3,rfl,rfl,rfl,fR,hm,gC,jz,HA,H,cD,aY,fp,fE,fM⟩:=zB h;clear h
 obtain⟨R,hR⟩:=J_ (cJ n v)
 have HR:=zh hR;rw[<- hR];clear hn hR
 go_enter Tryz.func112,Tryz.ntmps112
 go_upto_region 1 with(fail);rw[<- cD.out];go_wp2_with fail;refine(nH w0.heap.size 1 (-1) n.ends.length _ iM.1 zO zS).mono ?_;rintro e w1 ⟨u1,rfl,gL,aP⟩;rcases gL.cases with⟨-,e1⟩ | ⟨g,c1,rfl,tC,ut⟩
 ·have:=congrArg List.length e1;rw[Zbb,List.length_nil]at this;omega
 rw[Zbb]at gL ⊢;have di:Hid (ab w0 w1):=ab.after (ad _ (aa _)) aP
 have ZL:Hid (w0.heap.size<=g):=by show _<=_;have:=tC;simp at this;omega
 have Ck:Hid (Own w1 w0.heap.size (.slice (some ⟨g,0,none⟩) n.ends.length c1) (List.replicate n.ends.length (-1))):=gL.mono zS;have cz:=Ck.out.cell (nI (show v<(List.replicate n.ends.length (-1:Int)).length by simpa using hv))
 have fz:=Ck.free v;obtain⟨w3,ib⟩:=J_ (w1.setCell ⟨g,v,none⟩ (.int .i64 0))
 have e3:w3.heap.size=w1.heap.size:=by rw[ib];simp
 have uU:Hid (Own w3 w0.heap.size (.slice (some ⟨g,0,none⟩) n.ends.length c1) (cZ n v).1):=by rw[ib];exact Ck.set (k:=v) 0
 have lM:Hid (ab w0 w3):=by rw[ib];exact Below.setCell di.out ZL.out _
 obtain⟨g2,ZY⟩:=J_ w1.heap.size
 obtain⟨w4,km⟩:=J_ (w3.alloc (.cells #[.int .i64 v] 3))
 have vQ:Hid (Own w4 w0.heap.size (.slice (some ⟨g,0,none⟩) n.ends.length c1) (cZ n v).1):=by rw[km];exact uU.since (ad _ (aa _))
 have Hq4:Hid (QA w4 w0.heap.size g2 0 1 ((cZ n v).2.drop 0)):=by
  rw[km,ZY,<- e3];exact QA.one w3 _ v lM.below.size
 have kD:Hid (ab w0 w4):=by rw[km];exact ad _ lM
 have Dr:g2≠g:=zX ((Zad uU.out g rfl).2)
 obtain⟨yI,V6,GZ⟩:=B_ ib km ZY;clear ib km ZY e3 gL aP tC ut;go_upto_region 4 with(fail);rw[<- yI.out,<- GZ.out,<- V6.out];clear cz fz;go_wp2
 go_loopg [6] (n.ends.length+1) (fun f u wr=>∃(k:Nat) (st:List Int×List Int) (gu off cu:Nat),u=.slice (some ⟨gu,off,none⟩) (st.2.drop k).length cu/\gu≠g/\BI n.ends.length st/\DG n f st k=R/\n.ends.length+1<=f+k/\k<=st.2.length/\Own wr w0.heap.size (.slice (some ⟨g,0,none⟩) n.ends.length c1) st.1/\QA wr w0.heap.size gu off cu (st.2.drop k)/\ab w0 wr)
 case atStart=>exact⟨0,cZ n v,g2,0,1,rfl,Dr,BI.start hv,HR.symm,zO,Zac _,vQ,Hq4,kD⟩
 case round=>
  obtain⟨k,st,gu,off,cu,rfl,hgu,Vc,r_,hf,hk,ho,hq,hs⟩:=hrel;obtain⟨HBI,FM,Ho,Hq,Hs⟩:=D_ Vc r_ ho hq hs;have Cu:=Vc.bd;clear Vc r_ ho hq hs Dr
  by_cases aA:k<st.2.length
  ·obtain⟨f,rfl⟩:∃f',gk=f'+1:=⟨gk-1,zO⟩
   obtain⟨x,hx⟩:=au st.2 k aA;have Ru:=HBI.walk x (Zaq hx);obtain⟨c',rfl⟩:=Int.eq_ofNat_of_zero_le Ru.1;have hc:c'<n.ends.length:=zO
   have Mg:st.2.drop k=(c':Int)::st.2.drop (k+1):=by
    rw[Zbt aA];congr 1
    exact(Zbs.1 hx).2
   have ZZ:Hid (QA wr w0.heap.size gu off cu ((c':Int)::st.2.drop (k+1))):=by rw[<- Mg];exact Hq
   obtain⟨ql,Kh⟩:=J_ ((st.2.drop (k+1)).length)
   have e0:(st.2.drop k).length=ql+1:=by rw[Mg,Kh];rfl
   rw[e0];have cx:=ZZ.cell (j:=0) rfl;rw[Nat.add_zero]at cx
   have f8:ql+1<=cu:=by have:=ZZ.2.1;rw[Zaz,<- Kh]at this;exact this
   have Hxd:Hid (st.2.getD k 0=(c':Int)):=by show _=_;rw[zDd,hx];rfl
   obtain⟨Hx,Hql⟩:=A_ hx Kh
   obtain⟨of2,eo,EQ⟩:∃of2:Nat,(if cu=1 then some (⟨gu,off,none⟩:Addr) else some ⟨gu,off+1,none⟩)=some ⟨gu,of2,none⟩/\QA wr w0.heap.size gu of2 (cu-1) (st.2.drop (k+1)):=by
    by_cases h1:cu=1
    ·refine⟨off,by rw[if_pos h1],?_⟩
     have hz:st.2.drop (k+1)=[]:=Zae zO;rw[hz,h1];exact ZZ.nil
    ·exact⟨off+1,by rw[if_neg h1],ZZ.out.tail⟩
   have Hq3:=zh EQ;obtain⟨es,aU⟩:=au n.ends c' hc;obtain⟨E3,Yf⟩:=fO Hn aU;obtain⟨ni,ab7⟩:=A_ aU Yf;obtain⟨see,G2⟩:=J_ (jq n c')
   have Rv:Hid (es.map (fun e=>e.1)=see):=by show _=_;rw[G2,jq,Zag,zDd,aU];rfl
   have ZM:=zh G2;have Hfw:Hid (∀j,∃ys,((see.take j).foldl (bQ c') st).2=st.2++ys):=fun j=>mj _ _ _
   obtain⟨b,CV,cr,ur,ja,Kv,dk,aG⟩:=iK H.es aU;cases ja;obtain⟨A1,z1,rfl,dP,dY,ja⟩:=aG;unfold maxLen at dY;have JT:=zh ja;have r1:=al (ae dk) Hs;have q0:=fp wr Hs;have q5:=r1 wr (aa _);clear hx Mg Kh e0 Hq EQ aU Yf G2 dk ja;go_upto_region 7 with(fail)
   (try rw[eo])
   clear cx eo;clear f8;go_wp2
   go_loopw [6,34] (fun u i wr=>∃(j gv ov cv:Nat) (gE:List Int×List Int),j<=es.length/\i=.int .i64 j/\gE=(see.take j).foldl (bQ c') st/\u=.slice (some ⟨gv,ov,none⟩) (gE.2.drop (k+1)).length cv/\gv≠g/\BI n.ends.length gE/\Own wr w0.heap.size (.slice (some ⟨g,0,none⟩) n.ends.length c1) gE.1/\QA wr w0.heap.size gv ov cv (gE.2.drop (k+1))/\ab w0 wr) (fun _ i _=>es.length-(intOf i).toNat)
   case atStart=>exact⟨0,gu,of2,cu-1,st,Zac _,rfl,rfl,by rw[Hql.out],hgu,HBI,Ho,Hq3,Hs⟩
   case round=>
    obtain⟨j,gv,ov,cv,gE,hj,rfl,Rw,rfl,G3,KB,xr,Yg,KC⟩:=hrel;obtain⟨Ax,Vd,Hq',CX,CY⟩:=D_ KB xr Yg KC Rw;have aec:=KB.bd;clear Rw KB xr Yg KC hgu
    by_cases xK:j<es.length
    ·obtain⟨⟨x1,x2⟩,hx⟩:=au es j xK;obtain⟨b1,CH,rfl,qD,jL⟩:=JT j _ hx;obtain⟨i1,i2⟩:=ab7 _ (Zaq hx);simp only at i1 i2
     obtain⟨d,rfl⟩:=Int.eq_ofNat_of_zero_le i1;have hd:d<n.ends.length:=zO
     have hy:see[j]?=some (d:Int):=by rw[<- Rv.out,Zbr,hx];rfl
     have qs:gE.1.length=n.ends.length:=Ax.len;have t1:=ae qD wr CX;have t2:=ae jL wr CX;obtain⟨w8,lz⟩:=J_ (wr.alloc (.cells #[.int .i64 d,.int .i64 x2] 104))
     obtain⟨be,lV⟩:=J_ wr.heap.size
     have vT:Hid (Own w8 w0.heap.size (.slice (some ⟨g,0,none⟩) n.ends.length c1) gE.1):=by rw[lz];exact Vd.since (ad _ (aa _))
     have Hq8:Hid (QA w8 w0.heap.size gv ov cv (gE.2.drop (k+1))):=by rw[lz];exact Hq'.since (ad _ (aa _))
     have j6:Hid (ab w0 w8):=by rw[lz];exact ad _ CX
     have d0:∀W,ab w8 W->W.cell? ⟨be,0,none⟩=some (.int .i64 d):=ae (by rw[lz,lV];simp)
     have dd:=ae (vT.out.cell (nI (show d<gE.1.length by omega)))
     have dc:=ae (vT.out.cell (nI (show c'<gE.1.length by omega)))
     obtain⟨z,hz⟩:=J_ (gE.1.getD d 0)
     obtain⟨q,hq⟩:=J_ (gE.1.getD c' 0)
     rw[<- hz]at dd;rw[<- hq]at dc
     have X_ : -1<=q/\q<gE.2.length:=by rw[hq];exact Ax.out.val _ (Zaq (nI (show c'<gE.1.length by omega)))
     have cd:=dd w8 (aa _);have ce:=d0 w8 (aa _);obtain⟨Hz,Hqd⟩:=A_ hz hq
     have si:Hid ((see.take (j+1)).foldl (bQ c') st=bQ c' gE d):=by show _=_;rw[DH hy,<- CY.out]
     obtain⟨NY,KF,Hbe⟩:=B_ qs lz lV;have m3:=zw j;clear hz hq hy hx qs lz lV qD jL i1;go_upto_region 10 with(fail);rw[<- KF.out,<- Hbe.out];clear t1 t2
     by_cases np:z<0
     ·have m4:IntKind.i64.wrap (q+1)=q+1:=bU _ zO zO
      have Ay:Hid (bQ c' gE d=(gE.1.set d (q+1),gE.2++[(d:Int)])):=by show _=_;unfold bQ;rw[Zag,Zag,<- Hz.out,if_pos np,<- Hqd.out]
      have HBn:Hid (BI n.ends.length (bQ c' gE d)):=Ax.step zO zO;obtain⟨ys,CM⟩:=Hfw j
      have oV:k+1<=gE.2.length:=by rw[CY.out,CM,Zay];omega
      have Yh:Hid ((gE.2++[(d:Int)]).drop (k+1)=gE.2.drop (k+1)++[(d:Int)]):=List.drop_append_of_le_length oV
      have jb:Hid ((gE.2.drop (k+1)).length+1<=1000000):=by show _<=_;rw[List.length_drop];omega
      have Rx:=zh G3;clear CM oV;go_upto_region 11 with(fail);refine ap 9 (ab w8) zK zK zS (aj (aa _)) ?_;simp only[zT]
      iterate 9 (refine ch rfl ?_;simp only[zA])
      intro W hW;obtain⟨RD,HqW,RC⟩:=B_ (vT.out.since hW) (Hq8.out.since hW) (j6.out.after hW);have eW:=d0 W hW;have fd:=RD.free d;have cdW:=dd W hW;obtain⟨w9,Cv⟩:=J_ (W.setCell ⟨g,d,none⟩ (.int .i64 (q+1)))
      have yK:Hid (Own w9 w0.heap.size (.slice (some ⟨g,0,none⟩) n.ends.length c1) (gE.1.set d (q+1))):=by rw[Cv];exact RD.set (k:=d) (q+1)
      have Hq9:Hid (QA w9 w0.heap.size gv ov cv (gE.2.drop (k+1))):=by rw[Cv];exact HqW.other G3 _ _
      have yL:Hid (ab w0 w9):=by rw[Cv];exact Below.setCell RC.out ZL.out _
      have hbg:be≠g:=by have:=(Zad Vd g rfl).2;rw[Hbe.out];omega
      have e9:w9.cell? ⟨be,0,none⟩=some (.int .i64 d):=by
       rw[Cv]
       have:=Zan W ⟨g,d,none⟩ (.int .i64 (q+1)) be (by simpa using hbg)
       unfold World.cell? at eW ⊢
       rw[this];exact eW
      have Hw9:=zh Cv;clear hW Cv d0 dd dc cd ce hbg;go_upto_region 12 with(fail);rw[<- Hw9.out];clear eW fd cdW m4
      go_wp2_with (at_builtin;refine ab6 rfl _ _ rfl rfl (Hq9.since (ad _ (aa _))) w9.heap.size d rfl (by simp[go_sem]) jb (ad _ yL) ?_;intro g7 o7 c7 w7 hq7 ab8 KD Yi)
      have ZQ:Hid (Own w7 w0.heap.size (.slice (some ⟨g,0,none⟩) n.ends.length c1) (gE.1.set d (q+1))):=Own.ahy (yK.agU (am w9 _)) ab8 (by simpa[Value.ownBlock]using Ne.symm Rx.out);obtain⟨Hq7,yJ⟩:=A_ hq7 Yi;have V9:=zh (Zad yK.out g rfl).2
      have Hg7:Hid (g7≠g):=by
       rcases KD with e | e
       ·rw[e];exact Rx
       ·simp at e;exact fun e2=>zX V9.out
      clear hq7 ab8 KD Yi e9;go_wp2;go_roundw
      exact⟨j+1,g7,o7,c7,bQ c' gE d,zO,zM,si.symm,by rw[Ay.out,Yh.out];simp,Hg7,HBn,by rw[Ay.out];exact ZQ,by rw[Ay.out,Yh.out];exact Hq7,yJ⟩
      simp[intOf];omega
     ·have Az:Hid (bQ c' gE d=gE):=by show _=_;unfold bQ;rw[Zag,<- Hz.out,if_neg np]
      clear d0 dd dc;go_wp2;go_roundw
      exact⟨j+1,gv,ov,cv,gE,zO,zM,by rw[si.out,Az.out],rfl,G3,Ax,vT,Hq8,j6⟩
      simp[intOf];omega
    ·obtain rfl:j=es.length:=zO
     have Z0:see.length=es.length:=by rw[<- Rv.out,List.length_map]
     have dH:Hid (gE=see.foldl (bQ c') st):=by show _=_;rw[CY.out,<- Z0,Zbq]
     have Hbn:Hid (DG n f gE (k+1)=R):=by
      show _=_
      rw[<- FM.out,DG,if_pos aA,Hxd.out,<- ZM.out,<- dH.out]
     have Hlw:Hid (k+1<=gE.2.length):=by
      obtain⟨ys,CM⟩:=Hfw es.length;show _<=_
      rw[CY.out,CM,Zay];omega
     clear Z0;go_wp2
     go_roundg f
     exact⟨k+1,gE,gv,ov,cv,rfl,G3,Ax,Hbn,zO,Hlw,Vd,Hq',CX⟩
     case measure=>omega
  ·have hd0:st.2.drop k=[]:=List.drop_eq_nil_of_le zO
   have Zz:Hid (R=st.1):=by
    rw[<- FM.out]
    obtain⟨f,rfl⟩ | h0:(∃f',gk=f'+1)\/gk=0:=by
     rcases Zbk gk with h | h
     ·exact .inr h
     ·exact .inl ⟨gk-1,zO⟩
    ·show DG _ _ _ _=_
     rw[DG,if_neg aA]
    ·subst h0;exact rfl
   rw[hd0];go_wp2;go_ret
   exact⟨_,rfl,by rw[Zz.out];exact Ho.mono aY.size,ab.after aY Hs⟩
theorem ry (ve vi vn:Value) (n:ao) (w:World) (h:aR w ve vi vn n) (hn:ar n=true):
  Calls Tryz.prog 60 #[.agg #[ve,vi,vn]] w fun e w'=>∃u,e=.returned u/\Own w' w.heap.size u (mG n)/\Below w.heap.size w w':=by
 have iM:=bK hn;have On:=iM.1;have Oo:=iM.2;have Hn:=zh hn
 obtain⟨w0,A,c,A2,c2,A3,c3,rfl,rfl,rfl,fR,hm,gC,jz,HA,H,cD,aY,fp,fE,fM⟩:=zB h;clear h
 obtain⟨R,hR⟩:=J_ (mG n)
 have HR:=zh hR;rw[<- hR];clear hn hR
 go_enter Tryz.func60,Tryz.ntmps60
 go_upto_region 1 with(fail);rw[<- cD.out];go_wp2_with fail;refine(nH w0.heap.size 1 (-1) n.ends.length _ iM.1 zO zS).mono ?_;rintro e w1 ⟨u1,rfl,gL,aP⟩;rcases gL.cases with⟨-,e1⟩ | ⟨g,c1,rfl,tC,ut⟩
 ·have:=congrArg List.length e1;rw[Zbb,List.length_nil]at this;omega
 rw[Zbb]at gL ⊢;have di:Hid (ab w0 w1):=ab.after (ad _ (aa _)) aP
 have ZL:Hid (w0.heap.size<=g):=by show _<=_;have:=tC;simp at this;omega
 have Hg1:Hid (g<w1.heap.size):=(Zad gL g (by simp[Value.ownBlock])).2
 have Ck:Hid (Own w1 w0.heap.size (.slice (some ⟨g,0,none⟩) n.ends.length c1) (g_ n 0 0)):=by rw[GU];exact gL.mono zS
 clear gL aP tC ut iM;go_wp2
 go_loopw [14] (fun i wr=>∃k:Nat,k<=n.ends.length/\i=.int .i64 k/\Own wr w0.heap.size (.slice (some ⟨g,0,none⟩) n.ends.length c1) (g_ n k 0)/\ab w0 wr/\g<wr.heap.size) (fun i _=>n.ends.length-(intOf i).toNat)
 case atStart=>exact⟨0,Zac _,rfl,Ck,di,Hg1⟩
 case round=>
  obtain⟨k,hk,rfl,ho,eD,yi⟩:=hrel;obtain⟨Ho,Hs,Hg⟩:=B_ ho eD yi;clear ho eD yi
  by_cases aA:k<n.ends.length
  ·obtain⟨x,hx,pc⟩:=GX Hn aA;have cz:=Ho.cell hx;have m1:=zw k;have Hx:=zh hx;clear hx
   by_cases hr:aH n k=k
   ·have nG:¬0<=x:=fun h=>pc.1 h hr
    have yj:(0<=x)=False:=by simp[nG]
    have uJ:x<0:=zO
    have Hr:=zh hr;have hsx:=Hs.out;clear pc hr nG;go_wp2_with fail;refine(vw _ _ _ n k wr (H.agU Hs.below) Hn aA).mono ?_;obtain⟨ds,Wd⟩:=J_ (cJ n k)
    rw[<- Wd];rintro e w2 ⟨u2,rfl,dD,aS⟩
    have ZT:ds.length=n.ends.length:=by rw[Wd];exact vd Hn _ _ _ (BI.start aA)
    obtain⟨gd,cd,rfl,gT⟩:∃gd cd,u2=.slice (some ⟨gd,0,none⟩) n.ends.length cd/\wr.heap.size<=gd:=by
     rcases dD.cases with⟨-,e1⟩ | ⟨gd,cd,rfl,tC,ut⟩
     ·have:=congrArg List.length e1;rw[List.length_nil]at this;omega
     ·exact⟨gd,cd,by rw[ZT],tC⟩
    have jh:gd≠g:=zX Hg.out
    obtain⟨Hne,mg,eU,Hoo⟩:=C_ jh dD (ab.after Hs.out aS) (Ho.out.since aS);have GZ:Hid (g<w2.heap.size):=Zal Hg aS.size;obtain⟨Hds,Hdl⟩:=A_ Wd ZT;clear dD aS gT jh Wd ZT cz hsx;go_wp2
    go_loopw [26] (fun i wq=>∃j:Nat,j<=n.ends.length/\i=.int .i64 j/\Own wq w0.heap.size (.slice (some ⟨g,0,none⟩) n.ends.length c1) (g_ n k j)/\Own wq wr.heap.size (.slice (some ⟨gd,0,none⟩) n.ends.length cd) ds/\ab w0 wq/\g<wq.heap.size) (fun i _=>n.ends.length-(intOf i).toNat)
    case atStart=>exact⟨0,Zac _,rfl,Hoo,mg,eU,GZ⟩
    case round=>
     obtain⟨j,hj,rfl,hoq,FV,xS,hgq⟩:=hrel;obtain⟨Yj,My,oy,Hgq⟩:=C_ hoq FV xS hgq;clear hoq FV xS hgq
     by_cases xK:j<n.ends.length
     ·obtain⟨d,hd⟩:=au ds j (by rw[Hdl.out];exact xK)
      obtain⟨y,hy⟩:=au (g_ n k j) j (by rw[eS];exact xK)
      have cd1:=My.cell hd;have cy:=Yj.cell hy;have fy:=Yj.free j
      have FW:(cJ n k).getD j 0=d:=by rw[<- Hds.out];exact ag hd
      have m2:=zw j
      by_cases h0:0<=d
      ·have Hp:=zh (KA Hn.out aA xK Hr.out (by rw[FW];exact h0))
       have h1:(0<=d)=True:=by simp[h0]
       clear hd hy FW;go_wp2;go_roundw
       exact⟨j+1,zO,zN,by rw[<- Hp.out];exact Yj.out.set (k:=j) (k:Int),EZ My.out (by simp[Value.ownBlock,Hne.out]) _,Below.setCell oy.out ZL.out _,by simpa using Hgq.out⟩
       simp[intOf];omega
      ·have Hp:=zh (GY Hn.out aA xK Hr.out (by rw[FW];exact h0))
       have h1:(0<=d)=False:=by simp[h0]
       have h2:d<0:=zO
       clear hd hy FW h0;go_wp2;go_roundw
       exact⟨j+1,zO,zN,by rw[<- Hp.out];exact Yj,My,oy,Hgq⟩
       simp[intOf];omega
     ·obtain rfl:j=n.ends.length:=zO
      have si:=zh (GV n k);clear hj xK;go_wp2;go_roundw
      exact⟨k+1,zO,zN,by rw[<- si.out];exact Yj,oy,Hgq⟩
      simp[intOf];omega
   ·have nG:0<=x:=pc.2 hr;have yj:(0<=x)=True:=by simp[nG]
    have KY:=zh (GW Hn.out aA hr);clear pc hr;go_wp2;go_roundw
    exact⟨k+1,zO,zN,by rw[<- KY.out];exact Ho,Hs,Hg⟩
    simp[intOf];omega
  ·obtain rfl:k=n.ends.length:=zO
   have He:=zh (Kz n (j:=0) Hn.out);clear hk aA;go_wp2;go_ret
   exact⟨_,rfl,by rw[HR.out,<- He.out];exact Ho.mono aY.size,ab.after aY Hs⟩
open Go.Maps (Keyed)
def kI (p:Nat):Lit:=.int .i64 (p:Int)
def lI (z:Int):DataW Unit:=.lit (.int .i64 z)
structure af1 (n:ao) (k:Nat) (D:DataW Unit):Prop where
 map:Maps.IsMap D
 val:∀p:Nat,D.atKey (kI p) (lI 0)=lI (ZV n p k:Nat)
 keys:∀kl,Maps.has D kl=true->∃v,v<k/\kl=kI (aH n v)
 all:∀v,v<k->Maps.has D (kI (aH n v))=true
open Go.Maps (Keyed)
def slD:Value->Option (DataW Unit×List MemPlace)
 | .slice none n c=>some (.slice [lI 0,lI n,lI c] [],[])
 | .slice (some ⟨b,0,none⟩) n c=>some (.slice [lI (b+1),lI n,lI c] [],[])
 | _=>none
def zD:DataW Unit:=.slice [lI 0,lI (0:Nat),lI (0:Nat)] []
structure af2 (n:ao) (w:World) (B k kk:Nat) (D:DataW Unit) (U:Nat->Value):Prop where
 map:Maps.IsMap D
 val:∀p:Nat,slD (U p)=some (D.atKey (kI p) zD,[])
 own:∀p:Nat,Own w B (U p) ((ZU n p k).map Int.ofNat)
 dis:∀(p q j:Nat),p≠q->(U p).ownBlock=some j->(U q).ownBlock≠some j
 keys:∀kl,Maps.has D kl=true->∃v,v<kk/\kl=kI (aH n v)
 all:∀v,v<kk->Maps.has D (kI (aH n v))=true
def ab9 (b:Bool):List Value:=[.bool b]
theorem wP (xs:List Bool):xs.flatMap ab9=xs.map Value.bool:=by
 induction xs with
 | nil=>rfl
 | cons x xs ih=>rw[List.flatMap_cons,ih];rfl
def mI:World->Nat->Value->List Bool->List Nat->Prop:=Qx 4 1 ab9
theorem Oz:eG mI:=Gp _ _ _
def nK:World->Nat->Value->List (List Bool)->List Nat->Prop:=aZ 188 mI
theorem xT:eG nK:=mw _ Oz
theorem OA:(Tryz.prog.info? 4).map (fun i=>(i.zero,i.size,i.bytes))=some (some (.bool false),1,1):=zK
theorem OB:(Tryz.prog.info? 188).map (fun i=>(i.zero,i.size,i.bytes))=some (some (.slice none 0 0),1,24):=zK
theorem mI.row {w:World} {base:Nat} {v:Value} {xs:List Bool} {S:List Nat} (h:mI w base v xs S):w.ownsRow base 4 1 v xs.length (xs.map Value.bool):=by
 have:=h.1
 rwa [wP]at this
theorem mI.mk {w:World} {base:Nat} {v:Value} {xs:List Bool} (h:w.ownsRow base 4 1 v xs.length (xs.map Value.bool)):mI w base v xs v.ownBlock.toList:=⟨by rw[wP];exact h,rfl⟩
theorem mI.cell {w:World} {base g c n:Nat} {xs:List Bool} {S:List Nat} {k:Nat} {x:Bool} (h:mI w base (.slice (some ⟨g,0,none⟩) n c) xs S) (hk:xs[k]?=some x):w.cell? ⟨g,k,none⟩=some (.bool x):=by
 have h':=h.row;obtain rfl:=fS h'
 have aA:k<xs.length:=ah hk
 rw[World.ownsRow.cellAt h' k zO];simp[hk]
theorem mI.set {w:World} {base g c n:Nat} {xs:List Bool} {S:List Nat} (k:Nat) (x:Bool) (h:mI w base (.slice (some ⟨g,0,none⟩) n c) xs S):mI (w.setCell ⟨g,k,none⟩ (.bool x)) base (.slice (some ⟨g,0,none⟩) n c) (xs.set k x) S:=by
 have hS:=h.2;have h':=h.row;obtain rfl:=fS h'
 have:=(World.ownsRow.stored h' k (.bool x)).1
 refine⟨?_,hS⟩;rw[wP,Zau,List.map_set];exact this
def H5 (w:World) (v:Value) (xs:List Bool):Prop:=
 ∃(A:Option Addr) (c:Nat),v=.slice A xs.length c/\xs.length<=c/\c<=maxLen/\∀k x,xs[k]?=some x->∃b off,A=some ⟨b,off,none⟩/\w.cell? ⟨b,off+k,none⟩=some (.bool x)
def rz (w:World) (v:Value) (q_:List (List Bool)):Prop:=
 ∃(A:Option Addr) (c:Nat),v=.slice A q_.length c/\q_.length<=c/\c<=maxLen /\
  (∀k xs,q_[k]?=some xs->∃b off u,A=some ⟨b,off,none⟩/\w.cell? ⟨b,off+k,none⟩=some u/\H5 w u xs)
theorem H5.agU {w w':World} {v:Value} {xs:List Bool} (h:H5 w v xs) (hb:Below w.heap.size w w'):H5 w' v xs:=by
 obtain⟨A,c,hv,hc,hm,hA⟩:=h;refine⟨A,c,hv,hc,hm,fun k x hk=>?_⟩
 obtain⟨b,off,wb,h1⟩:=hA k x hk;exact⟨b,off,wb,bc hb h1⟩
theorem rz.agU {w w':World} {v:Value} {xs:List (List Bool)} (h:rz w v xs) (hb:Below w.heap.size w w'):rz w' v xs:=by
 obtain⟨A,c,hv,hc,hm,hA⟩:=h;refine⟨A,c,hv,hc,hm,fun k x hk=>?_⟩
 obtain⟨b,off,u,wb,h1,h2⟩:=hA k x hk;exact⟨b,off,u,wb,bc hb h1,h2.agU hb⟩
theorem mI.read {w:World} {base:Nat} {v:Value} {xs:List Bool} {S:List Nat} (h:mI w base v xs S):H5 w v xs:=by
 rcases cj h.row with⟨rfl,h0⟩ | ⟨g,c,rfl,hb,hg,hc,hm⟩
 ·obtain rfl:xs=[]:=Zae h0
  exact⟨none,0,rfl,Zaj _,Zac _,fun k x hk=>by simp at hk⟩
 ·exact⟨_,c,rfl,hc,hm,fun k x hk=>⟨g,0,rfl,by rw[Zba];exact h.cell hk⟩⟩
theorem nK.read {w:World} {base:Nat} {v:Value} {ep:List (List Bool)} {S:List Nat} (h:nK w base v ep S):rz w v ep:=by
 obtain⟨vs,Ss,h1,h2,h3,h4,h5⟩:=h;rcases cj h1 with⟨rfl,h0⟩ | ⟨g,c,rfl,hb,hg,hc,hm⟩
 ·obtain rfl:ep=[]:=Zae h0
  exact⟨none,0,rfl,Zaj _,Zac _,fun k x hk=>by simp at hk⟩
 ·have xA:vs.length=ep.length:=by simpa using h1.1
  refine⟨_,c,rfl,hc,hm,fun k x hk=>?_⟩
  have aA:=ah hk;obtain⟨u,hu⟩:=au vs k zO;obtain⟨T,hT⟩:=au Ss k zO
  exact⟨g,0,u,rfl,by rw[Zba,h1.cellAt (cap:=c) _ zO];exact hu,mI.read (h3 k u x T hu hk hT)⟩
theorem OC (w:World) (base:Nat):nK w base (.slice none 0 0) [] []:=⟨[],[],World.ownsRow_nil w base _ _,rfl,fun k u x T h=>by simp at h,by simp[Value.ownBlock],zS⟩
section
variable {ops : Array Oper} {rest : List Oper} {o : Oper} {a : Act} {Q : Exit → Act → World → Prop}
theorem RS (w:World) (hg:o.guard=none) (l c:Operand) (yh:o.op=Op.makeSlice 188 l c) (L C:Int) (n:Nat) (hl:a.eval l=.int .i64 L) (hc:a.eval c=.int .i64 C) (hL:L=(n:Int)) (hC:C=(n:Int)) (hn:n<=17592186044416)
  (hK:∀w',mI w' w.heap.size (.slice (some ⟨w.heap.size,0,none⟩) n n) (List.replicate n false) [w.heap.size]->Below w.heap.size w w'->wpList Tryz.prog ops Q rest (a.put o.dst (.slice (some ⟨w.heap.size,0,none⟩) n n)) w'):wpList Tryz.prog ops Q (o::rest) a w:=by
 obtain⟨i0,hi,e_,dP,dY⟩:=info_parts OA
 refine wpList_make_full w hg l c 188 yh w.heap.size 4 i0 (.bool false) 1 Tryz.underlying188 hi e_ dP .i64 .i64 L C n hl hc hL hC (by rw[dY];omega) (by unfold maxLen;omega) (Zaj _) ?_
 intro w' ho yi
 have xr:mI w' w.heap.size (.slice (some ⟨w.heap.size,0,none⟩) n n) (List.replicate n false) (Value.slice (some ⟨w.heap.size,0,none⟩) n n).ownBlock.toList:=by
  refine mI.mk ?_;rw[Zbb,List.map_replicate];rw[show(Value.bool false).cells=#[Value.bool false]from rfl,toList_madeCells_one]at ho
  simpa using ho
 exact hK w' xr (xq yi)
theorem OD {w:World} (gT:o.guard=none) (s x:Operand)
  (ho:o.op=.call { callee:=.builtin .append,args:=#[s,x],argTypes:=#[186,186] }) {base:Nat} {v u:Value} {q_:List (List Bool)} {S T:List Nat} {xs:List Bool} (hs:a.eval s=v) (h:nK w base v q_ S)
  (b:Nat) (hx:a.eval x=.slice (some ⟨b,0,none⟩) 1 1) (hc:w.cell? ⟨b,0,none⟩=some u) (hu:mI w base u xs T) (hd:∀j∈T,j∉S) (hl:q_.length+1<=4000000) (Aa:base<=w.heap.size)
  (k:∀g cap w' S',nK w' base (.slice (some ⟨g,0,none⟩) (q_.length+1) cap) (q_++[xs]) S'->Below base w w'->wpList Tryz.prog ops Q rest (a.put o.dst (.slice (some ⟨g,0,none⟩) (q_.length+1) cap)) w'):wpList Tryz.prog ops Q (o::rest) a w:=by
 obtain⟨i0,hi,e_,dP,dY⟩:=info_parts OB;have hvr:=xT.range h;have QV:=h;obtain⟨vs,Ss,r1,r2,r3,r4,r5⟩:=h;obtain⟨A,m,c,rfl⟩:=Oz.one hu
 refine wpList_append_lies w gT s x 186 ho base 188 i0 _ 1 24 Tryz.underlying186 hi e_ dP dY rfl (by decide) v q_.length vs hs r1 ⟨b,0,none⟩ 1 1 [.slice A m c] hx rfl
  (by intro j u hj;match j,hj with | 0,hj=>(simp at hj;subst hj;simpa[Addr.add]using hc) | j+1,hj=>simp at hj) (by simp[Value.oneCell']) zO (by unfold maxLen;omega) zO Aa w.heap.size rfl ?_
 intro g cap w' q1 q2 q3 q4;obtain⟨S',o1,-⟩:=aZ.snoc Oz QV hu hd vs Ss r1 r2 r3 r4 r5 q1 q2 q3
 exact k g cap w' S' o1 (Below.grown (Zaf base w |>.mono (Zaj _)) q2 Aa (fun q hq=>(hvr q (by rw[r4,hq];simp)).1))
end
def lN (n:ao) (k:Nat):List (List Bool):=(n.ends.take k).map fun es=>List.replicate es.length true
theorem KZ {n:ao} {k:Nat} {es:List (Int×Int)} (h:n.ends[k]?=some es):lN n (k+1)=lN n k++[List.replicate es.length true]:=by
 unfold lN;rw[bJ h,List.map_append];rfl
theorem sy {n:ao} {k:Nat} (h:k<=n.ends.length):(lN n k).length=k:=by simp[lN];omega
theorem OE (ve vi vn:Value) (n:ao) (w:World) (h:aR w ve vi vn n) (hn:ar n=true):
  Calls Tryz.prog 208 #[.agg #[ve,vi,vn]] w fun e w'=>∃u S,e=.returned u/\nK w' w.heap.size u (lN n n.ends.length) S/\Below w.heap.size w w':=by
 have iM:=bK hn;have On:=iM.1;have Oo:=iM.2;have Hn:=zh hn
 obtain⟨w0,A,c,A2,c2,A3,c3,rfl,rfl,rfl,fR,hm,gC,jz,HA,H,cD,aY,fp,fE,fM⟩:=zB h;clear h
 have aK:ab w0 w0:=aa _;clear hn iM
 go_enter Tryz.func208,Tryz.ntmps208
 go_upto_region 1 with(fail);rw[<- cD.out];go_wp2
 go_loopw [3,11] (fun u i wr=>∃(k:Nat) (S:List Nat),k<=n.ends.length/\i=.int .i64 k/\nK wr w0.heap.size u (lN n k) S/\ab w0 wr) (fun _ i _=>n.ends.length-(intOf i).toNat)
 case atStart=>exact⟨0,[],Zac _,rfl,OC _ _,aK⟩
 case round=>
  obtain⟨k,S,hk,rfl,ho,eD⟩:=hrel;obtain⟨Ho,Hs⟩:=A_ ho eD;clear aK ho
  by_cases aA:k<n.ends.length
  ·obtain⟨es,aU⟩:=au n.ends k aA;have E3:=(fO Hn aU).1;obtain⟨b,CV,cr,ur,ja,Kv,dk,J6⟩:=iK H.es aU;cases ja;obtain⟨A1,z1,rfl,dP,dY,ja⟩:=J6;unfold maxLen at dY;have r1:=al (ae dk) Hs;have q5:=r1 wr (aa _);have m4:=zw k;have si:=zh (KZ aU)
   have jb:Hid ((lN n k).length+1<=4000000):=by show _<=_;rw[sy hk];omega
   clear aU dk ja
   go_wp2_with (at_make;refine RS _ rfl _ _ rfl _ _ es.length rfl rfl rfl rfl zO ?_;intro w1 gL aP)
   obtain⟨g,hg⟩:=J_ wr.heap.size
   rw[<- hg]at gL ⊢;have Hg:=zh hg
   have Ck:Hid (mI w1 g (.slice (some ⟨g,0,none⟩) es.length es.length) (List.replicate 0 true++List.replicate (es.length-0) false) [g]):=by show mI _ _ _ _ _;simpa using gL
   have HR1:=zh (xT.agU Ho.out aP);have di:Hid (ab w0 w1):=Hs.after aP
   have HSg:Hid (∀j∈S,j<g):=fun j hj=>by rw[hg];exact(xT.range Ho j hj).2
   have K0:Hid (w0.heap.size<=g):=by show _<=_;rw[hg];exact Hs.below.size
   clear gL aP hg eD;go_wp2
   go_loopw [20] (fun i wq=>∃j:Nat,j<=es.length/\i=.int .i64 j/\mI wq g (.slice (some ⟨g,0,none⟩) es.length es.length) (List.replicate j true++List.replicate (es.length-j) false) [g]/\nK wq w0.heap.size u3 (lN n k) S/\ab w0 wq) (fun i _=>es.length-(intOf i).toNat)
   case atStart=>exact⟨0,Zac _,rfl,Ck,HR1,di⟩
   case round=>
    obtain⟨j,hj,rfl,CT,ab_,xS⟩:=hrel;obtain⟨U9,aca,oy⟩:=B_ CT ab_ xS;clear CT ab_
    by_cases xK:j<es.length
    ·have m3:=zw j
     obtain⟨y,hy⟩:=au (List.replicate j true++List.replicate (es.length-j) false) j (by simp;omega)
     have cz:=U9.cell hy;have fz:=gX U9.row j
     have He:Hid ((List.replicate j true++List.replicate (es.length-j) false).set j true=List.replicate (j+1) true++List.replicate (es.length-(j+1)) false):=by
      show _=_
      rw[List.set_append_right _ _ zS,Zbb,Nat.sub_self,show es.length-j=(es.length-(j+1))+1 by omega,List.replicate_succ,List.set_cons_zero,List.replicate_succ',List.append_assoc]
      rfl
     clear hy xS;go_wp2;go_roundw
     exact⟨j+1,zO,zN,by rw[<- He.out];exact U9.out.set j true,xT.agV aca.out (fun i hi=>Zan wr _ _ i (by have:=HSg.out i hi;show i≠g;omega)),Below.setCell oy.out K0.out _⟩
     simp[intOf];omega
    ·obtain rfl:j=es.length:=zO
     have rc:Hid (mI wr w0.heap.size (.slice (some ⟨g,0,none⟩) es.length es.length) (List.replicate es.length true) [g]):=by
      have:=U9.out
      rw[Nat.sub_self,List.replicate_zero,List.append_nil]at this;exact Oz.mono this K0
     obtain⟨wA,P_⟩:=J_ (wr.alloc (.cells #[.slice (some ⟨g,0,none⟩) es.length es.length] 188))
     have HsA:Hid (ab w0 wA):=by rw[P_];exact ad _ oy
     have HBA:Hid (mI wA w0.heap.size (.slice (some ⟨g,0,none⟩) es.length es.length) (List.replicate es.length true) [g]):=by rw[P_];exact Oz.agU rc (am _ _)
     have HOA:Hid (nK wA w0.heap.size u3 (lN n k) S):=by rw[P_];exact xT.agU aca (am _ _)
     have RT:Hid (wA.cell? ⟨wr.heap.size,0,none⟩=some (.slice (some ⟨g,0,none⟩) es.length es.length)):=by show _=_;rw[P_];simp
     have HwA:=zh P_
     have HD:Hid (∀j∈[g],j∉S):=fun j hj hS=>by have:=HSg j hS;simp at hj;omega
     clear P_ xS
     go_wp2_with (at_builtin;rw[<- HwA.out];refine OD rfl _ _ rfl rfl HOA wr.heap.size rfl RT HBA HD jb HsA.below.size ?_;intro g3 FX w3 S3 gZ er;have uU:=zh gZ;have tF:=zh er;clear gZ er)
     go_wp2;go_roundw
     exact⟨k+1,S3,zO,zN,by rw[si.out];exact uU,Zbw HsA tF⟩
     simp[intOf];omega
  ·obtain rfl:k=n.ends.length:=zO
   obtain⟨A9,m9,c9,rfl⟩:=xT.one Ho;clear hk aA eD;go_wp2;go_ret;exact⟨_,_,rfl,xT.mono Ho aY.size,ab.after aY Hs⟩
theorem OF {n:ao} (h:ar n=true):n.ids.length<=40:=by
 have hl:=bK h;unfold ar at h;simp only[Zai]at h;have h2:=h.1.1.2;unfold ED at h2;rw[Zbp]at h2;rcases h2 with h2 | h2
 ·have:n.ids=[]:=List.isEmpty_iff.1 h2
  rw[this];simp
 ·rw[Zai]at h2
  have:(n.ids.length:Int)=n.ends.length:=by simpa using h2.1
  omega
section
variable {P : Program} {ops : Array Oper}
theorem ca {S:World->Prop} {fin:Act->World->Prop} {o:Oper} {rest:List Oper} {A:Act} {W:World} {ob:Obj} {v:Value} (hw:Region.wanted o (yielded ops A.tmps)=true) (h:(execOp A.eval o).run P W=.ok (.value v) (W.alloc ob)) (hS:S (W.alloc ob))
  (hr:∀W',W'=W.alloc ob->S W'->bP P ops S fin rest (A.put o.dst v) W'):bP P ops S fin (o::rest) A W:=
 Dz hw h hS (hr _ rfl hS)
end
end Go.Proofs.YtnioemnkfojmkaaGreat
