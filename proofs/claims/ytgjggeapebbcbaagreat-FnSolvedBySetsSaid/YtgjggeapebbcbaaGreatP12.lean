/- Parts of the proof: walks of functions and plain laws. -/
import Derived.Test.YtgjggeapebbcbaaGreatP0
import Derived.Test.YtgjggeapebbcbaaGreatP11
set_option maxRecDepth 100000
set_option maxHeartbeats 16000000
namespace Go.Proofs.YtgjggeapebbcbaaGreat
open Go Go.RowKit
theorem Cq (cb:Nat) (A:Option Addr) (L c P most M:Nat) (w:World) (hc:cW w cb A L c P) (hP:P<=4400000000000000000) (zv:1<=most) (qn:most<=M) (hM:M<=40):
  Calls Tryz.prog 134 #[.pointer (some ⟨cb,0,none⟩),.int .i64 most] w (tO cb w.heap.size A L c (P+72057594037927936) w (TN 100 M)):=by
 have jw:=hc.lt;obtain⟨B,rT⟩:∃z,z=w.heap.size+1:=⟨_,rfl⟩
 obtain⟨w0,au⟩:∃z,z=w.alloc (.cells #[.slice none 0 0,.slice none 0 0,.slice none 0 0] 27):=⟨_,rfl⟩
 have aX:aa w w0:=by rw[au];exact ae _ (ab _)
 have eS:w0.heap.size=B:=by rw[au,rT];simp
 have j1:aT w0 w.heap.size (.slice none 0 0) (.slice none 0 0) (.slice none 0 0):=by
  rw[au];show(w.heap.push _)[w.heap.size]?=_
  rw[Array.getElem?_push_size]
 have mI:=zh j1;have mJ:=zh aX;have bM:=zh au;have fI:=zh rT;have pV:=zh eS;have y5:=zh (hc.since aX);clear j1 aX au hc rT eS
 go_enter Tryz.func134,Tryz.ntmps134
 go_upto_region 1 with(fail);rw[<- bM.out];go_wp2_with fail;refine(dG cb A L c P most w0 y5.out (by omega) (by omega)).mono ?_;rintro e w1 ⟨x,rfl,hx,l4,kw⟩;obtain⟨m,hm⟩:∃m:Nat,m=x+1:=⟨_,rfl⟩
 have m1:IntKind.i64.wrap (1+(x:Int))=(m:Int):=by rw[aR _ (by omega) (by omega)];omega
 have JC:m<=M:=by omega
 have Hj:0<m:=by omega
 have qo:=zh l4;have y6:=zh kw;clear l4 kw hx;clear hm;go_wp2_with fail;refine(jY m (by omega) w1).mono ?_;rintro e w2 ⟨NX,NY,N1,S0,rfl,ho,hb2⟩;obtain⟨N0,rU⟩:∃z,z=bP m:=⟨_,rfl⟩
 rw[<- rU]at ho
 have jG:N0.ends.length=m:=by rw[rU];simp[bP]
 have wK:qp M 1 N0:=by rw[rU];exact qp.empty JC
 obtain⟨A1,c1,rfl,-,tb,-⟩:=id ho.read.1;obtain⟨AI,cI,rfl,-,-,-⟩:=id ho.read.2.1;obtain⟨AN,cN,rfl,-,-,-⟩:=id ho.read.2.2;obtain⟨w3,h_⟩:∃z,z=w2.alloc (.cells #[.slice A1 N0.ends.length c1,.slice AI N0.ids.length cI,.slice AN N0.aaa.length cN] 27):=⟨_,rfl⟩
 obtain⟨pb,dy⟩:∃z,z=w2.heap.size:=⟨_,rfl⟩
 have xY:aa w2 w3:=by rw[h_];exact ae _ (ab _)
 have iU:B<=w1.heap.size:=by rw[<- pV.out];exact y6.out.size
 have pC:Mb cb B pb A L c (P+2) w0 w3 (.slice A1 N0.ends.length c1) (.slice AI N0.ids.length cI) (.slice AN N0.aaa.length cN) N0 S0:=
  ⟨(ho.aab xY.below).mono iU,by rw[h_,dy];exact aS.new _ _ _ _ _,fun hj=>by have:=(ho.range _ hj).2;omega,(qo.out.since hb2).since xY,(y6.out.mono (by have:=pV.out;omega)).trans ((CB.of (Below.trans hb2 (xY.below.mono hb2.size))).mono iU)⟩
 have rg:=zh pC
 have cA:Hid (B<=pb/\pb<w3.heap.size):=⟨by rw[dy];exact Nat.le_trans iU hb2.size,by rw[h_,dy];simp⟩
 have yP:=zh h_;have rV:=zh dy;have zI:=zh wK;have ei:=zh jG;have dx:=pC.box.cells.1
 have nO:cb<B:=by have:=fI.out;omega
 clear pC h_ dy wK jG ho hb2 xY rU iU;go_upto_region 3 with(fail);rw[<- yP.out,<- rV.out];clear dx
 go_loopw [6] (fun i wr=>∃(v:Nat) (ve vi vn:Value) (N:am) (S:List Nat),1<=v/\v<=m/\i=.int .i64 v/\Mb cb B pb A L c (P+2+v*1125899906842624) w0 wr ve vi vn N S/\qp M v N/\N.ends.length=m/\B<=wr.heap.size) (fun i _=>m-(intOf i).toNat)
 case atStart=>exact⟨1,_,_,_,N0,S0,Nat.le_refl _,Hj,rfl,⟨rg.out.own,rg.out.box,rg.out.nb,rg.out.cur.mono (by omega),rg.out.far⟩,zI.out,ei.out,by have:=cA.out;omega⟩
 case round=>
  obtain⟨v,ve,vi,vn,N,S2,IX,hk,rfl,hm,gA,jG,dM⟩:=hrel;obtain⟨zq,iN,rfl,-,Eg,-⟩:=id hm.own.read.1;obtain⟨lX,lY,rfl,-,-,-⟩:=id hm.own.read.2.1;obtain⟨rh,n6,rfl,-,-,-⟩:=id hm.own.read.2.2;obtain⟨g,rfl,-⟩:=hm.own.head (by omega);have Hm:=zh hm;have iR:=zh gA;have ei:=zh jG;have li:=zh dM
  have gz:pb≠cb:=by have:=cA.out;omega
  have sZ:wr.cell? ⟨pb,0,none⟩=some (.slice (some ⟨g,0,none⟩) m iN):=by have:=Hm.out.box.cells.1;rwa [ei.out]at this
  clear hm gA jG dM;obtain⟨wo,rfl⟩:∃z,z=wr:=⟨_,rfl⟩
  by_cases aH:v<m
  ·have m4:IntKind.i64.wrap ((v:Int)+1)=(v:Int)+1:=aR _ (by omega) (by omega);obtain⟨t0,QM,UJ⟩:=iR.out.low IX;have X4:=zh UJ;clear UJ;obtain⟨Q,hQ⟩:∃z,z=P+2+v*1125899906842624:=⟨_,rfl⟩
   have HQ:Hid (Q=P+2+v*1125899906842624):=hQ
   have NW:Hid (Q<=4500000000000000000):=by show _<=_;omega
   rw[<- hQ]at Hm;clear hQ;obtain⟨p0,s0,xM,Jr⟩:=Hm.out.cur;have X5:=zh xM;have Db:=zh Jr;have QN:=xM.len;clear xM Jr;go_wp2_with fail
   refine(pt cb A L c p0 s0 v wo X5.out (by have:=NW.out;have:=Db.out;omega) (by omega)).mono ?_
   rintro e w5 ⟨u0,p1,s1,rfl,BZ,AK,C4,bS,-,kw⟩;have si:=ap sZ gz w5 kw
   have gh:=zh (Hm.out.seen (P':=Q+2) kw ⟨p1,s1,bS,by have:=Db.out;omega⟩ nO cA.out.1 li.out)
   have qq:Hid (B<=w5.heap.size):=Nat.le_trans li.out kw.size;have xE:=zh bS
   have Nv:Hid (p1<=Q+2):=by show _<=_;have:=Db.out;omega
   clear kw bS sZ AK C4;go_upto_region 6 with(fail);clear si
   go_loopw [7] (fun x wr=>∃(u p s:Nat),x=.int .i64 u/\u<v/\so wr cb A L c p s/\p<=Q+281474977759236/\(u≠t0->p+ny L v t0 p s<=Q+281474977759235)/\Mb cb B pb A L c (Q+281474977759236) w0 wr (.slice (some ⟨g,0,none⟩) N.ends.length iN) (.slice lX N.ids.length lY) (.slice rh N.aaa.length n6) N S2/\B<=wr.heap.size) (fun x wr=>Cn L v t0 cb x wr)
   case atStart=>
    refine⟨u0,p1,s1,rfl,by omega,xE.out,by have:=Nv.out;omega,fun _=>?_,⟨gh.out.own,gh.out.box,gh.out.nb,gh.out.cur.mono (by omega),gh.out.far⟩,qq.out⟩
    have h1:=Em (L:=L) (v:=v) (t0:=t0) p1 s1 QN (by omega) QM;have h2:=Nv.out;omega
   case round=>
    obtain⟨u,p,s,rfl,X6,LV,UK,UL,rW,tT⟩:=hrel;have X7:=zh UK;clear UK;have UM:=zh LV;have X8:=zh UL;have FS:=zh rW;have Cs:=zh tT;clear LV UL tT;obtain⟨xu,gC⟩:∃z,z=bg N u:=⟨_,rfl⟩
    have FK:=a_ (n:=N) (v:=u) (by have:=ei.out;omega)
    rw[<- gC]at FK;obtain⟨uu,T,gW,-,hR,-,-,qG⟩:=rW.own.aah FK;obtain⟨AU,cU,rfl,-,-,-⟩:=id hR.read
    have si:wr.cell? ⟨pb,0,none⟩=some (.slice (some ⟨g,0,none⟩) m iN):=by have:=rW.box.cells.1;rwa [ei.out]at this
    have pU:=zh gC;have X9:u<m:=by omega
    clear rW hR gC FK qG
    by_cases h4:4<=xu.length
    ·have X_:u≠t0:=fun e=>by have h5:=X4.out;rw[<- e,<- pU.out]at h5;omega
     have Fs:2<=v:=by omega
     have e4:((4:Int)<=(xu.length:Int))=True:=by simp;omega
     go_wp2_with fail
     refine(pt cb A L c p s v wr UM.out (by have:=NW.out;have:=X7.out;omega) (by omega)).mono ?_
     rintro e w6 ⟨x,p',s',rfl,hx,Ya,Yb,E_,UN,jH⟩;obtain⟨rfl,UO⟩:=UN Fs (by omega);have UP:=zh UO;have QO:=zh E_;have UQ:=zh jH;clear UN UO E_ jH si gW;go_wp2;go_roundw
     case rel=>
      have h3:=X8.out X_;have h4:p+1<=Q+281474977759236:=by omega
      refine⟨x,p+1,s',rfl,by omega,QO.out,h4,fun QP=>?_,FS.out.seen UQ.out ⟨p+1,s',QO.out,h4⟩ nO cA.out.1 Cs.out,Nat.le_trans Cs.out UQ.out.size⟩
      have h2:=ri (L:=L) (v:=v) (t0:=t0) (p:=p) (s:=s) (s':=s') (x:=x) QN (by omega) QM QP UP.out;omega
     case measure=>
      obtain⟨q1,q2⟩:=UM.out.pOf;obtain⟨q3,q4⟩:=QO.out.pOf;rw[tS (x:=.int .i64 (u:Int)) (show ¬((u:Int)=(t0:Int))by omega),q1,q2]
      by_cases QP:x=t0
      ·rw[Co (x:=.int .i64 (x:Int)) (show(x:Int)=(t0:Int)by omega)];omega
      ·rw[tS (x:=.int .i64 (x:Int)) (show ¬((x:Int)=(t0:Int))by omega),q3,q4]
       have h2:=ri (L:=L) (v:=v) (t0:=t0) (p:=p) (s:=s) (s':=s') (x:=x) QN (by omega) QM QP UP.out;omega
    ·have e4:((4:Int)<=(xu.length:Int))=False:=by simp;omega
     have QQ:Hid ((bg N u).length<4):=by show _<_;rw[<- pU.out];omega
     go_upto_region 8 with(fail);clear si gW;obtain⟨k0,k1,k2,f0,f1,f2⟩:=FS.out.box.cells;obtain⟨wq,rfl⟩:∃z,z=wr:=⟨_,rfl⟩
     clear f0 f1 f2;go_wp2_with fail
     refine(jq _ _ _ N u v wq FS.out.own.read (by rw[ei.out];exact X9) (by rw[ei.out];exact aH) ((iR.out.gd.mono (R':=80) (M':=40) (by omega) hM).small (by omega) (by omega))).mono ?_
     rintro e w8 ⟨LK,LM,LN,S3,rfl,cy,hb2⟩;have la:aa wq w8:=hb2;obtain⟨D0,d0,rfl,-,-,-⟩:=id cy.read.1;obtain⟨D1,d1,rfl,-,-,-⟩:=id cy.read.2.1;obtain⟨D2,d2,rfl,-,-,-⟩:=id cy.read.2.2;have tP:=FS.out.assign (CB.of la) (FS.out.cur.since la) cy FS.out.box.lt nO cA.out.1 Cs.out;obtain⟨k0,k1,k2,f0,f1,f2⟩:=(FS.out.box.below la FS.out.box.lt).cells;have k_:=zh tP
     have j3:B<=(aag w8 pb (.slice D0 (bC N u v).ends.length d0) (.slice D1 (bC N u v).ids.length d1) (.slice D2 (bC N u v).aaa.length d2)).heap.size:=by rw[ep];exact Nat.le_trans Cs.out la.below.size
     have pD:=zh j3
     have Cd:=zh (iR.out.step X6 (by rw[ei.out];exact aH) QQ.out)
     have Ch:=zh ((b_ N u v).trans ei.out);clear tP cy hb2 la j3;go_wp2;go_roundw
     case rel=>exact⟨v+1,_,_,_,bC N u v,S3,by omega,by omega,by first | rfl | go_num,⟨k_.out.own,k_.out.box,k_.out.nb,k_.out.cur.mono (by have:=HQ.out;omega),k_.out.far⟩,Cd.out,Ch.out,pD.out⟩
     case measure=>simp[intOf];omega
  ·obtain rfl:v=m:=by omega
   clear sZ;obtain⟨k0,k1,k2,-,-,-⟩:=Hm.out.box.cells;have Yc:(N.ends.length:Int)=(v:Int):=by rw[ei.out]
   have y7:Hid (Gd 80 M N):=iR.out.gd.mono (by omega) (Nat.le_refl _);have gX:=Hm;have lZ:=li;obtain⟨w5,rfl⟩:∃z,z=wo:=⟨_,rfl⟩
   go_upto_region 9 with(fail);clear Yc;go_wp2_with fail
   refine(n5 cb A L c _ B 80 M _ _ _ N S2 w5 gX.out.cur (by omega) gX.out.own nO lZ.out y7.out (by omega) (by omega) (by have:=ei.out;omega)).mono ?_
   rintro e w6 ⟨FP,FQ,FR,N6,S6,rfl,eu,⟨pE,nw⟩,fB,jH⟩;obtain⟨D0,d0,rfl,-,-,-⟩:=id eu.read.1;obtain⟨D1,d1,rfl,-,-,-⟩:=id eu.read.2.1;obtain⟨D2,d2,rfl,-,-,-⟩:=id eu.read.2.2;have bK:=(gX.out.far.mono (Nat.le_refl B)).trans jH
   have fH:=bK.aap mI.out (by have:=fI.out;omega) (by omega)
   obtain⟨e0,e1,e2,f0,f1,f2⟩:=fH.box.cells;have bh:=eu;rw[fI.out]at bh bK;have cw:=zh (eV mJ.out bh fB bK jw);have wL:=zh pE;have sp:=zh nw;clear bK fH bh pE nw fB jH eu k0 k1 k2;go_wp2;refine bodyPost_ret (v:=.agg #[.slice D0 N6.ends.length d0,.slice D1 N6.ids.length d1,.slice D2 N6.aaa.length d2]) (by simp[results,Tryz.results134,go_sem, *]) rfl ?_;obtain⟨r1,r2,r3⟩:=cw.out
   exact⟨_,_,_,N6,S6,rfl,r1,⟨sp.out.mono (by omega) (Nat.le_refl _),by have:=ei.out;have:=wL.out.len;omega⟩,r2.mono (by omega),r3⟩
theorem Gd.aaF {R M:Nat} {n:am} {v u:Nat} (h:Gd R M n) (hv:v<n.ends.length) (hu:u<n.ends.length) (Ls:v≠u) (h1:(bg n v).length<5) (h2:(bg n u).length<5) (hR:5<=R):Gd R M (bC n v u):=by
 refine⟨by rw[b_];exact h.ends,fun k es hk=>?_,h.ids,by rw[b_];exact h.aaa,n7 h.wf hv hu⟩
 have h3:=j4 hk
 have mZ:k<n.ends.length:=by have:=ai hk;rwa [b_]at this
 rw[<- h3,gY hv hu];have h4:=h.row k _ (a_ mZ)
 by_cases a:k=u
 ·subst a
  rw[if_pos rfl,if_neg (Ne.symm Ls)];omega
 ·rw[if_neg a]
  by_cases b:k=v
  ·subst b;rw[if_pos rfl];omega
  ·rw[if_neg b];omega
theorem pF (cb:Nat) (A:Option Addr) (L c P most M:Nat) (w:World) (hc:cW w cb A L c P) (hP:P<=4300000000000000000) (zv:1<=most) (qn:most<=M) (hM:M<=40):
  Calls Tryz.prog 135 #[.pointer (some ⟨cb,0,none⟩),.int .i64 most] w (tO cb w.heap.size A L c (P+80000000000000000) w (TN 100 M)):=by
 have jw:=hc.lt;obtain⟨B,rT⟩:∃z,z=w.heap.size+1:=⟨_,rfl⟩
 obtain⟨w0,au⟩:∃z,z=w.alloc (.cells #[.slice none 0 0,.slice none 0 0,.slice none 0 0] 27):=⟨_,rfl⟩
 have aX:aa w w0:=by rw[au];exact ae _ (ab _)
 have eS:w0.heap.size=B:=by rw[au,rT];simp
 have j1:aT w0 w.heap.size (.slice none 0 0) (.slice none 0 0) (.slice none 0 0):=by
  rw[au];show(w.heap.push _)[w.heap.size]?=_
  rw[Array.getElem?_push_size]
 have mI:=zh j1;have mJ:=zh aX;have bM:=zh au;have fI:=zh rT;have pV:=zh eS;have y5:=zh (hc.since aX);clear j1 aX au hc rT eS
 go_enter Tryz.func135,Tryz.ntmps135
 go_upto_region 1 with(fail);rw[<- bM.out];go_wp2_with fail;refine(Cq cb A L c P most M w0 y5.out (by omega) zv qn hM).mono ?_;rintro e w1 ⟨NX,NY,N1,N0,S0,rfl,ho,⟨wK,rU⟩,l4,kw⟩;rw[pV.out]at ho kw;obtain⟨m,jG⟩:∃m,N0.ends.length=m:=⟨_,rfl⟩
 have JC:m<=M:=by rw[<- jG];exact wK.ends
 have Hj:0<m:=by omega
 obtain⟨A1,c1,rfl,-,tb,-⟩:=id ho.read.1;obtain⟨AI,cI,rfl,-,-,-⟩:=id ho.read.2.1;obtain⟨AN,cN,rfl,-,-,-⟩:=id ho.read.2.2;obtain⟨w3,h_⟩:∃z,z=w1.alloc (.cells #[.slice A1 N0.ends.length c1,.slice AI N0.ids.length cI,.slice AN N0.aaa.length cN] 27):=⟨_,rfl⟩
 obtain⟨pb,dy⟩:∃z,z=w1.heap.size:=⟨_,rfl⟩
 have xY:aa w1 w3:=by rw[h_];exact ae _ (ab _)
 have iU:B<=w1.heap.size:=by rw[<- pV.out];exact kw.size
 have pC:Mb cb B pb A L c (P+72057594037927936) w0 w3 (.slice A1 N0.ends.length c1) (.slice AI N0.ids.length cI) (.slice AN N0.aaa.length cN) N0 S0:=
  ⟨ho.aab xY.below,by rw[h_,dy];exact aS.new _ _ _ _ _,fun hj=>by have:=(ho.range _ hj).2;omega,l4.since xY,kw.trans ((CB.of xY).mono iU)⟩
 have rg:=zh pC
 have cA:Hid (B<=pb/\pb<w3.heap.size):=⟨by rw[dy];exact iU,by rw[h_,dy];simp⟩
 have yP:=zh h_;have rV:=zh dy;have zI:=zh wK;have Ik:=zh jG;have dx:=pC.box.cells.1
 have nO:cb<B:=by have:=fI.out;omega
 have gz:pb≠cb:=by have:=cA.out;omega
 rw[jG]at dx;have m0:IntKind.i64.wrap (1+(m:Int))=1+(m:Int):=aR _ (by omega) (by omega);clear pC h_ dy wK jG ho xY rU iU l4 kw;go_upto_region 2 with(fail);rw[<- yP.out,<- rV.out];go_wp2_with fail;refine(dG cb A L c _ (1+(m:Int)) w3 rg.out.cur (by omega) (by omega)).mono ?_;rintro e w4 ⟨x4,rfl,Yd,pG,np⟩;have QR:x4<=m:=by omega
 have zJ:=zh (rg.out.seen np pG nO cA.out.1 (by have:=cA.out;omega))
 have N7:Hid (B<=w4.heap.size):=by show _<=_;have:=cA.out;have:=np.size;omega
 clear pG np dx Yd;go_upto_region 3 with(fail);obtain⟨Q,hQ⟩:∃z,z=P+72057594037927936+2:=⟨_,rfl⟩
 have HQ:Hid (Q=P+72057594037927936+2):=hQ;rw[<- hQ]at zJ;clear hQ
 go_loopw [6] (fun i wr=>∃(k:Nat) (ve vi vn:Value) (N:am) (S:List Nat),k<=m/\i=.int .i64 k/\Mb cb B pb A L c (Q+4*(m-k)) w0 wr ve vi vn N S/\Gd 100 M N/\N.ends.length=m/\B<=wr.heap.size) (fun i _=>(intOf i).toNat)
 case atStart=>exact⟨x4,_,_,_,N0,S0,QR,rfl,⟨zJ.out.own,zJ.out.box,zJ.out.nb,zJ.out.cur.mono (by omega),zJ.out.far⟩,zI.out,Ik.out,N7.out⟩
 case round=>
  obtain⟨k,ve,vi,vn,N,S2,hk,rfl,hm,gA,jG,dM⟩:=hrel;obtain⟨zq,iN,rfl,-,Eg,-⟩:=id hm.own.read.1;obtain⟨lX,lY,rfl,-,-,-⟩:=id hm.own.read.2.1;obtain⟨rh,n6,rfl,-,-,-⟩:=id hm.own.read.2.2;obtain⟨g,rfl,-⟩:=hm.own.head (by omega);have Hm:=zh hm;have iR:=zh gA;have ei:=zh jG;have li:=zh dM;clear hm gA jG dM
  by_cases aH:0<k
  ·have e0:((0:Int)<(k:Int))=True:=by simp;omega
   have m4:IntKind.i64.wrap ((k:Int)-1)=(k:Int)-1:=aR _ (by omega) (by omega)
   have rP:=zh (show wr.cell? ⟨pb,0,none⟩=some (.slice (some ⟨g,0,none⟩) m iN)from by obtain⟨a,-⟩:=Hm.out.box.cells;rw[ei.out]at a;exact a)
   obtain⟨wo,rfl⟩:∃z,z=wr:=⟨_,rfl⟩
   go_upto_region 5 with(fail);refine ar (fun W=>W.cell? ⟨pb,0,none⟩=some (.slice (some ⟨g,0,none⟩) m iN)) 10 [false,false,false,false,true,false,false,false,false,true] (by kernel_rfl) (by kernel_rfl) (show(World.drew wo).cell? ⟨pb,0,none⟩=some (.slice (some ⟨g,0,none⟩) m iN)from rP.out) ?_
   simp only[df,b8,zT]
   iterate 8 (apply aU rfl;(intro W hW;(have k0:=hW);go_simp;with_reducible rfl);simp only[zA])
   obtain⟨W,bB⟩:∃W,W=World.drew wo:=⟨_,rfl⟩
   rw[<- bB];have hW:=(show(World.drew wo).cell? ⟨pb,0,none⟩=some (.slice (some ⟨g,0,none⟩) m iN)from rP.out);rw[<- bB]at hW;have dX:=zh bB;clear bB;refine Or.inl ⟨rfl,?_⟩
   go_simp
   (with_reducible refine(dG cb A L c (Q+4*(m-k)) (m:Int) W (by rw[dX.out];exact Hm.out.cur.since (ah (ab _))) (by have:=HQ.out;omega) (by omega)).mono ?_)
   rintro e W' ⟨a,rfl,ha,gW,hC⟩;refine⟨_,rfl,ap hW gz _ hC,?_⟩
   replace hW:=ap hW gz _ hC
   have jA:aa wo W:=(by rw[dX.out];exact ah (ab _))
   have pr:=zh (((fR.refl cb wo).after jA).trans hC);have Cc:=zh gW;have Ha:=zh ha;clear hC gW jA ha;obtain⟨wp,rfl⟩:∃z,z=W':=⟨_,rfl⟩
   (try simp only[zA])
   refine Or.inl ⟨rfl,?_⟩
   go_simp
   (with_reducible refine(dG cb A L c (Q+4*(m-k)+2) (m:Int) _ Cc.out (by have:=HQ.out;omega) (by omega)).mono ?_)
   rintro e W' ⟨b,rfl,hb,gW,hC⟩;refine⟨_,rfl,ap hW gz _ hC,?_⟩
   replace hW:=ap hW gz _ hC
   have gh:=zh (Hm.out.seen (pr.out.trans hC) gW nO cA.out.1 li.out);have qq:Hid (B<=W'.heap.size):=Nat.le_trans li.out (pr.out.trans hC).size;clear hC gW
   (try simp only[zA])
   simp only[aQ]
   have Il:a<m:=by have:=Ha.out;omega
   have GP:b<m:=by omega
   clear hb;obtain⟨w5,rfl⟩:∃z,z=W':=⟨_,rfl⟩
   have QS:=zh hW;clear hW;obtain⟨xa,wN⟩:∃z,z=bg N a:=⟨_,rfl⟩
   obtain⟨xb,wO⟩:∃z,z=bg N b:=⟨_,rfl⟩
   have xz:=a_ (n:=N) (v:=a) (by have:=ei.out;omega)
   have C_:=a_ (n:=N) (v:=b) (by have:=ei.out;omega)
   rw[<- wN]at xz;rw[<- wO]at C_;have Jp:xa.length<=100:=iR.out.row _ _ xz;have Im:xb.length<=100:=iR.out.row _ _ C_;obtain⟨ua,Ta,LW,-,LX,-,-,-⟩:=gh.out.own.aah xz;obtain⟨Ye,Yf,rfl,-,-,-⟩:=id LX.read;obtain⟨ub,Tb,Ct,-,Fv,-,-,-⟩:=gh.out.own.aah C_;obtain⟨Yg,Yh,rfl,-,-,-⟩:=id Fv.read;have En:=zh wN;have Io:=zh wO;have Yi:=zh xz;have pa:=ad LW;have pq:=ad Ct;have p0:=ad QS.out;have p1:=ad gh.out.box.cells.2.1;have p2:=ad gh.out.box.cells.2.2.1
   have Ba:Hid (aI w5 (.slice (some ⟨g,0,none⟩) m iN) (.slice lX N.ids.length lY) (.slice rh N.aaa.length n6) N):=by show aI _ _ _ _ _;have h9:=gh.out.own.read;rw[ei.out]at h9;exact h9
   clear wN wO xz C_ LX Fv LW Ct
   by_cases oz:a=b
   ·have e1:((a:Int)=(b:Int))=True:=by simp;omega
    have q0:=p0 w5 (ab _);clear p0 p1 p2 pa pq;go_wp2;go_roundw
    case rel=>exact⟨k-1,_,_,_,N,S2,by omega,by rw[show((k-1:Nat):Int)=(k:Int)-1 by omega],(⟨gh.out.own,gh.out.box,gh.out.nb,gh.out.cur.mono (by omega),gh.out.far⟩),iR.out,ei.out,qq.out⟩
    case measure=>simp[intOf];omega
   ·have e1:((a:Int)=(b:Int))=False:=by simp;omega
    have q0:=p0 w5 (ab _);have q1:=p1 w5 (ab _);have q2:=p2 w5 (ab _);go_wp2_with fail;refine(kN _ _ _ N a xa w5 Ba.out Yi.out (by omega)).mono ?_;rintro e w6 ⟨u6,rfl,eu,rX⟩;have rJ:aa w5 w6:=rX;have ks:=zh (gh.out.since rJ nO cA.out.1 qq.out);have qr:Hid (B<=w6.heap.size):=Nat.le_trans qq.out rJ.below.size;obtain⟨A6,c6,rfl,-,-,-⟩:=id eu.ints;have y8:=zh eu;clear eu q0 q1 q2;go_wp2_with fail
    refine(gB _ (xa.map (·.1)) (b:Int) w6 (by have h9:=y8.out.ints;rw[List.length_map]at h9;exact h9)).mono ?_
    rintro e w7 ⟨rfl,nz⟩;subst nz;have q0:=p0 w6 rJ;have q1:=p1 w6 rJ;have q2:=p2 w6 rJ;have qa:=pa w6 rJ;have qb:=pq w6 rJ;clear p0 p1 p2 pa pq rJ rX;cases hh:f8 (xa.map (·.1)) (b:Int)
    ·by_cases h5:xa.length<5
     ·have e5:((xa.length:Int)<5)=True:=by simp;omega
      by_cases h6:xb.length<5
      ·have e6:((xb.length:Int)<5)=True:=by simp;omega
       go_wp2_with fail
       refine(jq _ _ _ N a b w6 (by have h9:=ks.out.own.read;rw[ei.out]at h9;exact h9) (by rw[ei.out];exact Il) (by rw[ei.out];exact GP) ((iR.out.mono (R':=100) (M':=40) (by omega) hM).small (by omega) (by omega))).mono ?_
       rintro e w8 ⟨LK,LM,LN,S3,rfl,cy,hb2⟩;have la:aa w6 w8:=hb2;obtain⟨D0,d0,rfl,-,-,-⟩:=id cy.read.1;obtain⟨D1,d1,rfl,-,-,-⟩:=id cy.read.2.1;obtain⟨D2,d2,rfl,-,-,-⟩:=id cy.read.2.2;have tP:=ks.out.assign (CB.of la) (ks.out.cur.since la) cy ks.out.box.lt nO cA.out.1 qr.out;clear q0 q1 q2 qa qb;obtain⟨k0,k1,k2,f0,f1,f2⟩:=(ks.out.box.below la ks.out.box.lt).cells;have k_:=zh tP
       have j3:B<=(aag w8 pb (.slice D0 (bC N a b).ends.length d0) (.slice D1 (bC N a b).ids.length d1) (.slice D2 (bC N a b).aaa.length d2)).heap.size:=by rw[ep];exact Nat.le_trans qr.out la.below.size
       have pD:=zh j3
       have Cd:=zh (iR.out.aaF (v:=a) (u:=b) (by rw[ei.out];exact Il) (by rw[ei.out];exact GP) oz (by rw[<- En.out];omega) (by rw[<- Io.out];omega) (by omega))
       have Ch:=zh ((b_ N a b).trans ei.out);clear tP cy hb2 la j3;go_wp2;go_roundw
       case rel=>exact⟨k-1,_,_,_,bC N a b,S3,by omega,by rw[show((k-1:Nat):Int)=(k:Int)-1 by omega],⟨k_.out.own,k_.out.box,k_.out.nb,k_.out.cur.mono (by omega),k_.out.far⟩,Cd.out,Ch.out,pD.out⟩
       case measure=>simp[intOf];omega
      ·have e6:((xb.length:Int)<5)=False:=by simp;omega
       go_wp2;go_roundw
       case rel=>exact⟨k-1,_,_,_,N,S2,by omega,by rw[show((k-1:Nat):Int)=(k:Int)-1 by omega],(⟨ks.out.own,ks.out.box,ks.out.nb,ks.out.cur.mono (by omega),ks.out.far⟩),iR.out,ei.out,qr.out⟩
       case measure=>simp[intOf];omega
     ·have e5:((xa.length:Int)<5)=False:=by simp;omega
      go_wp2;go_roundw
      case rel=>exact⟨k-1,_,_,_,N,S2,by omega,by rw[show((k-1:Nat):Int)=(k:Int)-1 by omega],(⟨ks.out.own,ks.out.box,ks.out.nb,ks.out.cur.mono (by omega),ks.out.far⟩),iR.out,ei.out,qr.out⟩
      case measure=>simp[intOf];omega
    ·go_wp2;go_roundw
     case rel=>exact⟨k-1,_,_,_,N,S2,by omega,by rw[show((k-1:Nat):Int)=(k:Int)-1 by omega],(⟨ks.out.own,ks.out.box,ks.out.nb,ks.out.cur.mono (by omega),ks.out.far⟩),iR.out,ei.out,qr.out⟩
     case measure=>simp[intOf];omega
  ·obtain rfl:k=0:=by omega
   obtain⟨k0,k1,k2,-,-,-⟩:=Hm.out.box.cells;have y7:=iR;have gX:=Hm;have lZ:=li;obtain⟨w5,rfl⟩:∃z,z=wr:=⟨_,rfl⟩
   go_upto_region 8 with(fail);go_wp2_with fail
   refine(n5 cb A L c _ B 100 M _ _ _ N S2 w5 gX.out.cur (by have:=HQ.out;omega) gX.out.own nO lZ.out y7.out (by omega) (by omega) (by have:=ei.out;omega)).mono ?_
   rintro e w6 ⟨FP,FQ,FR,N6,S6,rfl,eu,⟨pE,nw⟩,fB,jH⟩;obtain⟨D0,d0,rfl,-,-,-⟩:=id eu.read.1;obtain⟨D1,d1,rfl,-,-,-⟩:=id eu.read.2.1;obtain⟨D2,d2,rfl,-,-,-⟩:=id eu.read.2.2;have bK:=(gX.out.far.mono (Nat.le_refl B)).trans jH
   have fH:=bK.aap mI.out (by have:=fI.out;omega) (by omega)
   obtain⟨e0,e1,e2,f0,f1,f2⟩:=fH.box.cells;have bh:=eu;rw[fI.out]at bh bK;have cw:=zh (eV mJ.out bh fB bK jw);have wL:=zh pE;have sp:=zh nw;clear bK fH bh pE nw fB jH eu k0 k1 k2;go_wp2;refine bodyPost_ret (v:=.agg #[.slice D0 N6.ends.length d0,.slice D1 N6.ids.length d1,.slice D2 N6.aaa.length d2]) (by simp[results,Tryz.results135,go_sem, *]) rfl ?_;obtain⟨r1,r2,r3⟩:=cw.out
   exact⟨_,_,_,N6,S6,rfl,r1,⟨sp.out.mono (by omega) (Nat.le_refl _),by have:=ei.out;have:=wL.out.len;omega⟩,r2.mono (by have:=HQ.out;omega),r3⟩
theorem ao.aar {w w':World} {base:Nat} {ve vi vn vi':Value} {N:am} {S T:List Nat} {ids':List Int} (h:ao w base ve vi vn N S) (ho:it w' base vi' ids' T) (eK:aL vi.ownBlock.toList w w') (hT:∀j∈T,j∈vi.ownBlock.toList\/w.heap.size<=j):
  ∃S',ao w' base ve vi' vn { N with ids:=ids' } S'/\∀j∈S',j∈S\/w.heap.size<=j:=by
 have Dw:=h.range;obtain⟨S1,S2,S3,h1,h2,h3,h4,h5⟩:=h;have e2:S2=vi.ownBlock.toList:=h2.2;rw[<- e2]at eK hT;have lx:=h5;rw[h4,List.nodup_append,List.nodup_append]at h5;obtain⟨n1,⟨n2,n3,QT⟩,d1⟩:=h5
 have m1:∀j∈S1,j∈S:=fun j hj=>by rw[h4];exact List.mem_append_left _ hj
 have m2:∀j∈S2,j∈S:=fun j hj=>by rw[h4];exact List.mem_append_right _ (List.mem_append_left _ hj)
 have m3:∀j∈S3,j∈S:=fun j hj=>by rw[h4];exact List.mem_append_right _ (List.mem_append_right _ hj)
 have x1:∀j∈S1,j∉S2:=fun j hj hk=>d1 j hj j (List.mem_append_left _ hk) rfl
 have x3:∀j∈S3,j∉S2:=fun j hj hk=>QT j hk j hj rfl
 have t1:∀j∈S1,j∉T:=fun j hj hk=>by
  rcases hT j hk with h | h
  ·exact x1 j hj h
  ·have:=(Dw j (m1 j hj)).2;omega
 have t3:∀j∈S3,j∉T:=fun j hj hk=>by
  rcases hT j hk with h | h
  ·exact x3 j hj h
  ·have:=(Dw j (m3 j hj)).2;omega
 refine⟨S1++(T++S3),⟨S1,T,S3,ii.only h1 eK x1,ho,dF.only h3 eK x3,rfl,?_⟩,?_⟩
 ·rw[List.nodup_append,List.nodup_append];refine⟨n1,⟨dF.nodup ho,n3,fun a ha b hb e=>t3 b hb (e ▸ ha)⟩,fun a ha b hb e=>?_⟩
  rcases List.mem_append.1 hb with hb | hb
  ·exact t1 a ha (e ▸ hb)
  ·exact d1 a ha b (List.mem_append_right _ hb) e
 ·intro j hj;rcases List.mem_append.1 hj with hj | hj
  ·exact .inl (m1 j hj)
  ·rcases List.mem_append.1 hj with hj | hj
   ·rcases hT j hj with h | h
    ·exact .inl (m2 j h)
    ·exact .inr h
   ·exact .inl (m3 j hj)
theorem ao.aaE {w w':World} {base:Nat} {ve vi vn N_:Value} {N:am} {S T:List Nat} {LY:List Int} (h:ao w base ve vi vn N S) (ho:it w' base N_ LY T) (eK:aL vn.ownBlock.toList w w') (hT:∀j∈T,j∈vn.ownBlock.toList\/w.heap.size<=j):
  ∃S',ao w' base ve vi N_ { N with aaa:=LY } S'/\∀j∈S',j∈S\/w.heap.size<=j:=by
 have Dw:=h.range;obtain⟨S1,S2,S3,h1,h2,h3,h4,h5⟩:=h;have e3:S3=vn.ownBlock.toList:=h3.2;rw[<- e3]at eK hT;rw[h4,List.nodup_append,List.nodup_append]at h5;obtain⟨n1,⟨n2,n3,QT⟩,d1⟩:=h5
 have m1:∀j∈S1,j∈S:=fun j hj=>by rw[h4];exact List.mem_append_left _ hj
 have m2:∀j∈S2,j∈S:=fun j hj=>by rw[h4];exact List.mem_append_right _ (List.mem_append_left _ hj)
 have m3:∀j∈S3,j∈S:=fun j hj=>by rw[h4];exact List.mem_append_right _ (List.mem_append_right _ hj)
 have x1:∀j∈S1,j∉S3:=fun j hj hk=>d1 j hj j (List.mem_append_right _ hk) rfl
 have x2:∀j∈S2,j∉S3:=fun j hj hk=>QT j hj j hk rfl
 have t1:∀j∈S1,j∉T:=fun j hj hk=>by
  rcases hT j hk with h | h
  ·exact x1 j hj h
  ·have:=(Dw j (m1 j hj)).2;omega
 have t2:∀j∈S2,j∉T:=fun j hj hk=>by
  rcases hT j hk with h | h
  ·exact x2 j hj h
  ·have:=(Dw j (m2 j hj)).2;omega
 refine⟨S1++(S2++T),⟨S1,S2,T,ii.only h1 eK x1,dF.only h2 eK x2,ho,rfl,?_⟩,?_⟩
 ·rw[List.nodup_append,List.nodup_append];refine⟨n1,⟨n2,dF.nodup ho,fun a ha b hb e=>t2 a ha (e ▸ hb)⟩,fun a ha b hb e=>?_⟩
  rcases List.mem_append.1 hb with hb | hb
  ·exact d1 a ha b (List.mem_append_left _ hb) e
  ·exact t1 a ha (e ▸ hb)
 ·intro j hj;rcases List.mem_append.1 hj with hj | hj
  ·exact .inl (m1 j hj)
  ·rcases List.mem_append.1 hj with hj | hj
   ·exact .inl (m2 j hj)
   ·rcases hT j hj with h | h
    ·exact .inl (m3 j h)
    ·exact .inr h
def dQ (k:Nat) (e:Int×Int):Int×Int:=(e.1+(k:Int),e.2)
def eF (a b:am):am:=⟨a.ends++b.ends.map (List.map (dQ a.ends.length)),a.ids++b.ids,a.aaa++b.aaa⟩
theorem Gd.union {R M M':Nat} {a b:am} (ha:Gd R M a) (hb:Gd R M' b):Gd R (M+M') (eF a b):=by
 have hl:(eF a b).ends.length=a.ends.length+b.ends.length:=by simp[eF]
 have bT:∀(k:Nat) (es:List (Int×Int)),(eF a b).ends[k]?=some es->(k<a.ends.length/\a.ends[k]?=some es)\/(∃fs,b.ends[k-a.ends.length]?=some fs/\es=fs.map (dQ a.ends.length)/\a.ends.length<=k):=fun k es h=>by
  unfold eF at h;rcases Nat.lt_or_ge k a.ends.length with hk | hk
  ·left;exact⟨hk,by simpa[List.getElem?_append_left hk]using h⟩
  ·right
   simp only[List.getElem?_append_right hk,List.getElem?_map]at h
   cases hf:b.ends[k-a.ends.length]? with
   | none=>rw[hf]at h;simp at h
   | some fs=>rw[hf]at h;simp at h;exact⟨fs,rfl,h.symm,hk⟩
 refine⟨by have:=ha.ends;have:=hb.ends;omega,fun k es h=>?_,by simp only[eF,List.length_append];have:=ha.ids;have:=hb.ids;omega,by rw[hl];simp only[eF,List.length_append];rw[ha.aaa,hb.aaa],fun k es h e he=>?_⟩
 ·rcases bT k es h with⟨-,h1⟩ | ⟨fs,h1,rfl,-⟩
  ·exact ha.row k es h1
  ·rw[List.length_map];exact hb.row _ fs h1
 ·rcases bT k es h with⟨-,h1⟩ | ⟨fs,h1,rfl,-⟩
  ·obtain⟨x,y,gs,q1,q2,q3⟩:=ha.wf k es h1 e he;refine⟨x,y,gs,q1,?_,q3⟩;unfold eF;simp only[];rw[List.getElem?_append_left (ai q2)];exact q2
  ·obtain⟨e0,h2,rfl⟩:=List.mem_map.1 he;obtain⟨x,y,gs,rfl,q2,q3⟩:=hb.wf _ fs h1 e0 h2
   refine⟨x+a.ends.length,y,gs.map (dQ a.ends.length),by simp[dQ],?_,by rw[List.length_map];exact q3⟩
   unfold eF;simp only[];rw[List.getElem?_append_right (by omega),Nat.add_sub_cancel,List.getElem?_map,q2];rfl
theorem fd {w:World} {ops:Array Oper} {rest:List Oper} {o:Oper} {a:Act} {Q:Exit->Act->World->Prop} (gA:o.guard=none) (s x:Operand)
  (ho:o.op=.call { callee:=.builtin .append,args:=#[s,x],argTypes:=#[25,25] }) {base:Nat} {v u:Value} {xs ys:List Int} (hs:a.eval s=v) (h:Own w base v xs) (hx:a.eval x=u) (hu:aG w u ys) (hl:xs.length+ys.length<=17592186044416) (gJ:base<=w.heap.size)
  (k:∀v' w' T,it w' base v' (xs++ys) T->aL v.ownBlock.toList w w'->(∀j∈T,j∈v.ownBlock.toList\/w.heap.size<=j)->wpList Tryz.prog ops Q rest (a.put o.dst v') w'):wpList Tryz.prog ops Q (o::rest) a w:=by
 obtain⟨A,c,rfl,er,hm,hA⟩:=hu;rcases Nat.eq_zero_or_pos ys.length with h0 | h0
 ·obtain rfl:ys=[]:=List.eq_nil_of_length_eq_zero h0
  refine kn gA s x ho hs h A c hx ?_;exact k v w _ ⟨by simpa using h,rfl⟩ (aL.refl _ _) (fun j hj=>.inl hj)
 ·obtain⟨y0,Fg⟩:=ax ys 0 h0;obtain⟨b,off,rfl,_⟩:=hA 0 y0 Fg
  refine sM gA s x ho hs h b off c ys hx (fun j y hj=>by
   obtain⟨b',ru,e,hc⟩:=hA j y hj;cases e
   exact hc) h0 hl gJ ?_
  intro g cap w' h1 h2 h3 h4;refine k _ w' [g] ⟨h1,by simp[Value.ownBlock]⟩ (aL.aaf h2) (fun j hj=>?_)
  simp at hj
  subst hj;rcases h3 with h3 | h3
  ·left;rw[h3];simp
  ·right;omega
theorem tU (ve vi vn ue ui un:Value) (a b:am) (w:World) (h:aI w ve vi vn a) (h':aI w ue ui un b) (ha:kY a) (hb:kY b) (LA:Dl b):
  Calls Tryz.prog 155 #[.agg #[ve,vi,vn],.agg #[ue,ui,un]] w (mm w (eF a b)):=by
 obtain⟨A1,c1,rfl,vu,tb,-⟩:=id h.1;obtain⟨AI,cI,rfl,-,-,-⟩:=id h.2.1;obtain⟨AN,cN,rfl,-,-,-⟩:=id h.2.2;obtain⟨B1,d1,rfl,qL,et,-⟩:=id h'.1;obtain⟨BI,dI,rfl,-,-,-⟩:=id h'.2.1;obtain⟨BN,dN,rfl,-,-,-⟩:=id h'.2.2;unfold maxLen at tb et;obtain⟨w0,au⟩:∃z,z=(w.alloc (.cells #[.slice A1 a.ends.length c1,.slice AI a.ids.length cI,.slice AN a.aaa.length cN] 27)).alloc (.cells #[.slice B1 b.ends.length d1,.slice BI b.ids.length dI,.slice BN b.aaa.length dN] 27):=⟨_,rfl⟩
 obtain⟨wa,f7⟩:∃z,z=w0.alloc (.cells #[.slice none 0 0,.slice none 0 0,.slice none 0 0] 27):=⟨_,rfl⟩
 have aX:aa w w0:=by rw[au];exact ae _ (ae _ (ab _))
 have gO:aa w0 wa:=by rw[f7];exact ae _ (ab _)
 have jB:w0.heap.size=w.heap.size+1+1:=by rw[au];simp
 have p0:∀W,aa w0 W->W.cell? ⟨w.heap.size,0,none⟩=some (.slice A1 a.ends.length c1):=ad (by rw[au];simp)
 have p1:∀W,aa w0 W->W.cell? ⟨w.heap.size,1,none⟩=some (.slice AI a.ids.length cI):=ad (by rw[au];simp)
 have p2:∀W,aa w0 W->W.cell? ⟨w.heap.size,2,none⟩=some (.slice AN a.aaa.length cN):=ad (by rw[au];simp)
 have q0:∀W,aa w0 W->W.cell? ⟨w.heap.size+1,0,none⟩=some (.slice B1 b.ends.length d1):=ad (by rw[au];simp)
 have q1:∀W,aa w0 W->W.cell? ⟨w.heap.size+1,1,none⟩=some (.slice BI b.ids.length dI):=ad (by rw[au];simp)
 have q2:∀W,aa w0 W->W.cell? ⟨w.heap.size+1,2,none⟩=some (.slice BN b.aaa.length dN):=ad (by rw[au];simp)
 have HA:=zh (show ∀X,aa w0 X->aI X (.slice A1 a.ends.length c1) (.slice AI a.ids.length cI) (.slice AN a.aaa.length cN) a from fun X hX=>h.aab (aX.after hX).below)
 have HB:=zh (show ∀X,aa w0 X->aI X (.slice B1 b.ends.length d1) (.slice BI b.ids.length dI) (.slice BN b.aaa.length dN) b from fun X hX=>h'.aab (aX.after hX).below)
 have uD:Hid (∀X,aa wa X->aT X (w.heap.size+1+1) (.slice none 0 0) (.slice none 0 0) (.slice none 0 0)):=fun X hX=>by
  refine aT.since (W:=wa) ?_ hX;rw[f7,<- jB];show(w0.heap.push _)[w0.heap.size]?=_
  rw[Array.getElem?_push_size]
 have yO:Hid (wa.heap.size=w.heap.size+1+1+1):=by show _=_;rw[f7,<- jB];simp
 have bM:=zh au;have tj:=zh f7;have mJ:=zh aX;have sj:=zh gO;have zu:=zh ha;have uA:=zh hb;have NQ:=zh LA;clear LA;clear au aX h h' f7 gO jB ha hb
 go_enter Tryz.func155,Tryz.ntmps155
 go_upto_region 1 with(fail);rw[<- bM.out,<- tj.out];have a0:=p0 wa sj.out;have a1:=p1 wa sj.out;have a2:=p2 wa sj.out;go_wp2_with fail;refine(gD _ _ _ a wa (HA.out wa sj.out) zu.out.ends zu.out.row zu.out.sz).mono ?_;rintro e w1 ⟨we,wi,wn,S,rfl,ho,aJ⟩;obtain⟨E1,e1,rfl,-,-,-⟩:=id ho.read.1;obtain⟨EI,eI,rfl,-,-,-⟩:=id ho.read.2.1;obtain⟨EN,eN,rfl,-,-,-⟩:=id ho.read.2.2;obtain⟨w2,eY⟩:∃z,z=w1.alloc (.cells #[.slice E1 a.ends.length e1,.slice EI a.ids.length eI,.slice EN a.aaa.length eN] 27):=⟨_,rfl⟩
 obtain⟨bo,nd⟩:∃z,z=w1.heap.size:=⟨_,rfl⟩
 have bu:aa wa w1:=aJ
 have iK:aa w1 w2:=by rw[eY];exact ae _ (ab _)
 have zF:aS w2 bo (.slice E1 a.ends.length e1) (.slice EI a.ids.length eI) (.slice EN a.aaa.length eN):=by rw[eY,nd];exact aS.new _ _ _ _ _
 have ta:bo∉S:=fun hj=>by have:=(ho.range _ hj).2;omega
 have tk:=zh eY;have zw:=zh nd;have sl:=zh (ho.aab iK.below);have nD:=zh zF;have sk:=zh ta;have g7:=zh (bu.after iK);have Ip:aa w0 w2:=sj.out.after g7.out;have b1:=q1 w2 Ip;have QU:=zh Ip
 have tE:Hid (wa.heap.size<=bo/\bo<w2.heap.size):=⟨by rw[nd];exact bu.below.size,by rw[eY,nd];simp⟩
 obtain⟨k0,k1,k2,f0,f1,f2⟩:=zF.cells;clear eY nd ho zF ta bu iK aJ a0 a1 a2 Ip;go_upto_region 2 with(fail);rw[<- tk.out,<- zw.out];obtain⟨S1,S2,S3,-,oy,-,vE,-⟩:=id sl.out;have QV:=zh oy;have NH:=zh vE;clear oy vE
 have FT:a.ids.length+b.ids.length<=17592186044416:=by have h1:=zu.out.sz;have h2:=uA.out.sz;unfold ij at h1 h2;omega
 have kD:a.aaa.length+b.aaa.length<=17592186044416:=by have h1:=zu.out.sz;have h2:=uA.out.sz;unfold ij at h1 h2;omega
 have Nw:=zh FT;have Ch:=zh kD;clear FT kD
 have QW:Hid (bo∉(Value.slice EI a.ids.length eI).ownBlock.toList):=fun hm=>sk.out (by rw[NH.out];rw[<- QV.out.2]at hm;exact List.mem_append_right _ (List.mem_append_left _ hm))
 go_upto_region 3 with(at_builtin;refine fd (base:=wa.heap.size) rfl _ _ rfl rfl QV.out.1 rfl (HB.out w2 QU.out).2.1 Nw.out g7.out.below.size ?_;intro v' w3 T fU vI KP;obtain⟨V,mV,cV,rfl⟩:=dF.one fU;have JD:aS w3 bo (.slice E1 a.ends.length e1) (.slice EI a.ids.length eI) (.slice EN a.aaa.length eN):=nD.out.blk (vI.block bo tE.out.2 QW.out);clear k0 k1 k2 f0 f1 f2;obtain⟨k0,k1,k2,f0,f1,f2⟩:=JD.cells)
 obtain⟨w4,lR⟩:∃z,z=w3.setCell ⟨bo,1,none⟩ (.slice V mV cV):=⟨_,rfl⟩
 rw[<- lR];obtain⟨S',Cu,th⟩:=sl.out.aar fU vI KP
 have QX:bo∉S':=fun hj=>by
  rcases th _ hj with h | h
  ·exact sk.out h
  ·have:=tE.out;omega
 have Kk:Hid (ao w4 wa.heap.size (.slice E1 a.ends.length e1) (.slice V mV cV) (.slice EN a.aaa.length eN) { a with ids:=a.ids++b.ids } S'):=by show ao _ _ _ _ _ _ _;rw[lR];exact Cu.aac (fun k hk=>Below.heap_setCell _ _ _ _ (fun e=>QX (by have e':k=bo:=e;exact e' ▸ hk)))
 have GH:Hid (aS w4 bo (.slice E1 a.ends.length e1) (.slice V mV cV) (.slice EN a.aaa.length eN)):=by show aS _ _ _ _ _;rw[lR];exact JD.aau
 have KK:=zh QX
 have vF:Hid (aa wa w4):=by
  show Below _ _ _
  rw[lR];refine Below.setCell (Below.trans g7.out (vI.below _ g7.out.below.size (fun j hj=>?_))) tE.out.1 _
  have uN:j∈S2:=by rw[QV.out.2];exact hj
  exact(sl.out.range j (by rw[NH.out];exact List.mem_append_right _ (List.mem_append_left _ uN))).1
 have LZ:bo<w4.heap.size:=GH.out.lt;obtain⟨IZ,S2',Yj,-,-,OO,L0,-⟩:=id Kk.out;have QY:=zh OO;have UR:=zh L0;have L3:=zh LZ;have L4:=zh (sj.out.after vF.out)
 have QZ:Hid (bo∉(Value.slice EN a.aaa.length eN).ownBlock.toList):=fun hm=>KK.out (by rw[UR.out];rw[<- QY.out.2]at hm;exact List.mem_append_right _ (List.mem_append_right _ hm))
 clear lR Cu th QX JD fU vI KP k0 k1 k2 f0 f1 f2 OO L0 LZ;have b2:=q2 w4 L4.out;obtain⟨k0,k1,k2,f0,f1,f2⟩:=GH.out.cells;clear b1
 go_upto_region 4 with(at_builtin;refine fd (base:=wa.heap.size) rfl _ _ rfl rfl QY.out.1 rfl (HB.out w4 L4.out).2.2 Ch.out vF.out.below.size ?_;intro v' w5 T5 Eo Ep US;obtain⟨V5,FU,FV,rfl⟩:=dF.one Eo;have Q1:aS w5 bo (.slice E1 a.ends.length e1) (.slice V mV cV) (.slice EN a.aaa.length eN):=GH.out.blk (Ep.block bo L3.out QZ.out);clear k0 k1 k2 f0 f1 f2;obtain⟨k0,k1,k2,f0,f1,f2⟩:=Q1.cells)
 obtain⟨w6,Er⟩:∃z,z=w5.setCell ⟨bo,2,none⟩ (.slice V5 FU FV):=⟨_,rfl⟩
 rw[<- Er];obtain⟨S6,Cu,th⟩:=Kk.out.aaE Eo Ep US
 have mz:bo∉S6:=fun hj=>by
  rcases th _ hj with h | h
  ·exact KK.out h
  ·have:=L3.out;omega
 have Yk:Hid (ao w6 wa.heap.size (.slice E1 a.ends.length e1) (.slice V mV cV) (.slice V5 FU FV) { a with ids:=a.ids++b.ids,aaa:=a.aaa++b.aaa } S6):=by show ao _ _ _ _ _ _ _;rw[Er];exact Cu.aac (fun k hk=>Below.heap_setCell _ _ _ _ (fun e=>mz (by have e':k=bo:=e;exact e' ▸ hk)))
 have Jh:Hid (aS w6 bo (.slice E1 a.ends.length e1) (.slice V mV cV) (.slice V5 FU FV)):=by show aS _ _ _ _ _;rw[Er];exact Q1.aav
 have Oa:=zh mz
 have FW:Hid (aa wa w6):=by
  show Below _ _ _
  rw[Er];refine Below.setCell (Below.trans vF.out (Ep.below _ vF.out.below.size (fun j hj=>?_))) tE.out.1 _
  have uN:j∈Yj:=by rw[QY.out.2];exact hj
  exact(Kk.out.range j (by rw[UR.out];exact List.mem_append_right _ (List.mem_append_right _ uN))).1
 have Q5:=zh (sj.out.after FW.out);clear Er Cu th mz Q1 Eo Ep US k0 k1 k2 f0 f1 f2 b2 p1 p2 q1 q2;have b0:=q0 w6 Q5.out;have rJ:=FW.out;go_wp2;clear b0;obtain⟨W6,rfl⟩:∃z,z=w6:=⟨_,rfl⟩
 go_loopw [28] (fun i wr=>∃(k:Nat) (v:Value) (S:List Nat),k<=b.ends.length/\i=.int .i64 k/\ao wr wa.heap.size v (.slice V mV cV) (.slice V5 FU FV) ⟨a.ends++(b.ends.take k).map (List.map (dQ a.ends.length)),a.ids++b.ids,a.aaa++b.aaa⟩ S/\bo∉S/\aS wr bo v (.slice V mV cV) (.slice V5 FU FV)/\aa wa wr) (fun i _=>b.ends.length-(intOf i).toNat)
 case atStart=>exact⟨0,_,S6,Nat.zero_le _,rfl,by have:=Yk.out;simpa using this,Oa.out,Jh.out,FW.out⟩
 case round=>
  obtain⟨k,v,S7,hk,rfl,eK,nV,dx,dz⟩:=hrel
  obtain⟨AV,L5,L6,rfl⟩:∃A m c,v=.slice A m c:=by obtain⟨A,c,hv,-⟩:=eK.read.1;exact⟨A,_,c,hv⟩
  have De:=zh eK;have GG:=zh nV;have Df:=zh dx;have fQ:=zh dz;have Iq:=sj.out.after dz;have L7:=zh Iq;clear eK nV dx dz rJ;obtain⟨wo,rfl⟩:∃z,z=wr:=⟨_,rfl⟩
  by_cases aH:k<b.ends.length
  ·obtain⟨es,ba⟩:=ax b.ends k aH;obtain⟨g0,o0,cr,ur,uV,-,bS,Yl⟩:=fo (HB.out w0 (ab _)).es ba;cases uV;obtain⟨A9,y9,rfl,cj,cX,LB⟩:=Yl;unfold maxLen at cX;have r1:=ad bS wo Iq;have Qs:=zh LB;have kB:=zh ba;have rF:es.length<=1000:=uA.out.row _ _ ba
   have m1:IntKind.i64.wrap ((k:Int)+1)=(k:Int)+1:=aR _ (by omega) (by have h1:=uA.out.ends;omega)
   clear LB bS ba Iq;go_upto_region 9 with(fail);clear r1
   go_loopw [8,34] (fun u i wr=>∃(j:Nat) (T:List Nat),j<=es.length/\i=.int .i64 j/\co wr wo.heap.size u ((es.take j).map (dQ a.ends.length)) T/\aa wo wr) (fun _ i _=>es.length-(intOf i).toNat)
   case atStart=>exact⟨0,[],Nat.zero_le _,rfl,oD _ _,ab _⟩
   case round=>
    obtain⟨j,T,hj,rfl,E7,tT⟩:=hrel;obtain⟨AU,mU,cU,rfl⟩:=fm.one E7;have Es:=zh E7;have Cs:=zh tT;clear E7
    by_cases vq:j<es.length
    ·obtain⟨e,he⟩:=ax es j vq;obtain⟨x,y,fs,rfl,zK,JA⟩:=NQ.out k es kB.out e (List.mem_of_getElem? he);obtain⟨g1,o1,rfl,t1,t2⟩:=Qs.out j _ he;have Et:=L7.out.after Cs.out;have Ee:=ad t1 wr Et;have Ef:=ad t2 wr Et;have BV:x<b.ends.length:=ai zK
     have m2:IntKind.i64.wrap ((x:Int)+(a.ends.length:Int))=(x:Int)+(a.ends.length:Int):=aR _ (by omega) (by have h1:=zu.out.ends;have h2:=uA.out.ends;omega)
     have m3:IntKind.i64.wrap ((j:Int)+1)=(j:Int)+1:=aR _ (by omega) (by omega);obtain⟨w8,mB⟩:∃z,z=wr.alloc (.cells #[.int .i64 (x:Int),.int .i64 (y:Int)] 36):=⟨_,rfl⟩
     obtain⟨eb,nX⟩:∃z,z=wr.heap.size:=⟨_,rfl⟩
     have h8:aa wr w8:=by rw[mB];exact ae _ (ab _)
     have v1:w8.cell? ⟨eb,0,none⟩=some (.int .i64 (x:Int)):=by rw[mB,nX];simp
     have v2:w8.cell? ⟨eb,1,none⟩=some (.int .i64 (y:Int)):=by rw[mB,nX];simp
     have v3:=p0 w8 (Et.after h8);have Jn:=zh mB;have H_:=zh nX;have iz:Hid (aa wo w8):=Cs.out.after h8;have pg:Hid (co w8 wo.heap.size (.slice AU mU cU) ((es.take j).map (dQ a.ends.length)) T):=fm.aab Es.out h8.below
     have Ym:Hid (((es.take j).map (dQ a.ends.length)).length+1<=1000000):=by show _<=_;rw[List.length_map,List.length_take];omega
     have Nk:Hid ((es.take (j+1)).map (dQ a.ends.length)=(es.take j).map (dQ a.ends.length)++[((x:Int)+(a.ends.length:Int),(y:Int))]):=by show _=_;rw[aK he,List.map_append];rfl
     clear mB nX h8 Et t1 t2 he zK tT;go_upto_region 11 with(fail);rw[<- Jn.out,<- H_.out];clear Ee Ef
     go_upto_region 12 with(at_builtin;refine gS (base:=wo.heap.size) (v:=.slice AU mU cU) (xs:=(es.take j).map (dQ a.ends.length)) (T:=T) rfl _ _ rfl rfl (fm.aab pg.out (aj _ _)) w8.heap.size ((x:Int)+(a.ends.length:Int),(y:Int)) rfl (by simp) (by simp) Ym.out (by have:=iz.out.below.size;simp;omega) ?_;intro g9 rf w9 fg mc qk)
     have Bi:=zh fg
     have zC:Hid (aa wo w9):=Below.grown (ae _ iz.out) mc (by have:=iz.out.below.size;simp;omega) (fun q hq=>(fm.range pg.out q (by rw[pg.out.2,hq];simp)).1)
     clear fg mc qk v1 v2 v3;go_wp2;go_roundw
     case rel=>exact⟨j+1,[g9],by omega,by first | rfl | go_num,by rw[Nk.out];have h9:=Bi.out;rw[show((es.take j).map (dQ a.ends.length)).length=j by rw[List.length_map,List.length_take];omega]at h9;simpa using h9,zC.out⟩
     case measure=>simp[intOf];omega
    ·obtain rfl:j=es.length:=by omega
     have zV:aS wr bo (.slice AV L5 L6) (.slice V mV cV) (.slice V5 FU FV):=Df.out.below Cs.out.below Df.out.lt
     have bT:Hid (co wr wo.heap.size (.slice AU mU cU) (es.map (dQ a.ends.length)) T):=by have h9:=Es.out;rw[List.take_length]at h9;exact h9
     have Jj:Hid (∀q,(Value.slice AV L5 L6).ownBlock=some q->wa.heap.size<=q):=fun q hq=>by
      obtain⟨S1,S2,S3,h1,-,-,h4,-⟩:=id De.out;obtain⟨vs,Ss,-,-,-,e4,-⟩:=id h1
      exact(De.out.range q (by rw[h4,e4,hq];simp)).1
     have Kd:Hid (∀j∈T,j∉S7):=fun j hj hS=>by have h1:=(fm.range Es.out j hj).1;have h2:=(De.out.range j hS).2;omega
     have zx:Hid ((a.ends++(b.ends.take k).map (List.map (dQ a.ends.length))).length+1<=1000000):=by show _<=_;rw[List.length_append,List.length_map,List.length_take];have h1:=zu.out.ends;have h2:=uA.out.ends;omega
     have Eu:Hid (wa.heap.size<=wo.heap.size):=fQ.out.below.size;have UT:Hid (aa wa wr):=fQ.out.after Cs.out;have E9:=zh zV;obtain⟨k0,k1,k2,f0,f1,f2⟩:=zV.cells;clear zV tT
     go_upto_region 14 with(at_builtin;refine oR (wT:=wa) (base:=wa.heap.size) (v:=.slice AV L5 L6) (u:=.slice AU mU cU) (T:=T) (es:=es.map (dQ a.ends.length)) rfl _ _ rfl rfl ((De.out.aab Cs.out.below).aab (aj _ _)) wr.heap.size rfl (by simp) (fm.mono (fm.aab bT.out (aj _ _)) Eu.out) Kd.out zx.out (ae _ UT.out) (by have:=UT.out.below.size;simp;omega) Jj.out ?_;intro v8 w8 S8 Q6 Ir L8 Cv la;obtain⟨A8,m8,c8,rfl⟩:∃A m c,v8=Value.slice A m c:=(by obtain⟨A,c,hv,-⟩:=Ir.read.1;exact⟨A,_,c,hv⟩);have y_:aS w8 bo (.slice AV L5 L6) (.slice V mV cV) (.slice V5 FU FV):=((E9.out.alloc _).blk (Cv.block bo (by have:=E9.out.lt;simp;omega) GG.out));clear k0 k1 k2 f0 f1 f2;obtain⟨k0,k1,k2,f0,f1,f2⟩:=y_.cells)
     have Is:bo∉S8:=fun hm=>by
      rcases L8 bo hm with h | h | h
      ·exact GG.out h
      ·have h1:=(fm.range Es.out bo h).1;have h2:=Df.out.lt;omega
      ·have h2:=E9.out.lt;simp at h;omega
     have FX:a.ends++(b.ends.take (k+1)).map (List.map (dQ a.ends.length))=(a.ends++(b.ends.take k).map (List.map (dQ a.ends.length)))++[es.map (dQ a.ends.length)]:=by
      rw[aK kB.out,List.map_append,List.append_assoc];rfl
     have KD:=zh FX
     have L9:=zh (Ir.aac (w':=w8.setCell ⟨bo,0,none⟩ (.slice A8 m8 c8)) (fun q hq=>Below.heap_setCell _ _ _ _ (fun e=>Is (by have e':q=bo:=e;exact e' ▸ hq))))
     have sq:=zh (y_.aat (u:=.slice A8 m8 c8));have zC:=zh (Below.setCell la (p:=⟨bo,0,none⟩) tE.out.1 (.slice A8 m8 c8));have Q9:=zh Is;clear Is FX Ir y_ la Cv L8 Q6 k0 k1 k2 f0 f1 f2;go_wp2;go_roundw
     case rel=>exact⟨k+1,_,S8,by omega,by first | rfl | go_num,by rw[KD.out];exact L9.out,Q9.out,sq.out,zC.out⟩
     case measure=>simp[intOf];omega
  ·obtain rfl:k=b.ends.length:=by omega
   have fH:=uD.out wo fQ.out;obtain⟨k0,k1,k2,-,-,-⟩:=Df.out.cells;obtain⟨e0,za,e2,f0,f1,f2⟩:=fH.box.cells;clear fH;go_wp2;refine bodyPost_ret (v:=.agg #[.slice AV L5 L6,.slice V mV cV,.slice V5 FU FV]) (by simp[results,Tryz.results155,go_sem, *]) rfl ?_;have NP:=yO.out;have h9:=De.out;rw[List.take_length]at h9;refine⟨_,_,_,S7,rfl,(h9.aac (fun j hj=>?_)).mono (by omega),?_⟩
   ·have rC:=(h9.range j hj).1;rw[Below.heap_setCell _ _ _ j (by simp;omega),Below.heap_setCell _ _ _ j (by simp;omega),Below.heap_setCell _ _ _ j (by simp;omega)]
   ·have hk:Below w.heap.size w wo:=Below.trans mJ.out.below (L7.out.below.mono mJ.out.below.size)
    exact((hk.setCell (by simp;omega) _).setCell (by simp;omega) _).setCell (by simp;omega) _
end Go.Proofs.YtgjggeapebbcbaaGreat
