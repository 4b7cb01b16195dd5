/- Parts of the proof: walks of functions and plain laws. -/
import Derived.Test.YtgmdpppljkmabaaGreatP0
import Derived.Test.YtgmdpppljkmabaaGreatP15
set_option maxRecDepth 100000
set_option maxHeartbeats 16000000
namespace Go.Proofs.YtgmdpppljkmabaaGreat
open Go Go.RowKit
theorem vg (cb:Nat) (A:Option Addr) (L c P aJ M:Nat) (w:World) (hc:cG w cb A L c P) (hP:P<=4400000000000000000) (zi:1<=aJ) (mm:aJ<=M) (hM:M<=40):
  Calls Tryz.prog 93 #[.pointer (some ⟨cb,0,none⟩),.int .i64 aJ] w (sR cb w.heap.size A L c (P+72057594037927936) w (TN 100 M)):=by
 have ig:=hc.lt;obtain⟨B,rS⟩:∃z,z=w.heap.size+1:=⟨_,rfl⟩
 obtain⟨w0,bQ⟩:∃z,z=w.alloc (.cells #[.slice none 0 0,.slice none 0 0,.slice none 0 0] 27):=⟨_,rfl⟩
 have aU:ab w w0:=by rw[bQ];exact ad _ (aa _)
 have gx:w0.heap.size=B:=by rw[bQ,rS];simp
 have iy:aS w0 w.heap.size (.slice none 0 0) (.slice none 0 0) (.slice none 0 0):=by
  rw[bQ];show(w.heap.push _)[w.heap.size]?=_
  rw[Array.getElem?_push_size]
 have iH:=zh iy;have jj:=zh aU;have bS:=zh bQ;have el:=zh rS;have mA:=zh gx;have Ez:=zh (hc.since aU);clear iy aU bQ hc rS gx
 go_enter Tryz.func93,Tryz.ntmps93
 go_upto_region 1 with(fail);rw[<- bS.out];go_wp2_with fail;refine(db cb A L c P aJ w0 Ez.out (by omega) (by omega)).mono ?_;rintro e w1 ⟨x,rfl,hx,lM,lL⟩;obtain⟨m,hm⟩:∃m:Nat,m=x+1:=⟨_,rfl⟩
 have m1:IntKind.i64.wrap (1+(x:Int))=(m:Int):=by rw[aH _ (by omega) (by omega)];omega
 have Pz:m<=M:=by omega
 have uf:0<m:=by omega
 have kB:=zh lM;have vV:=zh lL;clear lM lL hx;clear hm;go_wp2_with fail;refine(np m (by omega) w1).mono ?_;rintro e w2 ⟨VU,VV,VW,S0,rfl,ho,bx⟩;obtain⟨N0,zj⟩:∃z,z=dy m:=⟨_,rfl⟩
 rw[<- zj]at ho
 have ml:N0.ends.length=m:=by rw[zj];simp[dy]
 have EA:wX M 1 N0:=by rw[zj];exact wX.empty Pz
 obtain⟨A1,c1,rfl,-,ru,-⟩:=id ho.read.1;obtain⟨AI,cI,rfl,-,-,-⟩:=id ho.read.2.1;obtain⟨AN,cN,rfl,-,-,-⟩:=id ho.read.2.2;obtain⟨w3,i8⟩:∃z,z=w2.alloc (.cells #[.slice A1 N0.ends.length c1,.slice AI N0.ids.length cI,.slice AN N0.acn.length cN] 27):=⟨_,rfl⟩
 obtain⟨pb,fb⟩:∃z,z=w2.heap.size:=⟨_,rfl⟩
 have mq:ab w2 w3:=by rw[i8];exact ad _ (aa _)
 have ia:B<=w1.heap.size:=by rw[<- mA.out];exact vV.out.size
 have su:Mb cb B pb A L c (P+2) w0 w3 (.slice A1 N0.ends.length c1) (.slice AI N0.ids.length cI) (.slice AN N0.acn.length cN) N0 S0:=
  ⟨(ho.keep mq.below).mono ia,by rw[i8,fb];exact aY.new _ _ _ _ _,fun hj=>by have:=(ho.range _ hj).2;omega,(kB.out.since bx).since mq,(vV.out.mono (by have:=mA.out;omega)).trans ((CB.of (Below.trans bx (mq.below.mono bx.size))).mono ia)⟩
 have qW:=zh su
 have eO:Hid (B<=pb/\pb<w3.heap.size):=⟨by rw[fb];exact Nat.le_trans ia bx.size,by rw[i8,fb];simp⟩
 have AC:=zh i8;have qY:=zh fb;have Eh:=zh EA;have gQ:=zh ml;have dT:=su.box.cells.1
 have jR:cb<B:=by have:=el.out;omega
 clear su i8 fb EA ml ho bx mq zj ia;go_upto_region 3 with(fail);rw[<- AC.out,<- qY.out];clear dT
 go_loopw [6] (fun i wr=>∃(v:Nat) (ve vi vn:Value) (N:aj) (S:List Nat),1<=v/\v<=m/\i=.int .i64 v/\Mb cb B pb A L c (P+2+v*1125899906842624) w0 wr ve vi vn N S/\wX M v N/\N.ends.length=m/\B<=wr.heap.size) (fun i _=>m-(intOf i).toNat)
 case atStart=>exact⟨1,_,_,_,N0,S0,Nat.le_refl _,uf,rfl,⟨qW.out.own,qW.out.box,qW.out.nb,qW.out.cur.mono (by omega),qW.out.far⟩,Eh.out,gQ.out,by have:=eO.out;omega⟩
 case round=>
  obtain⟨v,ve,vi,vn,N,S2,Sp,hk,rfl,hm,iG,ml,fO⟩:=hrel;obtain⟨Jf,jO,rfl,-,ww,-⟩:=id hm.own.read.1;obtain⟨pV,pW,rfl,-,-,-⟩:=id hm.own.read.2.1;obtain⟨xZ,ts,rfl,-,-,-⟩:=id hm.own.read.2.2;obtain⟨g,rfl,-⟩:=hm.own.head (by omega);have Hm:=zh hm;have iR:=zh iG;have gQ:=zh ml;have lm:=zh fO
  have gX:pb≠cb:=by have:=eO.out;omega
  have lp:wr.cell? ⟨pb,0,none⟩=some (.slice (some ⟨g,0,none⟩) m jO):=by have:=Hm.out.box.cells.1;rwa [gQ.out]at this
  clear hm iG ml fO;obtain⟨wo,rfl⟩:∃z,z=wr:=⟨_,rfl⟩
  by_cases az:v<m
  ·have m4:IntKind.i64.wrap ((v:Int)+1)=(v:Int)+1:=aH _ (by omega) (by omega);obtain⟨t0,ht0,htr⟩:=iR.out.low Sp;have Htr:=zh htr;clear htr;obtain⟨Q,hQ⟩:∃z,z=P+2+v*1125899906842624:=⟨_,rfl⟩
   have HQ:Hid (Q=P+2+v*1125899906842624):=hQ
   have YG:Hid (Q<=4500000000000000000):=by show _<=_;omega
   rw[<- hQ]at Hm;clear hQ;obtain⟨p0,s0,IK,YA⟩:=Hm.out.cur;have Yw:=zh IK;have Hp0:=zh YA;have hLs:=IK.len;clear IK YA;go_wp2_with fail
   refine(uU cb A L c p0 s0 v wo Yw.out (by have:=YG.out;have:=Hp0.out;omega) (by omega)).mono ?_
   rintro e w5 ⟨u0,p1,s1,rfl,KM,YB,Tx,eD,-,lL⟩;have pN:=au lp gX w5 lL
   have jS:=zh (Hm.out.seen (P':=Q+2) lL ⟨p1,s1,eD,by have:=Hp0.out;omega⟩ jR eO.out.1 lm.out)
   have wY:Hid (B<=w5.heap.size):=Nat.le_trans lm.out lL.size;have Pn:=zh eD
   have Hp1:Hid (p1<=Q+2):=by show _<=_;have:=Hp0.out;omega
   clear lL eD lp YB Tx;go_upto_region 6 with(fail);clear pN
   go_loopw [7] (fun x wr=>∃(u p s:Nat),x=.int .i64 u/\u<v/\zL wr cb A L c p s/\p<=Q+281474977759236/\(u≠t0->p+sw L v t0 p s<=Q+281474977759235)/\Mb cb B pb A L c (Q+281474977759236) w0 wr (.slice (some ⟨g,0,none⟩) N.ends.length jO) (.slice pV N.ids.length pW) (.slice xZ N.acn.length ts) N S2/\B<=wr.heap.size) (fun x wr=>K9 L v t0 cb x wr)
   case atStart=>
    refine⟨u0,p1,s1,rfl,by omega,Pn.out,by have:=Hp1.out;omega,fun _=>?_,⟨jS.out.own,jS.out.box,jS.out.nb,jS.out.cur.mono (by omega),jS.out.far⟩,wY.out⟩
    have h1:=NP (L:=L) (v:=v) (t0:=t0) p1 s1 hLs (by omega) ht0;have h2:=Hp1.out;omega
   case round=>
    obtain⟨u,p,s,rfl,huv,hcq,hpq,hfu,YI,nk⟩:=hrel;have Hpq:=zh hpq;clear hpq;have Hcq:=zh hcq;have Hfu:=zh hfu;have PC:=zh YI;have i_:=zh nk;clear hcq hfu nk;obtain⟨xu,pE⟩:∃z,z=cH N u:=⟨_,rfl⟩
    have H7:=cD (n:=N) (v:=u) (by have:=gQ.out;omega)
    rw[<- pE]at H7;obtain⟨uu,T,eQ,-,hR,-,-,Dh⟩:=YI.own.acs H7;obtain⟨AU,cU,rfl,-,-,-⟩:=id hR.read
    have pN:wr.cell? ⟨pb,0,none⟩=some (.slice (some ⟨g,0,none⟩) m jO):=by have:=YI.box.cells.1;rwa [gQ.out]at this
    have H6:=zh pE;have hum:u<m:=by omega
    clear YI hR pE H7 Dh
    by_cases h4:4<=xu.length
    ·have hut:u≠t0:=fun e=>by have h5:=Htr.out;rw[<- e,<- H6.out]at h5;omega
     have Vs:2<=v:=by omega
     have e4:((4:Int)<=(xu.length:Int))=True:=by simp;omega
     go_wp2_with fail
     refine(uU cb A L c p s v wr Hcq.out (by have:=YG.out;have:=Hpq.out;omega) (by omega)).mono ?_
     rintro e w6 ⟨x,p',s',rfl,hx,ab4,ab5,OP,hl6,ic⟩;obtain⟨rfl,hl7⟩:=hl6 Vs (by omega);have Hl7:=zh hl7;have Q8:=zh OP;have S_:=zh ic;clear hl6 hl7 OP ic pN eQ;go_wp2;go_roundw
     case rel=>
      have h3:=Hfu.out hut;have h4:p+1<=Q+281474977759236:=by omega
      refine⟨x,p+1,s',rfl,by omega,Q8.out,h4,fun hxt=>?_,PC.out.seen S_.out ⟨p+1,s',Q8.out,h4⟩ jR eO.out.1 i_.out,Nat.le_trans i_.out S_.out.size⟩
      have h2:=x6 (L:=L) (v:=v) (t0:=t0) (p:=p) (s:=s) (s':=s') (x:=x) hLs (by omega) ht0 hxt Hl7.out;omega
     case measure=>
      obtain⟨q1,q2⟩:=Hcq.out.pOf;obtain⟨q3,q4⟩:=Q8.out.pOf;rw[B8 (x:=.int .i64 (u:Int)) (show ¬((u:Int)=(t0:Int))by omega),q1,q2]
      by_cases hxt:x=t0
      ·rw[K_ (x:=.int .i64 (x:Int)) (show(x:Int)=(t0:Int)by omega)];omega
      ·rw[B8 (x:=.int .i64 (x:Int)) (show ¬((x:Int)=(t0:Int))by omega),q3,q4]
       have h2:=x6 (L:=L) (v:=v) (t0:=t0) (p:=p) (s:=s) (s':=s') (x:=x) hLs (by omega) ht0 hxt Hl7.out;omega
    ·have e4:((4:Int)<=(xu.length:Int))=False:=by simp;omega
     have aaC:Hid ((cH N u).length<4):=by show _<_;rw[<- H6.out];omega
     go_upto_region 8 with(fail);clear pN eQ;obtain⟨k0,k1,k2,f0,f1,f2⟩:=PC.out.box.cells;obtain⟨wq,rfl⟩:∃z,z=wr:=⟨_,rfl⟩
     clear f0 f1 f2;go_wp2_with fail
     refine(mj _ _ _ N u v wq PC.out.own.read (by rw[gQ.out];exact hum) (by rw[gQ.out];exact az) ((iR.out.gd.mono (R':=80) (M':=40) (by omega) hM).small (by omega) (by omega))).mono ?_
     rintro e w8 ⟨VL,VM,VN,S3,rfl,cZ,bx⟩;have kH:ab wq w8:=bx;obtain⟨D0,d0,rfl,-,-,-⟩:=id cZ.read.1;obtain⟨D1,d1,rfl,-,-,-⟩:=id cZ.read.2.1;obtain⟨D2,d2,rfl,-,-,-⟩:=id cZ.read.2.2;have BZ:=PC.out.assign (CB.of kH) (PC.out.cur.since kH) cZ PC.out.box.lt jR eO.out.1 i_.out;obtain⟨k0,k1,k2,f0,f1,f2⟩:=(PC.out.box.below kH PC.out.box.lt).cells;have pH:=zh BZ
     have nw:B<=(acr w8 pb (.slice D0 (dg N u v).ends.length d0) (.slice D1 (dg N u v).ids.length d1) (.slice D2 (dg N u v).acn.length d2)).heap.size:=by rw[fX];exact Nat.le_trans i_.out kH.below.size
     have vd:=zh nw
     have yv:=zh (iR.out.step huv (by rw[gQ.out];exact az) aaC.out)
     have wQ:=zh ((dZ N u v).trans gQ.out);clear BZ cZ bx kH nw;go_wp2;go_roundw
     case rel=>exact⟨v+1,_,_,_,dg N u v,S3,by omega,by omega,by first | rfl | go_num,⟨pH.out.own,pH.out.box,pH.out.nb,pH.out.cur.mono (by have:=HQ.out;omega),pH.out.far⟩,yv.out,wQ.out,vd.out⟩
     case measure=>simp[intOf];omega
  ·obtain rfl:v=m:=by omega
   clear lp;obtain⟨k0,k1,k2,-,-,-⟩:=Hm.out.box.cells;have hNN:(N.ends.length:Int)=(v:Int):=by rw[gQ.out]
   have Ib:Hid (Gd 80 M N):=iR.out.gd.mono (by omega) (Nat.le_refl _);have kz:=Hm;have pl:=lm;obtain⟨w5,rfl⟩:∃z,z=wo:=⟨_,rfl⟩
   go_upto_region 9 with(fail);clear hNN;go_wp2_with fail
   refine(tr cb A L c _ B 80 M _ _ _ N S2 w5 kz.out.cur (by omega) kz.out.own jR pl.out Ib.out (by omega) (by omega) (by have:=gQ.out;omega)).mono ?_
   rintro e w6 ⟨CV,CW,CX,N6,S6,rfl,dB,⟨vf,lv⟩,dq,ic⟩;obtain⟨D0,d0,rfl,-,-,-⟩:=id dB.read.1;obtain⟨D1,d1,rfl,-,-,-⟩:=id dB.read.2.1;obtain⟨D2,d2,rfl,-,-,-⟩:=id dB.read.2.2;have aD:=(kz.out.far.mono (Nat.le_refl B)).trans ic
   have dJ:=aD.acv iH.out (by have:=el.out;omega) (by omega)
   obtain⟨e0,e1,e2,f0,f1,f2⟩:=dJ.box.cells;have aI:=dB;rw[el.out]at aI aD;have bZ:=zh (cO jj.out aI dq aD ig);have EB:=zh vf;have zP:=zh lv;clear aD dJ aI vf lv dq ic dB k0 k1 k2;go_wp2;refine bodyPost_ret (v:=.agg #[.slice D0 N6.ends.length d0,.slice D1 N6.ids.length d1,.slice D2 N6.acn.length d2]) (by simp[results,Tryz.results93,go_sem, *]) rfl ?_;obtain⟨r1,r2,r3⟩:=bZ.out
   exact⟨_,_,_,N6,S6,rfl,r1,⟨zP.out.mono (by omega) (Nat.le_refl _),by have:=gQ.out;have:=EB.out.len;omega⟩,r2.mono (by omega),r3⟩
theorem Gd.acW {R M:Nat} {n:aj} {v u:Nat} (h:Gd R M n) (hv:v<n.ends.length) (hu:u<n.ends.length) (Vz:v≠u) (h1:(cH n v).length<5) (h2:(cH n u).length<5) (hR:5<=R):Gd R M (dg n v u):=by
 refine⟨by rw[dZ];exact h.ends,fun k es hk=>?_,h.ids,by rw[dZ];exact h.acn,tt h.wf hv hu⟩
 have h3:=ny hk
 have pQ:k<n.ends.length:=by have:=al hk;rwa [dZ]at this
 rw[<- h3,kA hv hu];have h4:=h.row k _ (cD pQ)
 by_cases a:k=u
 ·subst a
  rw[if_pos rfl,if_neg (Ne.symm Vz)];omega
 ·rw[if_neg a]
  by_cases b:k=v
  ·subst b;rw[if_pos rfl];omega
  ·rw[if_neg b];omega
theorem nz (cb:Nat) (A:Option Addr) (L c P aJ M:Nat) (w:World) (hc:cG w cb A L c P) (hP:P<=4300000000000000000) (zi:1<=aJ) (mm:aJ<=M) (hM:M<=40):
  Calls Tryz.prog 191 #[.pointer (some ⟨cb,0,none⟩),.int .i64 aJ] w (sR cb w.heap.size A L c (P+80000000000000000) w (TN 100 M)):=by
 have ig:=hc.lt;obtain⟨B,rS⟩:∃z,z=w.heap.size+1:=⟨_,rfl⟩
 obtain⟨w0,bQ⟩:∃z,z=w.alloc (.cells #[.slice none 0 0,.slice none 0 0,.slice none 0 0] 27):=⟨_,rfl⟩
 have aU:ab w w0:=by rw[bQ];exact ad _ (aa _)
 have gx:w0.heap.size=B:=by rw[bQ,rS];simp
 have iy:aS w0 w.heap.size (.slice none 0 0) (.slice none 0 0) (.slice none 0 0):=by
  rw[bQ];show(w.heap.push _)[w.heap.size]?=_
  rw[Array.getElem?_push_size]
 have iH:=zh iy;have jj:=zh aU;have bS:=zh bQ;have el:=zh rS;have mA:=zh gx;have Ez:=zh (hc.since aU);clear iy aU bQ hc rS gx
 go_enter Tryz.func191,Tryz.ntmps191
 go_upto_region 1 with(fail);rw[<- bS.out];go_wp2_with fail;refine(vg cb A L c P aJ M w0 Ez.out (by omega) zi mm hM).mono ?_;rintro e w1 ⟨VU,VV,VW,N0,S0,rfl,ho,⟨EA,zj⟩,lM,lL⟩;rw[mA.out]at ho lL;obtain⟨m,ml⟩:∃m,N0.ends.length=m:=⟨_,rfl⟩
 have Pz:m<=M:=by rw[<- ml];exact EA.ends
 have uf:0<m:=by omega
 obtain⟨A1,c1,rfl,-,ru,-⟩:=id ho.read.1;obtain⟨AI,cI,rfl,-,-,-⟩:=id ho.read.2.1;obtain⟨AN,cN,rfl,-,-,-⟩:=id ho.read.2.2;obtain⟨w3,i8⟩:∃z,z=w1.alloc (.cells #[.slice A1 N0.ends.length c1,.slice AI N0.ids.length cI,.slice AN N0.acn.length cN] 27):=⟨_,rfl⟩
 obtain⟨pb,fb⟩:∃z,z=w1.heap.size:=⟨_,rfl⟩
 have mq:ab w1 w3:=by rw[i8];exact ad _ (aa _)
 have ia:B<=w1.heap.size:=by rw[<- mA.out];exact lL.size
 have su:Mb cb B pb A L c (P+72057594037927936) w0 w3 (.slice A1 N0.ends.length c1) (.slice AI N0.ids.length cI) (.slice AN N0.acn.length cN) N0 S0:=
  ⟨ho.keep mq.below,by rw[i8,fb];exact aY.new _ _ _ _ _,fun hj=>by have:=(ho.range _ hj).2;omega,lM.since mq,lL.trans ((CB.of mq).mono ia)⟩
 have qW:=zh su
 have eO:Hid (B<=pb/\pb<w3.heap.size):=⟨by rw[fb];exact ia,by rw[i8,fb];simp⟩
 have AC:=zh i8;have qY:=zh fb;have Eh:=zh EA;have Ro:=zh ml;have dT:=su.box.cells.1
 have jR:cb<B:=by have:=el.out;omega
 have gX:pb≠cb:=by have:=eO.out;omega
 rw[ml]at dT;have m0:IntKind.i64.wrap (1+(m:Int))=1+(m:Int):=aH _ (by omega) (by omega);clear su i8 fb EA ml ho mq zj ia lM lL;go_upto_region 2 with(fail);rw[<- AC.out,<- qY.out];go_wp2_with fail;refine(db cb A L c _ (1+(m:Int)) w3 qW.out.cur (by omega) (by omega)).mono ?_;rintro e w4 ⟨x4,rfl,hx4,nA,nU⟩;have hx5:x4<=m:=by omega
 have sy:=zh (qW.out.seen nU nA jR eO.out.1 (by have:=eO.out;omega))
 have YJ:Hid (B<=w4.heap.size):=by show _<=_;have:=eO.out;have:=nU.size;omega
 clear nA nU dT hx4;go_upto_region 3 with(fail);obtain⟨Q,hQ⟩:∃z,z=P+72057594037927936+2:=⟨_,rfl⟩
 have HQ:Hid (Q=P+72057594037927936+2):=hQ;rw[<- hQ]at sy;clear hQ
 go_loopw [6] (fun i wr=>∃(k:Nat) (ve vi vn:Value) (N:aj) (S:List Nat),k<=m/\i=.int .i64 k/\Mb cb B pb A L c (Q+4*(m-k)) w0 wr ve vi vn N S/\Gd 100 M N/\N.ends.length=m/\B<=wr.heap.size) (fun i _=>(intOf i).toNat)
 case atStart=>exact⟨x4,_,_,_,N0,S0,hx5,rfl,⟨sy.out.own,sy.out.box,sy.out.nb,sy.out.cur.mono (by omega),sy.out.far⟩,Eh.out,Ro.out,YJ.out⟩
 case round=>
  obtain⟨k,ve,vi,vn,N,S2,hk,rfl,hm,iG,ml,fO⟩:=hrel;obtain⟨Jf,jO,rfl,-,ww,-⟩:=id hm.own.read.1;obtain⟨pV,pW,rfl,-,-,-⟩:=id hm.own.read.2.1;obtain⟨xZ,ts,rfl,-,-,-⟩:=id hm.own.read.2.2;obtain⟨g,rfl,-⟩:=hm.own.head (by omega);have Hm:=zh hm;have iR:=zh iG;have gQ:=zh ml;have lm:=zh fO;clear hm iG ml fO
  by_cases az:0<k
  ·have e0:((0:Int)<(k:Int))=True:=by simp;omega
   have m4:IntKind.i64.wrap ((k:Int)-1)=(k:Int)-1:=aH _ (by omega) (by omega)
   have oy:=zh (show wr.cell? ⟨pb,0,none⟩=some (.slice (some ⟨g,0,none⟩) m jO)from by obtain⟨a,-⟩:=Hm.out.box.cells;rw[gQ.out]at a;exact a)
   obtain⟨wo,rfl⟩:∃z,z=wr:=⟨_,rfl⟩
   go_upto_region 5 with(fail);refine ax (fun W=>W.cell? ⟨pb,0,none⟩=some (.slice (some ⟨g,0,none⟩) m jO)) 10 [false,false,false,false,true,false,false,false,false,true] (by kernel_rfl) (by kernel_rfl) (show(World.drew wo).cell? ⟨pb,0,none⟩=some (.slice (some ⟨g,0,none⟩) m jO)from oy.out) ?_
   simp only[er,dS,zT]
   iterate 8 (apply bs rfl;(intro W hW;(have k0:=hW);go_simp;with_reducible rfl);simp only[zA])
   obtain⟨W,cS⟩:∃W,W=World.drew wo:=⟨_,rfl⟩
   rw[<- cS];have hW:=(show(World.drew wo).cell? ⟨pb,0,none⟩=some (.slice (some ⟨g,0,none⟩) m jO)from oy.out);rw[<- cS]at hW;have eY:=zh cS;clear cS;refine Or.inl ⟨rfl,?_⟩
   go_simp
   (with_reducible refine(db cb A L c (Q+4*(m-k)) (m:Int) W (by rw[eY.out];exact Hm.out.cur.since (ah (aa _))) (by have:=HQ.out;omega) (by omega)).mono ?_)
   rintro e W' ⟨a,rfl,ha,eQ,hC⟩;refine⟨_,rfl,au hW gX _ hC,?_⟩
   replace hW:=au hW gX _ hC
   have ox:ab wo W:=(by rw[eY.out];exact ah (aa _))
   have uT:=zh (((dK.refl cb wo).after ox).trans hC);have Ex:=zh eQ;have Ha:=zh ha;clear hC eQ ox ha;obtain⟨wp,rfl⟩:∃z,z=W':=⟨_,rfl⟩
   (try simp only[zA])
   refine Or.inl ⟨rfl,?_⟩
   go_simp
   (with_reducible refine(db cb A L c (Q+4*(m-k)+2) (m:Int) _ Ex.out (by have:=HQ.out;omega) (by omega)).mono ?_)
   rintro e W' ⟨b,rfl,hb,eQ,hC⟩;refine⟨_,rfl,au hW gX _ hC,?_⟩
   replace hW:=au hW gX _ hC
   have jS:=zh (Hm.out.seen (uT.out.trans hC) eQ jR eO.out.1 lm.out);have wY:Hid (B<=W'.heap.size):=Nat.le_trans lm.out (uT.out.trans hC).size;clear hC eQ
   (try simp only[zA])
   simp only[bh]
   have NQ:a<m:=by have:=Ha.out;omega
   have VX:b<m:=by omega
   clear hb;obtain⟨w5,rfl⟩:∃z,z=W':=⟨_,rfl⟩
   have Rp:=zh hW;clear hW;obtain⟨xa,ED⟩:∃z,z=cH N a:=⟨_,rfl⟩
   obtain⟨xb,EE⟩:∃z,z=cH N b:=⟨_,rfl⟩
   have Mp:=cD (n:=N) (v:=a) (by have:=gQ.out;omega)
   have IS:=cD (n:=N) (v:=b) (by have:=gQ.out;omega)
   rw[<- ED]at Mp;rw[<- EE]at IS;have Fp:xa.length<=100:=iR.out.row _ _ Mp;have qw:xb.length<=100:=iR.out.row _ _ IS;obtain⟨ua,Ta,Pb,-,VY,-,-,-⟩:=jS.out.own.acs Mp;obtain⟨AUa,cUa,rfl,-,-,-⟩:=id VY.read;obtain⟨ub,Tb,La,-,VZ,-,-,-⟩:=jS.out.own.acs IS;obtain⟨AUb,cUb,rfl,-,-,-⟩:=id VZ.read;have NR:=zh ED;have Rq:=zh EE;have Hxa:=zh Mp;have pa:=ae Pb;have pq:=ae La;have p0:=ae Rp.out;have p1:=ae jS.out.box.cells.2.1;have p2:=ae jS.out.box.cells.2.2.1
   have Bz:Hid (aC w5 (.slice (some ⟨g,0,none⟩) m jO) (.slice pV N.ids.length pW) (.slice xZ N.acn.length ts) N):=by show aC _ _ _ _ _;have h9:=jS.out.own.read;rw[gQ.out]at h9;exact h9
   clear ED EE Mp IS VY VZ Pb La
   by_cases yk:a=b
   ·have e1:((a:Int)=(b:Int))=True:=by simp;omega
    have q0:=p0 w5 (aa _);clear p0 p1 p2 pa pq;go_wp2;go_roundw
    case rel=>exact⟨k-1,_,_,_,N,S2,by omega,by rw[show((k-1:Nat):Int)=(k:Int)-1 by omega],(⟨jS.out.own,jS.out.box,jS.out.nb,jS.out.cur.mono (by omega),jS.out.far⟩),iR.out,gQ.out,wY.out⟩
    case measure=>simp[intOf];omega
   ·have e1:((a:Int)=(b:Int))=False:=by simp;omega
    have q0:=p0 w5 (aa _);have q1:=p1 w5 (aa _);have q2:=p2 w5 (aa _);go_wp2_with fail;refine(iu _ _ _ N a xa w5 Bz.out Hxa.out (by omega)).mono ?_;rintro e w6 ⟨u6,rfl,dB,EF⟩;have yx:ab w5 w6:=EF;have mn:=zh (jS.out.since yx jR eO.out.1 wY.out);have wZ:Hid (B<=w6.heap.size):=Nat.le_trans wY.out yx.below.size;obtain⟨A6,c6,rfl,-,-,-⟩:=id dB.ints;have Ho6:=zh dB;clear dB q0 q1 q2;go_wp2_with fail
    refine(nK _ (xa.map (·.1)) (b:Int) w6 (by have h9:=Ho6.out.ints;rw[List.length_map]at h9;exact h9)).mono ?_
    rintro e w7 ⟨rfl,pI⟩;subst pI;have q0:=p0 w6 yx;have q1:=p1 w6 yx;have q2:=p2 w6 yx;have qa:=pa w6 yx;have qb:=pq w6 yx;clear p0 p1 p2 pa pq yx EF;cases hh:jx (xa.map (·.1)) (b:Int)
    ·by_cases h5:xa.length<5
     ·have e5:((xa.length:Int)<5)=True:=by simp;omega
      by_cases h6:xb.length<5
      ·have e6:((xb.length:Int)<5)=True:=by simp;omega
       go_wp2_with fail
       refine(mj _ _ _ N a b w6 (by have h9:=mn.out.own.read;rw[gQ.out]at h9;exact h9) (by rw[gQ.out];exact NQ) (by rw[gQ.out];exact VX) ((iR.out.mono (R':=100) (M':=40) (by omega) hM).small (by omega) (by omega))).mono ?_
       rintro e w8 ⟨VL,VM,VN,S3,rfl,cZ,bx⟩;have kH:ab w6 w8:=bx;obtain⟨D0,d0,rfl,-,-,-⟩:=id cZ.read.1;obtain⟨D1,d1,rfl,-,-,-⟩:=id cZ.read.2.1;obtain⟨D2,d2,rfl,-,-,-⟩:=id cZ.read.2.2;have BZ:=mn.out.assign (CB.of kH) (mn.out.cur.since kH) cZ mn.out.box.lt jR eO.out.1 wZ.out;clear q0 q1 q2 qa qb;obtain⟨k0,k1,k2,f0,f1,f2⟩:=(mn.out.box.below kH mn.out.box.lt).cells;have pH:=zh BZ
       have nw:B<=(acr w8 pb (.slice D0 (dg N a b).ends.length d0) (.slice D1 (dg N a b).ids.length d1) (.slice D2 (dg N a b).acn.length d2)).heap.size:=by rw[fX];exact Nat.le_trans wZ.out kH.below.size
       have vd:=zh nw
       have yv:=zh (iR.out.acW (v:=a) (u:=b) (by rw[gQ.out];exact NQ) (by rw[gQ.out];exact VX) yk (by rw[<- NR.out];omega) (by rw[<- Rq.out];omega) (by omega))
       have wQ:=zh ((dZ N a b).trans gQ.out);clear BZ cZ bx kH nw;go_wp2;go_roundw
       case rel=>exact⟨k-1,_,_,_,dg N a b,S3,by omega,by rw[show((k-1:Nat):Int)=(k:Int)-1 by omega],⟨pH.out.own,pH.out.box,pH.out.nb,pH.out.cur.mono (by omega),pH.out.far⟩,yv.out,wQ.out,vd.out⟩
       case measure=>simp[intOf];omega
      ·have e6:((xb.length:Int)<5)=False:=by simp;omega
       go_wp2;go_roundw
       case rel=>exact⟨k-1,_,_,_,N,S2,by omega,by rw[show((k-1:Nat):Int)=(k:Int)-1 by omega],(⟨mn.out.own,mn.out.box,mn.out.nb,mn.out.cur.mono (by omega),mn.out.far⟩),iR.out,gQ.out,wZ.out⟩
       case measure=>simp[intOf];omega
     ·have e5:((xa.length:Int)<5)=False:=by simp;omega
      go_wp2;go_roundw
      case rel=>exact⟨k-1,_,_,_,N,S2,by omega,by rw[show((k-1:Nat):Int)=(k:Int)-1 by omega],(⟨mn.out.own,mn.out.box,mn.out.nb,mn.out.cur.mono (by omega),mn.out.far⟩),iR.out,gQ.out,wZ.out⟩
      case measure=>simp[intOf];omega
    ·go_wp2;go_roundw
     case rel=>exact⟨k-1,_,_,_,N,S2,by omega,by rw[show((k-1:Nat):Int)=(k:Int)-1 by omega],(⟨mn.out.own,mn.out.box,mn.out.nb,mn.out.cur.mono (by omega),mn.out.far⟩),iR.out,gQ.out,wZ.out⟩
     case measure=>simp[intOf];omega
  ·obtain rfl:k=0:=by omega
   obtain⟨k0,k1,k2,-,-,-⟩:=Hm.out.box.cells;have Ib:=iR;have kz:=Hm;have pl:=lm;obtain⟨w5,rfl⟩:∃z,z=wr:=⟨_,rfl⟩
   go_upto_region 8 with(fail);go_wp2_with fail
   refine(tr cb A L c _ B 100 M _ _ _ N S2 w5 kz.out.cur (by have:=HQ.out;omega) kz.out.own jR pl.out Ib.out (by omega) (by omega) (by have:=gQ.out;omega)).mono ?_
   rintro e w6 ⟨CV,CW,CX,N6,S6,rfl,dB,⟨vf,lv⟩,dq,ic⟩;obtain⟨D0,d0,rfl,-,-,-⟩:=id dB.read.1;obtain⟨D1,d1,rfl,-,-,-⟩:=id dB.read.2.1;obtain⟨D2,d2,rfl,-,-,-⟩:=id dB.read.2.2;have aD:=(kz.out.far.mono (Nat.le_refl B)).trans ic
   have dJ:=aD.acv iH.out (by have:=el.out;omega) (by omega)
   obtain⟨e0,e1,e2,f0,f1,f2⟩:=dJ.box.cells;have aI:=dB;rw[el.out]at aI aD;have bZ:=zh (cO jj.out aI dq aD ig);have EB:=zh vf;have zP:=zh lv;clear aD dJ aI vf lv dq ic dB k0 k1 k2;go_wp2;refine bodyPost_ret (v:=.agg #[.slice D0 N6.ends.length d0,.slice D1 N6.ids.length d1,.slice D2 N6.acn.length d2]) (by simp[results,Tryz.results191,go_sem, *]) rfl ?_;obtain⟨r1,r2,r3⟩:=bZ.out
   exact⟨_,_,_,N6,S6,rfl,r1,⟨zP.out.mono (by omega) (Nat.le_refl _),by have:=gQ.out;have:=EB.out.len;omega⟩,r2.mono (by have:=HQ.out;omega),r3⟩
theorem ar.acG {w w':World} {base:Nat} {ve vi vn vi':Value} {N:aj} {S T:List Nat} {ids':List Int} (h:ar w base ve vi vn N S) (ho:j_ w' base vi' ids' T) (eH:aX vi.ownBlock.toList w w') (hT:∀j∈T,j∈vi.ownBlock.toList\/w.heap.size<=j):
  ∃S',ar w' base ve vi' vn { N with ids:=ids' } S'/\∀j∈S',j∈S\/w.heap.size<=j:=by
 have IF:=h.range;obtain⟨S1,S2,S3,h1,h2,h3,h4,h5⟩:=h;have e2:S2=vi.ownBlock.toList:=h2.2;rw[<- e2]at eH hT;have tK:=h5;rw[h4,List.nodup_append,List.nodup_append]at h5;obtain⟨n1,⟨n2,n3,d23⟩,d1⟩:=h5
 have m1:∀j∈S1,j∈S:=fun j hj=>by rw[h4];exact List.mem_append_left _ hj
 have m2:∀j∈S2,j∈S:=fun j hj=>by rw[h4];exact List.mem_append_right _ (List.mem_append_left _ hj)
 have m3:∀j∈S3,j∈S:=fun j hj=>by rw[h4];exact List.mem_append_right _ (List.mem_append_right _ hj)
 have x1:∀j∈S1,j∉S2:=fun j hj hk=>d1 j hj j (List.mem_append_left _ hk) rfl
 have x3:∀j∈S3,j∉S2:=fun j hj hk=>d23 j hk j hj rfl
 have t1:∀j∈S1,j∉T:=fun j hj hk=>by
  rcases hT j hk with h | h
  ·exact x1 j hj h
  ·have:=(IF j (m1 j hj)).2;omega
 have t3:∀j∈S3,j∉T:=fun j hj hk=>by
  rcases hT j hk with h | h
  ·exact x3 j hj h
  ·have:=(IF j (m3 j hj)).2;omega
 refine⟨S1++(T++S3),⟨S1,T,S3,jw.only h1 eH x1,ho,gm.only h3 eH x3,rfl,?_⟩,?_⟩
 ·rw[List.nodup_append,List.nodup_append];refine⟨n1,⟨gm.nodup ho,n3,fun a ha b hb e=>t3 b hb (e ▸ ha)⟩,fun a ha b hb e=>?_⟩
  rcases List.mem_append.1 hb with hb | hb
  ·exact t1 a ha (e ▸ hb)
  ·exact d1 a ha b (List.mem_append_right _ hb) e
 ·intro j hj;rcases List.mem_append.1 hj with hj | hj
  ·exact .inl (m1 j hj)
  ·rcases List.mem_append.1 hj with hj | hj
   ·rcases hT j hj with h | h
    ·exact .inl (m2 j h)
    ·exact .inr h
   ·exact .inl (m3 j hj)
theorem ar.acN {w w':World} {base:Nat} {ve vi vn YK:Value} {N:aj} {S T:List Nat} {in':List Int} (h:ar w base ve vi vn N S) (ho:j_ w' base YK in' T) (eH:aX vn.ownBlock.toList w w') (hT:∀j∈T,j∈vn.ownBlock.toList\/w.heap.size<=j):
  ∃S',ar w' base ve vi YK { N with acn:=in' } S'/\∀j∈S',j∈S\/w.heap.size<=j:=by
 have IF:=h.range;obtain⟨S1,S2,S3,h1,h2,h3,h4,h5⟩:=h;have e3:S3=vn.ownBlock.toList:=h3.2;rw[<- e3]at eH hT;rw[h4,List.nodup_append,List.nodup_append]at h5;obtain⟨n1,⟨n2,n3,d23⟩,d1⟩:=h5
 have m1:∀j∈S1,j∈S:=fun j hj=>by rw[h4];exact List.mem_append_left _ hj
 have m2:∀j∈S2,j∈S:=fun j hj=>by rw[h4];exact List.mem_append_right _ (List.mem_append_left _ hj)
 have m3:∀j∈S3,j∈S:=fun j hj=>by rw[h4];exact List.mem_append_right _ (List.mem_append_right _ hj)
 have x1:∀j∈S1,j∉S3:=fun j hj hk=>d1 j hj j (List.mem_append_right _ hk) rfl
 have x2:∀j∈S2,j∉S3:=fun j hj hk=>d23 j hj j hk rfl
 have t1:∀j∈S1,j∉T:=fun j hj hk=>by
  rcases hT j hk with h | h
  ·exact x1 j hj h
  ·have:=(IF j (m1 j hj)).2;omega
 have t2:∀j∈S2,j∉T:=fun j hj hk=>by
  rcases hT j hk with h | h
  ·exact x2 j hj h
  ·have:=(IF j (m2 j hj)).2;omega
 refine⟨S1++(S2++T),⟨S1,S2,T,jw.only h1 eH x1,gm.only h2 eH x2,ho,rfl,?_⟩,?_⟩
 ·rw[List.nodup_append,List.nodup_append];refine⟨n1,⟨n2,gm.nodup ho,fun a ha b hb e=>t2 a ha (e ▸ hb)⟩,fun a ha b hb e=>?_⟩
  rcases List.mem_append.1 hb with hb | hb
  ·exact d1 a ha b (List.mem_append_left _ hb) e
  ·exact t1 a ha (e ▸ hb)
 ·intro j hj;rcases List.mem_append.1 hj with hj | hj
  ·exact .inl (m1 j hj)
  ·rcases List.mem_append.1 hj with hj | hj
   ·exact .inl (m2 j hj)
   ·rcases hT j hj with h | h
    ·exact .inl (m3 j h)
    ·exact .inr h
def f7 (k:Nat) (e:Int×Int):Int×Int:=(e.1+(k:Int),e.2)
def ie (a b:aj):aj:=⟨a.ends++b.ends.map (List.map (f7 a.ends.length)),a.ids++b.ids,a.acn++b.acn⟩
theorem Gd.union {R M M':Nat} {a b:aj} (ha:Gd R M a) (hb:Gd R M' b):Gd R (M+M') (ie a b):=by
 have hl:(ie a b).ends.length=a.ends.length+b.ends.length:=by simp[ie]
 have dm:∀(k:Nat) (es:List (Int×Int)),(ie a b).ends[k]?=some es->(k<a.ends.length/\a.ends[k]?=some es)\/(∃fs,b.ends[k-a.ends.length]?=some fs/\es=fs.map (f7 a.ends.length)/\a.ends.length<=k):=fun k es h=>by
  unfold ie at h;rcases Nat.lt_or_ge k a.ends.length with hk | hk
  ·left;exact⟨hk,by simpa[List.getElem?_append_left hk]using h⟩
  ·right
   simp only[List.getElem?_append_right hk,List.getElem?_map]at h
   cases hf:b.ends[k-a.ends.length]? with
   | none=>rw[hf]at h;simp at h
   | some fs=>rw[hf]at h;simp at h;exact⟨fs,rfl,h.symm,hk⟩
 refine⟨by have:=ha.ends;have:=hb.ends;omega,fun k es h=>?_,by simp only[ie,List.length_append];have:=ha.ids;have:=hb.ids;omega,by rw[hl];simp only[ie,List.length_append];rw[ha.acn,hb.acn],fun k es h e he=>?_⟩
 ·rcases dm k es h with⟨-,h1⟩ | ⟨fs,h1,rfl,-⟩
  ·exact ha.row k es h1
  ·rw[List.length_map];exact hb.row _ fs h1
 ·rcases dm k es h with⟨-,h1⟩ | ⟨fs,h1,rfl,-⟩
  ·obtain⟨x,y,gs,q1,q2,q3⟩:=ha.wf k es h1 e he;refine⟨x,y,gs,q1,?_,q3⟩;unfold ie;simp only[];rw[List.getElem?_append_left (al q2)];exact q2
  ·obtain⟨e0,h2,rfl⟩:=List.mem_map.1 he;obtain⟨x,y,gs,rfl,q2,q3⟩:=hb.wf _ fs h1 e0 h2
   refine⟨x+a.ends.length,y,gs.map (f7 a.ends.length),by simp[f7],?_,by rw[List.length_map];exact q3⟩
   unfold ie;simp only[];rw[List.getElem?_append_right (by omega),Nat.add_sub_cancel,List.getElem?_map,q2];rfl
theorem fY {w:World} {ops:Array Oper} {rest:List Oper} {o:Oper} {a:Act} {Q:Exit->Act->World->Prop} (iG:o.guard=none) (s x:Operand)
  (ho:o.op=.call { callee:=.builtin .append,args:=#[s,x],argTypes:=#[25,25] }) {base:Nat} {v u:Value} {xs ys:List Int} (hs:a.eval s=v) (h:Own w base v xs) (hx:a.eval x=u) (hu:aO w u ys) (hl:xs.length+ys.length<=17592186044416) (gY:base<=w.heap.size)
  (k:∀v' w' T,j_ w' base v' (xs++ys) T->aX v.ownBlock.toList w w'->(∀j∈T,j∈v.ownBlock.toList\/w.heap.size<=j)->wpList Tryz.prog ops Q rest (a.put o.dst v') w'):wpList Tryz.prog ops Q (o::rest) a w:=by
 obtain⟨A,c,rfl,fg,hm,hA⟩:=hu;rcases Nat.eq_zero_or_pos ys.length with h0 | h0
 ·obtain rfl:ys=[]:=List.eq_nil_of_length_eq_zero h0
  refine xP iG s x ho hs h A c hx ?_;exact k v w _ ⟨by simpa using h,rfl⟩ (aX.refl _ _) (fun j hj=>.inl hj)
 ·obtain⟨y0,II⟩:=aA ys 0 h0;obtain⟨b,off,rfl,_⟩:=hA 0 y0 II
  refine AA iG s x ho hs h b off c ys hx (fun j y hj=>by
   obtain⟨b',n7,e,hc⟩:=hA j y hj;cases e
   exact hc) h0 hl gY ?_
  intro g cap w' h1 h2 h3 h4;refine k _ w' [g] ⟨h1,by simp[Value.ownBlock]⟩ (aX.acq h2) (fun j hj=>?_)
  simp at hj
  subst hj;rcases h3 with h3 | h3
  ·left;rw[h3];simp
  ·right;omega
theorem B9 (ve vi vn ue ui un:Value) (a b:aj) (w:World) (h:aC w ve vi vn a) (h':aC w ue ui un b) (ha:pB a) (hb:pB b) (VD:Mn b):
  Calls Tryz.prog 192 #[.agg #[ve,vi,vn],.agg #[ue,ui,un]] w (o_ w (ie a b)):=by
 obtain⟨A1,c1,rfl,vP,ru,-⟩:=id h.1;obtain⟨AI,cI,rfl,-,-,-⟩:=id h.2.1;obtain⟨AN,cN,rfl,-,-,-⟩:=id h.2.2;obtain⟨B1,d1,rfl,El,f8,-⟩:=id h'.1;obtain⟨BI,dI,rfl,-,-,-⟩:=id h'.2.1;obtain⟨BN,dN,rfl,-,-,-⟩:=id h'.2.2;unfold maxLen at ru f8;obtain⟨w0,bQ⟩:∃z,z=(w.alloc (.cells #[.slice A1 a.ends.length c1,.slice AI a.ids.length cI,.slice AN a.acn.length cN] 27)).alloc (.cells #[.slice B1 b.ends.length d1,.slice BI b.ids.length dI,.slice BN b.acn.length dN] 27):=⟨_,rfl⟩
 obtain⟨wa,jC⟩:∃z,z=w0.alloc (.cells #[.slice none 0 0,.slice none 0 0,.slice none 0 0] 27):=⟨_,rfl⟩
 have aU:ab w w0:=by rw[bQ];exact ad _ (ad _ (aa _))
 have ll:ab w0 wa:=by rw[jC];exact ad _ (aa _)
 have kY:w0.heap.size=w.heap.size+1+1:=by rw[bQ];simp
 have p0:∀W,ab w0 W->W.cell? ⟨w.heap.size,0,none⟩=some (.slice A1 a.ends.length c1):=ae (by rw[bQ];simp)
 have p1:∀W,ab w0 W->W.cell? ⟨w.heap.size,1,none⟩=some (.slice AI a.ids.length cI):=ae (by rw[bQ];simp)
 have p2:∀W,ab w0 W->W.cell? ⟨w.heap.size,2,none⟩=some (.slice AN a.acn.length cN):=ae (by rw[bQ];simp)
 have q0:∀W,ab w0 W->W.cell? ⟨w.heap.size+1,0,none⟩=some (.slice B1 b.ends.length d1):=ae (by rw[bQ];simp)
 have q1:∀W,ab w0 W->W.cell? ⟨w.heap.size+1,1,none⟩=some (.slice BI b.ids.length dI):=ae (by rw[bQ];simp)
 have q2:∀W,ab w0 W->W.cell? ⟨w.heap.size+1,2,none⟩=some (.slice BN b.acn.length dN):=ae (by rw[bQ];simp)
 have HA:=zh (show ∀X,ab w0 X->aC X (.slice A1 a.ends.length c1) (.slice AI a.ids.length cI) (.slice AN a.acn.length cN) a from fun X hX=>h.keep (aU.after hX).below)
 have HB:=zh (show ∀X,ab w0 X->aC X (.slice B1 b.ends.length d1) (.slice BI b.ids.length dI) (.slice BN b.acn.length dN) b from fun X hX=>h'.keep (aU.after hX).below)
 have CQ:Hid (∀X,ab wa X->aS X (w.heap.size+1+1) (.slice none 0 0) (.slice none 0 0) (.slice none 0 0)):=fun X hX=>by
  refine aS.since (W:=wa) ?_ hX;rw[jC,<- kY];show(w0.heap.push _)[w0.heap.size]?=_
  rw[Array.getElem?_push_size]
 have zH:Hid (wa.heap.size=w.heap.size+1+1+1):=by show _=_;rw[jC,<- kY];simp
 have bS:=zh bQ;have Bx:=zh jC;have jj:=zh aU;have vT:=zh ll;have Fy:=zh ha;have Lb:=zh hb;have Yz:=zh VD;clear VD;clear bQ aU h h' jC ll kY ha hb
 go_enter Tryz.func192,Tryz.ntmps192
 go_upto_region 1 with(fail);rw[<- bS.out,<- Bx.out];have a0:=p0 wa vT.out;have a1:=p1 wa vT.out;have a2:=p2 wa vT.out;go_wp2_with fail;refine(j6 _ _ _ a wa (HA.out wa vT.out) Fy.out.ends Fy.out.row Fy.out.sz).mono ?_;rintro e w1 ⟨we,wi,wn,S,rfl,ho,aN⟩;obtain⟨E1,e1,rfl,-,-,-⟩:=id ho.read.1;obtain⟨EI,eI,rfl,-,-,-⟩:=id ho.read.2.1;obtain⟨EN,eN,rfl,-,-,-⟩:=id ho.read.2.2;obtain⟨w2,iY⟩:∃z,z=w1.alloc (.cells #[.slice E1 a.ends.length e1,.slice EI a.ids.length eI,.slice EN a.acn.length eN] 27):=⟨_,rfl⟩
 obtain⟨bo,uV⟩:∃z,z=w1.heap.size:=⟨_,rfl⟩
 have dr:ab wa w1:=aN
 have kb:ab w1 w2:=by rw[iY];exact ad _ (aa _)
 have yI:aY w2 bo (.slice E1 a.ends.length e1) (.slice EI a.ids.length eI) (.slice EN a.acn.length eN):=by rw[iY,uV];exact aY.new _ _ _ _ _
 have J7:bo∉S:=fun hj=>by have:=(ho.range _ hj).2;omega
 have xQ:=zh iY;have Po:=zh uV;have pu:=zh (ho.keep kb.below);have wU:=zh yI;have zN:=zh J7;have cW:=zh (dr.after kb);have wV:ab w0 w2:=vT.out.after cW.out;have b1:=q1 w2 wV;have qU:=zh wV
 have ze:Hid (wa.heap.size<=bo/\bo<w2.heap.size):=⟨by rw[uV];exact dr.below.size,by rw[iY,uV];simp⟩
 obtain⟨k0,k1,k2,f0,f1,f2⟩:=yI.cells;clear iY uV ho yI J7 dr kb aN a0 a1 a2 wV;go_upto_region 2 with(fail);rw[<- xQ.out,<- Po.out];obtain⟨S1,S2,S3,-,rq,-,PA,-⟩:=id pu.out;have V0:=zh rq;have HS2:=zh PA;clear rq PA
 have PD:a.ids.length+b.ids.length<=17592186044416:=by have h1:=Fy.out.sz;have h2:=Lb.out.sz;unfold iO at h1 h2;omega
 have PE:a.acn.length+b.acn.length<=17592186044416:=by have h1:=Fy.out.sz;have h2:=Lb.out.sz;unfold iO at h1 h2;omega
 have Sx:=zh PD;have wQ:=zh PE;clear PD PE
 have aaD:Hid (bo∉(Value.slice EI a.ids.length eI).ownBlock.toList):=fun hm=>zN.out (by rw[HS2.out];rw[<- V0.out.2]at hm;exact List.mem_append_right _ (List.mem_append_left _ hm))
 go_upto_region 3 with(at_builtin;refine fY (base:=wa.heap.size) rfl _ _ rfl rfl V0.out.1 rfl (HB.out w2 qU.out).2.1 Sx.out cW.out.below.size ?_;intro v' w3 T ex rO Ng;obtain⟨V,mV,cV,rfl⟩:=gm.one ex;have MZ:aY w3 bo (.slice E1 a.ends.length e1) (.slice EI a.ids.length eI) (.slice EN a.acn.length eN):=wU.out.blk (rO.block bo ze.out.2 aaD.out);clear k0 k1 k2 f0 f1 f2;obtain⟨k0,k1,k2,f0,f1,f2⟩:=MZ.cells)
 obtain⟨w4,gU⟩:∃z,z=w3.setCell ⟨bo,1,none⟩ (.slice V mV cV):=⟨_,rfl⟩
 rw[<- gU];obtain⟨S',Ic,x7⟩:=pu.out.acG ex rO Ng
 have NS:bo∉S':=fun hj=>by
  rcases x7 _ hj with h | h
  ·exact zN.out h
  ·have:=ze.out;omega
 have Uj:Hid (ar w4 wa.heap.size (.slice E1 a.ends.length e1) (.slice V mV cV) (.slice EN a.acn.length eN) { a with ids:=a.ids++b.ids } S'):=by show ar _ _ _ _ _ _ _;rw[gU];exact Ic.aco (fun k hk=>Below.heap_setCell _ _ _ _ (fun e=>NS (by have e':k=bo:=e;exact e' ▸ hk)))
 have GF:Hid (aY w4 bo (.slice E1 a.ends.length e1) (.slice V mV cV) (.slice EN a.acn.length eN)):=by show aY _ _ _ _ _;rw[gU];exact MZ.acI
 have GV:=zh NS
 have te:Hid (ab wa w4):=by
  show Below _ _ _
  rw[gU];refine Below.setCell (Below.trans cW.out (rO.below _ cW.out.below.size (fun j hj=>?_))) ze.out.1 _
  have xm:j∈S2:=by rw[V0.out.2];exact hj
  exact(pu.out.range j (by rw[HS2.out];exact List.mem_append_right _ (List.mem_append_left _ xm))).1
 have V1:bo<w4.heap.size:=GF.out.lt;obtain⟨Su,S2',S3',-,-,Zu,V2,-⟩:=id Uj.out;have Hi3:=zh Zu;have V3:=zh V2;have V4:=zh V1;have oA:=zh (vT.out.after te.out)
 have aaE:Hid (bo∉(Value.slice EN a.acn.length eN).ownBlock.toList):=fun hm=>GV.out (by rw[V3.out];rw[<- Hi3.out.2]at hm;exact List.mem_append_right _ (List.mem_append_right _ hm))
 clear gU Ic x7 NS MZ ex rO Ng k0 k1 k2 f0 f1 f2 Zu V2 V1;have b2:=q2 w4 oA.out;obtain⟨k0,k1,k2,f0,f1,f2⟩:=GF.out.cells;clear b1
 go_upto_region 4 with(at_builtin;refine fY (base:=wa.heap.size) rfl _ _ rfl rfl Hi3.out.1 rfl (HB.out w4 oA.out).2.2 wQ.out te.out.below.size ?_;intro v' w5 T5 vU NT hT5;obtain⟨V5,PF,PG,rfl⟩:=gm.one vU;have hB5:aY w5 bo (.slice E1 a.ends.length e1) (.slice V mV cV) (.slice EN a.acn.length eN):=GF.out.blk (NT.block bo V4.out aaE.out);clear k0 k1 k2 f0 f1 f2;obtain⟨k0,k1,k2,f0,f1,f2⟩:=hB5.cells)
 obtain⟨w6,zQ⟩:∃z,z=w5.setCell ⟨bo,2,none⟩ (.slice V5 PF PG):=⟨_,rfl⟩
 rw[<- zQ];obtain⟨S6,Ic,x7⟩:=Uj.out.acN vU NT hT5
 have sO:bo∉S6:=fun hj=>by
  rcases x7 _ hj with h | h
  ·exact GV.out h
  ·have:=V4.out;omega
 have HO6:Hid (ar w6 wa.heap.size (.slice E1 a.ends.length e1) (.slice V mV cV) (.slice V5 PF PG) { a with ids:=a.ids++b.ids,acn:=a.acn++b.acn } S6):=by show ar _ _ _ _ _ _ _;rw[zQ];exact Ic.aco (fun k hk=>Below.heap_setCell _ _ _ _ (fun e=>sO (by have e':k=bo:=e;exact e' ▸ hk)))
 have HB6:Hid (aY w6 bo (.slice E1 a.ends.length e1) (.slice V mV cV) (.slice V5 PF PG)):=by show aY _ _ _ _ _;rw[zQ];exact hB5.acJ
 have YL:=zh sO
 have NE:Hid (ab wa w6):=by
  show Below _ _ _
  rw[zQ];refine Below.setCell (Below.trans te.out (NT.below _ te.out.below.size (fun j hj=>?_))) ze.out.1 _
  have xm:j∈S3':=by rw[Hi3.out.2];exact hj
  exact(Uj.out.range j (by rw[V3.out];exact List.mem_append_right _ (List.mem_append_right _ xm))).1
 have aaF:=zh (vT.out.after NE.out);clear zQ Ic x7 sO hB5 vU NT hT5 k0 k1 k2 f0 f1 f2 b2 p1 p2 q1 q2;have b0:=q0 w6 aaF.out;have yx:=NE.out;go_wp2;clear b0;obtain⟨W6,rfl⟩:∃z,z=w6:=⟨_,rfl⟩
 go_loopw [28] (fun i wr=>∃(k:Nat) (v:Value) (S:List Nat),k<=b.ends.length/\i=.int .i64 k/\ar wr wa.heap.size v (.slice V mV cV) (.slice V5 PF PG) ⟨a.ends++(b.ends.take k).map (List.map (f7 a.ends.length)),a.ids++b.ids,a.acn++b.acn⟩ S/\bo∉S/\aY wr bo v (.slice V mV cV) (.slice V5 PF PG)/\ab wa wr) (fun i _=>b.ends.length-(intOf i).toNat)
 case atStart=>exact⟨0,_,S6,Nat.zero_le _,rfl,by have:=HO6.out;simpa using this,YL.out,HB6.out,NE.out⟩
 case round=>
  obtain⟨k,v,S7,hk,rfl,eH,Mq,dT,bG⟩:=hrel
  obtain⟨AV,V6,V7,rfl⟩:∃A m c,v=.slice A m c:=by obtain⟨A,c,hv,-⟩:=eH.read.1;exact⟨A,_,c,hv⟩
  have sJ:=zh eH;have Hnb:=zh Mq;have uJ:=zh dT;have le:=zh bG;have pJ:=vT.out.after bG;have pK:=zh pJ;clear eH Mq dT bG yx;obtain⟨wo,rfl⟩:∃z,z=wr:=⟨_,rfl⟩
  by_cases az:k<b.ends.length
  ·obtain⟨es,bM⟩:=aA b.ends k az;obtain⟨g0,o0,cr,ur,Df,-,eD,hE1⟩:=fi (HB.out w0 (aa _)).es bM;cases Df;obtain⟨A9,y9,rfl,dh,dt,FK⟩:=hE1;unfold maxLen at dt;have r1:=ae eD wo pJ;have VE:=zh FK;have jZ:=zh bM;have IL:es.length<=1000:=Lb.out.row _ _ bM
   have m1:IntKind.i64.wrap ((k:Int)+1)=(k:Int)+1:=aH _ (by omega) (by have h1:=Lb.out.ends;omega)
   clear FK eD bM pJ;go_upto_region 9 with(fail);clear r1
   go_loopw [8,34] (fun u i wr=>∃(j:Nat) (T:List Nat),j<=es.length/\i=.int .i64 j/\dU wr wo.heap.size u ((es.take j).map (f7 a.ends.length)) T/\ab wo wr) (fun _ i _=>es.length-(intOf i).toNat)
   case atStart=>exact⟨0,[],Nat.zero_le _,rfl,tL _ _,aa _⟩
   case round=>
    obtain⟨j,T,hj,rfl,OM,nk⟩:=hrel;obtain⟨AU,mU,cU,rfl⟩:=gj.one OM;have KE:=zh OM;have i_:=zh nk;clear OM
    by_cases sH:j<es.length
    ·obtain⟨e,he⟩:=aA es j sH;obtain⟨x,y,fs,rfl,Mk,MJ⟩:=Yz.out k es jZ.out e (List.mem_of_getElem? he);obtain⟨g1,o1,rfl,t1,t2⟩:=VE.out j _ he;have G4:=pK.out.after i_.out;have NK:=ae t1 wr G4;have NL:=ae t2 wr G4;have rh:x<b.ends.length:=al Mk
     have m2:IntKind.i64.wrap ((x:Int)+(a.ends.length:Int))=(x:Int)+(a.ends.length:Int):=aH _ (by omega) (by have h1:=Fy.out.ends;have h2:=Lb.out.ends;omega)
     have m3:IntKind.i64.wrap ((j:Int)+1)=(j:Int)+1:=aH _ (by omega) (by omega);obtain⟨w8,jV⟩:∃z,z=wr.alloc (.cells #[.int .i64 (x:Int),.int .i64 (y:Int)] 83):=⟨_,rfl⟩
     obtain⟨eb,za⟩:∃z,z=wr.heap.size:=⟨_,rfl⟩
     have h8:ab wr w8:=by rw[jV];exact ad _ (aa _)
     have v1:w8.cell? ⟨eb,0,none⟩=some (.int .i64 (x:Int)):=by rw[jV,za];simp
     have v2:w8.cell? ⟨eb,1,none⟩=some (.int .i64 (y:Int)):=by rw[jV,za];simp
     have v3:=p0 w8 (G4.after h8);have Gt:=zh jV;have NC:=zh za;have iS:Hid (ab wo w8):=i_.out.after h8;have pR:Hid (dU w8 wo.heap.size (.slice AU mU cU) ((es.take j).map (f7 a.ends.length)) T):=gj.keep KE.out h8.below
     have Ny:Hid (((es.take j).map (f7 a.ends.length)).length+1<=1000000):=by show _<=_;rw[List.length_map,List.length_take];omega
     have V8:Hid ((es.take (j+1)).map (f7 a.ends.length)=(es.take j).map (f7 a.ends.length)++[((x:Int)+(a.ends.length:Int),(y:Int))]):=by show _=_;rw[aV he,List.map_append];rfl
     clear jV za h8 G4 t1 t2 he Mk nk;go_upto_region 11 with(fail);rw[<- Gt.out,<- NC.out];clear NK NL
     go_upto_region 12 with(at_builtin;refine im (base:=wo.heap.size) (v:=.slice AU mU cU) (xs:=(es.take j).map (f7 a.ends.length)) (T:=T) rfl _ _ rfl rfl (gj.keep pR.out (ai _ _)) w8.heap.size ((x:Int)+(a.ends.length:Int),(y:Int)) rfl (by simp) (by simp) Ny.out (by have:=iS.out.below.size;simp;omega) ?_;intro g9 zb w9 gP lu pD)
     have tg:=zh gP
     have Dv:Hid (ab wo w9):=Below.grown (ad _ iS.out) lu (by have:=iS.out.below.size;simp;omega) (fun q hq=>(gj.range pR.out q (by rw[pR.out.2,hq];simp)).1)
     clear gP lu pD v1 v2 v3;go_wp2;go_roundw
     case rel=>exact⟨j+1,[g9],by omega,by first | rfl | go_num,by rw[V8.out];have h9:=tg.out;rw[show((es.take j).map (f7 a.ends.length)).length=j by rw[List.length_map,List.length_take];omega]at h9;simpa using h9,Dv.out⟩
     case measure=>simp[intOf];omega
    ·obtain rfl:j=es.length:=by omega
     have xt:aY wr bo (.slice AV V6 V7) (.slice V mV cV) (.slice V5 PF PG):=uJ.out.below i_.out.below uJ.out.lt
     have dm:Hid (dU wr wo.heap.size (.slice AU mU cU) (es.map (f7 a.ends.length)) T):=by have h9:=KE.out;rw[List.take_length]at h9;exact h9
     have QM:Hid (∀q,(Value.slice AV V6 V7).ownBlock=some q->wa.heap.size<=q):=fun q hq=>by
      obtain⟨S1,S2,S3,h1,-,-,h4,-⟩:=id sJ.out;obtain⟨vs,Ss,-,-,-,e4,-⟩:=id h1
      exact(sJ.out.range q (by rw[h4,e4,hq];simp)).1
     have Uw:Hid (∀j∈T,j∉S7):=fun j hj hS=>by have h1:=(gj.range KE.out j hj).1;have h2:=(sJ.out.range j hS).2;omega
     have FH:Hid ((a.ends++(b.ends.take k).map (List.map (f7 a.ends.length))).length+1<=1000000):=by show _<=_;rw[List.length_append,List.length_map,List.length_take];have h1:=Fy.out.ends;have h2:=Lb.out.ends;omega
     have IX:Hid (wa.heap.size<=wo.heap.size):=le.out.below.size;have hwq:Hid (ab wa wr):=le.out.after i_.out;have Aa:=zh xt;obtain⟨k0,k1,k2,f0,f1,f2⟩:=xt.cells;clear xt nk
     go_upto_region 14 with(at_builtin;refine qO (wT:=wa) (base:=wa.heap.size) (v:=.slice AV V6 V7) (u:=.slice AU mU cU) (T:=T) (es:=es.map (f7 a.ends.length)) rfl _ _ rfl rfl ((sJ.out.keep i_.out.below).keep (ai _ _)) wr.heap.size rfl (by simp) (gj.mono (gj.keep dm.out (ai _ _)) IX.out) Uw.out FH.out (ad _ hwq.out) (by have:=hwq.out.below.size;simp;omega) QM.out ?_;intro v8 w8 S8 hv8 Rr Rs Lc kH;obtain⟨A8,m8,c8,rfl⟩:∃A m c,v8=Value.slice A m c:=(by obtain⟨A,c,hv,-⟩:=Rr.read.1;exact⟨A,_,c,hv⟩);have Ld:aY w8 bo (.slice AV V6 V7) (.slice V mV cV) (.slice V5 PF PG):=((Aa.out.alloc _).blk (Lc.block bo (by have:=Aa.out.lt;simp;omega) Hnb.out));clear k0 k1 k2 f0 f1 f2;obtain⟨k0,k1,k2,f0,f1,f2⟩:=Ld.cells)
     have Rt:bo∉S8:=fun hm=>by
      rcases Rs bo hm with h | h | h
      ·exact Hnb.out h
      ·have h1:=(gj.range KE.out bo h).1;have h2:=uJ.out.lt;omega
      ·have h2:=Aa.out.lt;simp at h;omega
     have PH:a.ends++(b.ends.take (k+1)).map (List.map (f7 a.ends.length))=(a.ends++(b.ends.take k).map (List.map (f7 a.ends.length)))++[es.map (f7 a.ends.length)]:=by
      rw[aV jZ.out,List.map_append,List.append_assoc];rfl
     have Hl9:=zh PH
     have V9:=zh (Rr.aco (w':=w8.setCell ⟨bo,0,none⟩ (.slice A8 m8 c8)) (fun q hq=>Below.heap_setCell _ _ _ _ (fun e=>Rt (by have e':q=bo:=e;exact e' ▸ hq))))
     have zR:=zh (Ld.acF (u:=.slice A8 m8 c8));have Dv:=zh (Below.setCell kH (p:=⟨bo,0,none⟩) ze.out.1 (.slice A8 m8 c8));have aaG:=zh Rt;clear Rt PH Rr Ld kH Lc Rs hv8 k0 k1 k2 f0 f1 f2;go_wp2;go_roundw
     case rel=>exact⟨k+1,_,S8,by omega,by first | rfl | go_num,by rw[Hl9.out];exact V9.out,aaG.out,zR.out,Dv.out⟩
     case measure=>simp[intOf];omega
  ·obtain rfl:k=b.ends.length:=by omega
   have dJ:=CQ.out wo le.out;obtain⟨k0,k1,k2,-,-,-⟩:=uJ.out.cells;obtain⟨e0,Ee,e2,f0,f1,f2⟩:=dJ.box.cells;clear dJ;go_wp2;refine bodyPost_ret (v:=.agg #[.slice AV V6 V7,.slice V mV cV,.slice V5 PF PG]) (by simp[results,Tryz.results192,go_sem, *]) rfl ?_;have Yy:=zH.out;have h9:=sJ.out;rw[List.take_length]at h9;refine⟨_,_,_,S7,rfl,(h9.aco (fun j hj=>?_)).mono (by omega),?_⟩
   ·have rz:=(h9.range j hj).1;rw[Below.heap_setCell _ _ _ j (by simp;omega),Below.heap_setCell _ _ _ j (by simp;omega),Below.heap_setCell _ _ _ j (by simp;omega)]
   ·have hk:Below w.heap.size w wo:=Below.trans jj.out.below (pK.out.below.mono jj.out.below.size)
    exact((hk.setCell (by simp;omega) _).setCell (by simp;omega) _).setCell (by simp;omega) _
end Go.Proofs.YtgmdpppljkmabaaGreat
