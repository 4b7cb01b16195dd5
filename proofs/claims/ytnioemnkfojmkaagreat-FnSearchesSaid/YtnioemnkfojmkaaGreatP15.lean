/- Parts of the proof: walks of functions and plain laws. -/
import Derived.Test.YtnioemnkfojmkaaGreatP0
import Derived.Test.YtnioemnkfojmkaaGreatP14
set_option maxRecDepth 100000
set_option maxHeartbeats 16000000
namespace Go.Proofs.YtnioemnkfojmkaaGreat
open Go Go.RowKit
theorem AB (cb:Nat) (A:Option Addr) (L c P most M:Nat) (w:World) (hc:bB w cb A L c P) (hP:P<=4400000000000000000) (pT:1<=most) (nh:most<=M) (hM:M<=40):
  Calls Tryz.prog 102 #[.pointer (some ⟨cb,0,none⟩),.int .i64 most] w (yt cb w.heap.size A L c (P+72057594037927936) w (TN 100 M)):=by
 have ia:=hc.lt;obtain⟨B,te⟩:∃z,z=w.heap.size+1:=⟨_,rfl⟩
 obtain⟨w0,ar⟩:∃z,z=w.alloc (.cells #[.slice none 0 0,.slice none 0 0,.slice none 0 0] 30):=⟨_,rfl⟩
 have bu:aa w w0:=by rw[ar];exact ae _ (ad _)
 have eu:w0.heap.size=B:=by rw[ar,te];simp
 have fG:bA w0 w.heap.size (.slice none 0 0) (.slice none 0 0) (.slice none 0 0):=by
  rw[ar];show(w.heap.push _)[w.heap.size]?=_
  rw[Array.getElem?_push_size]
 have eY:=zh fG;have f6:=zh bu;have cS:=zh ar;have fL:=zh te;have gh:=zh eu;have xi:=zh (hc.since bu);clear fG bu ar hc te eu
 go_enter Tryz.func102,Tryz.ntmps102
 go_upto_region 1 with(fail);rw[<- cS.out];go_wp2_with fail;refine(db cb A L c P most w0 xi.out (by omega) (by omega)).mono ?_;rintro e w1 ⟨x,rfl,hx,jc,ky⟩;obtain⟨m,hm⟩:∃m:Nat,m=x+1:=⟨_,rfl⟩
 have m1:IntKind.i64.wrap (1+(x:Int))=(m:Int):=by rw[aE _ (by omega) (by omega)];omega
 have Vr:m<=M:=by omega
 have XC:0<m:=by omega
 have gE:=zh jc;have lZ:=zh ky;clear jc ky hx;clear hm;go_wp2_with fail;refine(fK m (by omega) w1).mono ?_;rintro e w2 ⟨QD,QE,QF,S0,rfl,ho,bJ⟩;obtain⟨N0,nK⟩:∃z,z=aS m:=⟨_,rfl⟩
 rw[<- nK]at ho
 have kA:N0.ends.length=m:=by rw[nK];simp[aS]
 have yu:yw M 1 N0:=by rw[nK];exact yw.empty Vr
 obtain⟨A1,c1,rfl,-,vN,-⟩:=id ho.read.1;obtain⟨AI,cI,rfl,-,-,-⟩:=id ho.read.2.1;obtain⟨AN,cN,rfl,-,-,-⟩:=id ho.read.2.2;obtain⟨w3,gZ⟩:∃z,z=w2.alloc (.cells #[.slice A1 N0.ends.length c1,.slice AI N0.ids.length cI,.slice AN N0.ac1.length cN] 30):=⟨_,rfl⟩
 obtain⟨pb,da⟩:∃z,z=w2.heap.size:=⟨_,rfl⟩
 have Gs:aa w2 w3:=by rw[gZ];exact ae _ (ad _)
 have eA:B<=w1.heap.size:=by rw[<- gh.out];exact lZ.out.size
 have qm:Mb cb B pb A L c (P+2) w0 w3 (.slice A1 N0.ends.length c1) (.slice AI N0.ids.length cI) (.slice AN N0.ac1.length cN) N0 S0:=
  ⟨(ho.ac2 Gs.below).mono eA,by rw[gZ,da];exact aZ.new _ _ _ _ _,fun hj=>by have:=(ho.range _ hj).2;omega,(gE.out.since bJ).since Gs,(lZ.out.mono (by have:=gh.out;omega)).trans ((CB.of (Below.trans bJ (Gs.below.mono bJ.size))).mono eA)⟩
 have tT:=zh qm
 have cB:Hid (B<=pb/\pb<w3.heap.size):=⟨by rw[da];exact Nat.le_trans eA bJ.size,by rw[gZ,da];simp⟩
 have wO:=zh gZ;have tf:=zh da;have Jw:=zh yu;have f8:=zh kA;have dj:=qm.box.cells.1
 have kC:cb<B:=by have:=fL.out;omega
 clear qm gZ da yu kA ho bJ Gs nK eA;go_upto_region 3 with(fail);rw[<- wO.out,<- tf.out];clear dj
 go_loopw [6] (fun i wr=>∃(v:Nat) (ve vi vn:Value) (N:aw) (S:List Nat),1<=v/\v<=m/\i=.int .i64 v/\Mb cb B pb A L c (P+2+v*1125899906842624) w0 wr ve vi vn N S/\yw M v N/\N.ends.length=m/\B<=wr.heap.size) (fun i _=>m-(intOf i).toNat)
 case atStart=>exact⟨1,_,_,_,N0,S0,Nat.le_refl _,XC,rfl,⟨tT.out.own,tT.out.box,tT.out.nb,tT.out.cur.mono (by omega),tT.out.far⟩,Jw.out,f8.out,by have:=cB.out;omega⟩
 case round=>
  obtain⟨v,ve,vi,vn,N,S2,M9,hk,rfl,hm,iz,kA,eR⟩:=hrel;obtain⟨Bl,jn,rfl,-,OO,-⟩:=id hm.own.read.1;obtain⟨oI,oJ,rfl,-,-,-⟩:=id hm.own.read.2.1;obtain⟨tU,qZ,rfl,-,-,-⟩:=id hm.own.read.2.2;obtain⟨g,rfl,-⟩:=hm.own.head (by omega);have Hm:=zh hm;have nf:=zh iz;have f8:=zh kA;have jw:=zh eR
  have iM:pb≠cb:=by have:=cB.out;omega
  have qz:wr.cell? ⟨pb,0,none⟩=some (.slice (some ⟨g,0,none⟩) m jn):=by have:=Hm.out.box.cells.1;rwa [f8.out]at this
  clear hm iz kA eR;obtain⟨wo,rfl⟩:∃z,z=wr:=⟨_,rfl⟩
  by_cases aH:v<m
  ·have m4:IntKind.i64.wrap ((v:Int)+1)=(v:Int)+1:=aE _ (by omega) (by omega);obtain⟨t0,ht0,oN⟩:=nf.out.low M9;have Ls:=zh oN;clear oN;obtain⟨Q,hQ⟩:∃z,z=P+2+v*1125899906842624:=⟨_,rfl⟩
   have HQ:Hid (Q=P+2+v*1125899906842624):=hQ
   have DH:Hid (Q<=4500000000000000000):=by show _<=_;omega
   rw[<- hQ]at Hm;clear hQ;obtain⟨p0,s0,XD,hp0⟩:=Hm.out.cur;have Hc9:=zh XD;have Np:=zh hp0;have hLs:=XD.len;clear XD hp0;go_wp2_with fail
   refine(wZ cb A L c p0 s0 v wo Hc9.out (by have:=DH.out;have:=Np.out;omega) (by omega)).mono ?_
   rintro e w5 ⟨u0,p1,s1,rfl,DG,lC,sG,dG,-,ky⟩;have x9:=aq qz iM w5 ky
   have iO:=zh (Hm.out.seen (P':=Q+2) ky ⟨p1,s1,dG,by have:=Np.out;omega⟩ kC cB.out.1 jw.out)
   have tg:Hid (B<=w5.heap.size):=Nat.le_trans jw.out ky.size;have Nf:=zh dG
   have Va:Hid (p1<=Q+2):=by show _<=_;have:=Np.out;omega
   clear ky dG qz lC sG;go_upto_region 6 with(fail);clear x9
   go_loopw [7] (fun x wr=>∃(u p s:Nat),x=.int .i64 u/\u<v/\BB wr cb A L c p s/\p<=Q+281474977759236/\(u≠t0->p+tV L v t0 p s<=Q+281474977759235)/\Mb cb B pb A L c (Q+281474977759236) w0 wr (.slice (some ⟨g,0,none⟩) N.ends.length jn) (.slice oI N.ids.length oJ) (.slice tU N.ac1.length qZ) N S2/\B<=wr.heap.size) (fun x wr=>Lq L v t0 cb x wr)
   case atStart=>
    refine⟨u0,p1,s1,rfl,by omega,Nf.out,by have:=Va.out;omega,fun _=>?_,⟨iO.out.own,iO.out.box,iO.out.nb,iO.out.cur.mono (by omega),iO.out.far⟩,tg.out⟩
    have h1:=OQ (L:=L) (v:=v) (t0:=t0) p1 s1 hLs (by omega) ht0;have h2:=Va.out;omega
   case round=>
    obtain⟨u,p,s,rfl,huv,hcq,hpq,Vs,XE,BG⟩:=hrel;have Hpq:=zh hpq;clear hpq;have Hcq:=zh hcq;have Hfu:=zh Vs;have QG:=zh XE;have C7:=zh BG;clear hcq Vs BG;obtain⟨xu,gb⟩:∃z,z=be N u:=⟨_,rfl⟩
    have Qz:=bK (n:=N) (v:=u) (by have:=f8.out;omega)
    rw[<- gb]at Qz;obtain⟨uu,T,df,-,hR,-,-,uI⟩:=XE.own.ac_ Qz;obtain⟨AU,cU,rfl,-,-,-⟩:=id hR.read
    have x9:wr.cell? ⟨pb,0,none⟩=some (.slice (some ⟨g,0,none⟩) m jn):=by have:=XE.box.cells.1;rwa [f8.out]at this
    have lq:=zh gb;have hum:u<m:=by omega
    clear XE hR gb Qz uI
    by_cases h4:4<=xu.length
    ·have hut:u≠t0:=fun e=>by have h5:=Ls.out;rw[<- e,<- lq.out]at h5;omega
     have Ep:2<=v:=by omega
     have e4:((4:Int)<=(xu.length:Int))=True:=by simp;omega
     go_wp2_with fail
     refine(wZ cb A L c p s v wr Hcq.out (by have:=DH.out;have:=Hpq.out;omega) (by omega)).mono ?_
     rintro e w6 ⟨x,p',s',rfl,hx,acs,act,Qa,DE,ix⟩;obtain⟨rfl,hl7⟩:=DE Ep (by omega);have Hl7:=zh hl7;have Tc:=zh Qa;have XF:=zh ix;clear DE hl7 Qa ix x9 df;go_wp2;go_roundw
     case rel=>
      have h3:=Hfu.out hut;have h4:p+1<=Q+281474977759236:=by omega
      refine⟨x,p+1,s',rfl,by omega,Tc.out,h4,fun hxt=>?_,QG.out.seen XF.out ⟨p+1,s',Tc.out,h4⟩ kC cB.out.1 C7.out,Nat.le_trans C7.out XF.out.size⟩
      have h2:=zv (L:=L) (v:=v) (t0:=t0) (p:=p) (s:=s) (s':=s') (x:=x) hLs (by omega) ht0 hxt Hl7.out;omega
     case measure=>
      obtain⟨q1,q2⟩:=Hcq.out.pOf;obtain⟨q3,q4⟩:=Tc.out.pOf;rw[C6 (x:=.int .i64 (u:Int)) (show ¬((u:Int)=(t0:Int))by omega),q1,q2]
      by_cases hxt:x=t0
      ·rw[Lr (x:=.int .i64 (x:Int)) (show(x:Int)=(t0:Int)by omega)];omega
      ·rw[C6 (x:=.int .i64 (x:Int)) (show ¬((x:Int)=(t0:Int))by omega),q3,q4]
       have h2:=zv (L:=L) (v:=v) (t0:=t0) (p:=p) (s:=s) (s':=s') (x:=x) hLs (by omega) ht0 hxt Hl7.out;omega
    ·have e4:((4:Int)<=(xu.length:Int))=False:=by simp;omega
     have aa0:Hid ((be N u).length<4):=by show _<_;rw[<- lq.out];omega
     go_upto_region 8 with(fail);clear x9 df;obtain⟨k0,k1,k2,f0,f1,f2⟩:=QG.out.box.cells;obtain⟨wq,rfl⟩:∃z,z=wr:=⟨_,rfl⟩
     clear f0 f1 f2;go_wp2_with fail
     refine(jC _ _ _ N u v wq QG.out.own.read (by rw[f8.out];exact hum) (by rw[f8.out];exact aH) ((nf.out.gd.mono (R':=80) (M':=40) (by omega) hM).small (by omega) (by omega))).mono ?_
     rintro e w8 ⟨Nx,Ny,Nz,S3,rfl,dW,bJ⟩;have lG:aa wq w8:=bJ;obtain⟨D0,d0,rfl,-,-,-⟩:=id dW.read.1;obtain⟨D1,d1,rfl,-,-,-⟩:=id dW.read.2.1;obtain⟨D2,d2,rfl,-,-,-⟩:=id dW.read.2.2;have C1:=QG.out.assign (CB.of lG) (QG.out.cur.since lG) dW QG.out.box.lt kC cB.out.1 C7.out;obtain⟨k0,k1,k2,f0,f1,f2⟩:=(QG.out.box.below lG QG.out.box.lt).cells;have nu:=zh C1
     have oK:B<=(ac5 w8 pb (.slice D0 (dC N u v).ends.length d0) (.slice D1 (dC N u v).ids.length d1) (.slice D2 (dC N u v).ac1.length d2)).heap.size:=by rw[dV];exact Nat.le_trans C7.out lG.below.size
     have xg:=zh oK
     have Li:=zh (nf.out.step huv (by rw[f8.out];exact aH) aa0.out)
     have Ll:=zh ((dU N u v).trans f8.out);clear C1 dW bJ lG oK;go_wp2;go_roundw
     case rel=>exact⟨v+1,_,_,_,dC N u v,S3,by omega,by omega,by first | rfl | go_num,⟨nu.out.own,nu.out.box,nu.out.nb,nu.out.cur.mono (by have:=HQ.out;omega),nu.out.far⟩,Li.out,Ll.out,xg.out⟩
     case measure=>simp[intOf];omega
  ·obtain rfl:v=m:=by omega
   clear qz;obtain⟨k0,k1,k2,-,-,-⟩:=Hm.out.box.cells;have hNN:(N.ends.length:Int)=(v:Int):=by rw[f8.out]
   have yv:Hid (Gd 80 M N):=nf.out.gd.mono (by omega) (Nat.le_refl _);have gK:=Hm;have kB:=jw;obtain⟨w5,rfl⟩:∃z,z=wo:=⟨_,rfl⟩
   go_upto_region 9 with(fail);clear hNN;go_wp2_with fail
   refine(rW cb A L c _ B 80 M _ _ _ N S2 w5 gK.out.cur (by omega) gK.out.own kC kB.out yv.out (by omega) (by omega) (by have:=f8.out;omega)).mono ?_
   rintro e w6 ⟨BC,BE,BF,N6,S6,rfl,cJ,⟨rY,iw⟩,eh,ix⟩;obtain⟨D0,d0,rfl,-,-,-⟩:=id cJ.read.1;obtain⟨D1,d1,rfl,-,-,-⟩:=id cJ.read.2.1;obtain⟨D2,d2,rfl,-,-,-⟩:=id cJ.read.2.2;have bi:=(gK.out.far.mono (Nat.le_refl B)).trans ix
   have eK:=bi.adb eY.out (by have:=fL.out;omega) (by omega)
   obtain⟨e0,e1,e2,f0,f1,f2⟩:=eK.box.cells;have aC:=cJ;rw[fL.out]at aC bi;have cK:=zh (d_ f6.out aC eh bi ia);have xj:=zh rY;have zu:=zh iw;clear bi eK aC rY iw eh ix cJ k0 k1 k2;go_wp2;refine bodyPost_ret (v:=.agg #[.slice D0 N6.ends.length d0,.slice D1 N6.ids.length d1,.slice D2 N6.ac1.length d2]) (by simp[results,Tryz.results102,go_sem, *]) rfl ?_;obtain⟨r1,r2,r3⟩:=cK.out
   exact⟨_,_,_,N6,S6,rfl,r1,⟨zu.out.mono (by omega) (Nat.le_refl _),by have:=f8.out;have:=xj.out.len;omega⟩,r2.mono (by omega),r3⟩
theorem Gd.adw {R M:Nat} {n:aw} {v u:Nat} (h:Gd R M n) (hv:v<n.ends.length) (hu:u<n.ends.length) (Xh:v≠u) (h1:(be n v).length<5) (h2:(be n u).length<5) (hR:5<=R):Gd R M (dC n v u):=by
 refine⟨by rw[dU];exact h.ends,fun k es hk=>?_,h.ids,by rw[dU];exact h.ac1,vg h.wf hv hu⟩
 have h3:=ng hk
 have ss:k<n.ends.length:=by have:=al hk;rwa [dU]at this
 rw[<- h3,ja hv hu];have h4:=h.row k _ (bK ss)
 by_cases a:k=u
 ·subst a
  rw[if_pos rfl,if_neg (Ne.symm Xh)];omega
 ·rw[if_neg a]
  by_cases b:k=v
  ·subst b;rw[if_pos rfl];omega
  ·rw[if_neg b];omega
theorem oO (cb:Nat) (A:Option Addr) (L c P most M:Nat) (w:World) (hc:bB w cb A L c P) (hP:P<=4300000000000000000) (pT:1<=most) (nh:most<=M) (hM:M<=40):
  Calls Tryz.prog 122 #[.pointer (some ⟨cb,0,none⟩),.int .i64 most] w (yt cb w.heap.size A L c (P+80000000000000000) w (TN 100 M)):=by
 have ia:=hc.lt;obtain⟨B,te⟩:∃z,z=w.heap.size+1:=⟨_,rfl⟩
 obtain⟨w0,ar⟩:∃z,z=w.alloc (.cells #[.slice none 0 0,.slice none 0 0,.slice none 0 0] 30):=⟨_,rfl⟩
 have bu:aa w w0:=by rw[ar];exact ae _ (ad _)
 have eu:w0.heap.size=B:=by rw[ar,te];simp
 have fG:bA w0 w.heap.size (.slice none 0 0) (.slice none 0 0) (.slice none 0 0):=by
  rw[ar];show(w.heap.push _)[w.heap.size]?=_
  rw[Array.getElem?_push_size]
 have eY:=zh fG;have f6:=zh bu;have cS:=zh ar;have fL:=zh te;have gh:=zh eu;have xi:=zh (hc.since bu);clear fG bu ar hc te eu
 go_enter Tryz.func122,Tryz.ntmps122
 go_upto_region 1 with(fail);rw[<- cS.out];go_wp2_with fail;refine(AB cb A L c P most M w0 xi.out (by omega) pT nh hM).mono ?_;rintro e w1 ⟨QD,QE,QF,N0,S0,rfl,ho,⟨yu,nK⟩,jc,ky⟩;rw[gh.out]at ho ky;obtain⟨m,kA⟩:∃m,N0.ends.length=m:=⟨_,rfl⟩
 have Vr:m<=M:=by rw[<- kA];exact yu.ends
 have XC:0<m:=by omega
 obtain⟨A1,c1,rfl,-,vN,-⟩:=id ho.read.1;obtain⟨AI,cI,rfl,-,-,-⟩:=id ho.read.2.1;obtain⟨AN,cN,rfl,-,-,-⟩:=id ho.read.2.2;obtain⟨w3,gZ⟩:∃z,z=w1.alloc (.cells #[.slice A1 N0.ends.length c1,.slice AI N0.ids.length cI,.slice AN N0.ac1.length cN] 30):=⟨_,rfl⟩
 obtain⟨pb,da⟩:∃z,z=w1.heap.size:=⟨_,rfl⟩
 have Gs:aa w1 w3:=by rw[gZ];exact ae _ (ad _)
 have eA:B<=w1.heap.size:=by rw[<- gh.out];exact ky.size
 have qm:Mb cb B pb A L c (P+72057594037927936) w0 w3 (.slice A1 N0.ends.length c1) (.slice AI N0.ids.length cI) (.slice AN N0.ac1.length cN) N0 S0:=
  ⟨ho.ac2 Gs.below,by rw[gZ,da];exact aZ.new _ _ _ _ _,fun hj=>by have:=(ho.range _ hj).2;omega,jc.since Gs,ky.trans ((CB.of Gs).mono eA)⟩
 have tT:=zh qm
 have cB:Hid (B<=pb/\pb<w3.heap.size):=⟨by rw[da];exact eA,by rw[gZ,da];simp⟩
 have wO:=zh gZ;have tf:=zh da;have Jw:=zh yu;have Td:=zh kA;have dj:=qm.box.cells.1
 have kC:cb<B:=by have:=fL.out;omega
 have iM:pb≠cb:=by have:=cB.out;omega
 rw[kA]at dj;have m0:IntKind.i64.wrap (1+(m:Int))=1+(m:Int):=aE _ (by omega) (by omega);clear qm gZ da yu kA ho Gs nK eA jc ky;go_upto_region 2 with(fail);rw[<- wO.out,<- tf.out];go_wp2_with fail;refine(db cb A L c _ (1+(m:Int)) w3 tT.out.cur (by omega) (by omega)).mono ?_;rintro e w4 ⟨x4,rfl,hx4,jd,j_⟩;have Te:x4<=m:=by omega
 have xk:=zh (tT.out.seen j_ jd kC cB.out.1 (by have:=cB.out;omega))
 have tW:Hid (B<=w4.heap.size):=by show _<=_;have:=cB.out;have:=j_.size;omega
 clear jd j_ dj hx4;go_upto_region 3 with(fail);obtain⟨Q,hQ⟩:∃z,z=P+72057594037927936+2:=⟨_,rfl⟩
 have HQ:Hid (Q=P+72057594037927936+2):=hQ;rw[<- hQ]at xk;clear hQ
 go_loopw [6] (fun i wr=>∃(k:Nat) (ve vi vn:Value) (N:aw) (S:List Nat),k<=m/\i=.int .i64 k/\Mb cb B pb A L c (Q+4*(m-k)) w0 wr ve vi vn N S/\Gd 100 M N/\N.ends.length=m/\B<=wr.heap.size) (fun i _=>(intOf i).toNat)
 case atStart=>exact⟨x4,_,_,_,N0,S0,Te,rfl,⟨xk.out.own,xk.out.box,xk.out.nb,xk.out.cur.mono (by omega),xk.out.far⟩,Jw.out,Td.out,tW.out⟩
 case round=>
  obtain⟨k,ve,vi,vn,N,S2,hk,rfl,hm,iz,kA,eR⟩:=hrel;obtain⟨Bl,jn,rfl,-,OO,-⟩:=id hm.own.read.1;obtain⟨oI,oJ,rfl,-,-,-⟩:=id hm.own.read.2.1;obtain⟨tU,qZ,rfl,-,-,-⟩:=id hm.own.read.2.2;obtain⟨g,rfl,-⟩:=hm.own.head (by omega);have Hm:=zh hm;have nf:=zh iz;have f8:=zh kA;have jw:=zh eR;clear hm iz kA eR
  by_cases aH:0<k
  ·have e0:((0:Int)<(k:Int))=True:=by simp;omega
   have m4:IntKind.i64.wrap ((k:Int)-1)=(k:Int)-1:=aE _ (by omega) (by omega)
   have rP:=zh (show wr.cell? ⟨pb,0,none⟩=some (.slice (some ⟨g,0,none⟩) m jn)from by obtain⟨a,-⟩:=Hm.out.box.cells;rw[f8.out]at a;exact a)
   obtain⟨wo,rfl⟩:∃z,z=wr:=⟨_,rfl⟩
   go_upto_region 5 with(fail);refine av (fun W=>W.cell? ⟨pb,0,none⟩=some (.slice (some ⟨g,0,none⟩) m jn)) 10 [false,false,false,false,true,false,false,false,false,true] (by kernel_rfl) (by kernel_rfl) (show(World.drew wo).cell? ⟨pb,0,none⟩=some (.slice (some ⟨g,0,none⟩) m jn)from rP.out) ?_
   simp only[ek,dD,zT]
   iterate 8 (apply bh rfl;(intro W hW;(have k0:=hW);go_simp;with_reducible rfl);simp only[zA])
   obtain⟨W,cA⟩:∃W,W=World.drew wo:=⟨_,rfl⟩
   rw[<- cA];have hW:=(show(World.drew wo).cell? ⟨pb,0,none⟩=some (.slice (some ⟨g,0,none⟩) m jn)from rP.out);rw[<- cA]at hW;have eU:=zh cA;clear cA;refine Or.inl ⟨rfl,?_⟩
   go_simp
   (with_reducible refine(db cb A L c (Q+4*(m-k)) (m:Int) W (by rw[eU.out];exact Hm.out.cur.since (ag (ad _))) (by have:=HQ.out;omega) (by omega)).mono ?_)
   rintro e W' ⟨a,rfl,ha,df,hC⟩;refine⟨_,rfl,aq hW iM _ hC,?_⟩
   replace hW:=aq hW iM _ hC
   have kh:aa wo W:=(by rw[eU.out];exact ag (ad _))
   have ux:=zh (((aY.refl cb wo).after kh).trans hC);have i_:=zh df;have Ha:=zh ha;clear hC df kh ha;obtain⟨wp,rfl⟩:∃z,z=W':=⟨_,rfl⟩
   (try simp only[zA])
   refine Or.inl ⟨rfl,?_⟩
   go_simp
   (with_reducible refine(db cb A L c (Q+4*(m-k)+2) (m:Int) _ i_.out (by have:=HQ.out;omega) (by omega)).mono ?_)
   rintro e W' ⟨b,rfl,hb,df,hC⟩;refine⟨_,rfl,aq hW iM _ hC,?_⟩
   replace hW:=aq hW iM _ hC
   have iO:=zh (Hm.out.seen (ux.out.trans hC) df kC cB.out.1 jw.out);have tg:Hid (B<=W'.heap.size):=Nat.le_trans jw.out (ux.out.trans hC).size;clear hC df
   (try simp only[zA])
   simp only[bj]
   have QH:a<m:=by have:=Ha.out;omega
   have Es:b<m:=by omega
   clear hb;obtain⟨w5,rfl⟩:∃z,z=W':=⟨_,rfl⟩
   have Hx0:=zh hW;clear hW;obtain⟨xa,Ff⟩:∃z,z=be N a:=⟨_,rfl⟩
   obtain⟨xb,Fg⟩:∃z,z=be N b:=⟨_,rfl⟩
   have DC:=bK (n:=N) (v:=a) (by have:=f8.out;omega)
   have uQ:=bK (n:=N) (v:=b) (by have:=f8.out;omega)
   rw[<- Ff]at DC;rw[<- Fg]at uQ;have EO:xa.length<=100:=nf.out.row _ _ DC;have gX:xb.length<=100:=nf.out.row _ _ uQ;obtain⟨ua,Ta,Tf,-,QJ,-,-,-⟩:=iO.out.own.ac_ DC;obtain⟨AUa,cUa,rfl,-,-,-⟩:=id QJ.read;obtain⟨ub,Tb,Lt,-,Kr,-,-,-⟩:=iO.out.own.ac_ uQ;obtain⟨AUb,cUb,rfl,-,-,-⟩:=id Kr.read;have OR:=zh Ff;have Tg:=zh Fg;have Hxa:=zh DC;have pa:=ab Tf;have pq:=ab Lt;have p0:=ab Hx0.out;have p1:=ab iO.out.box.cells.2.1;have p2:=ab iO.out.box.cells.2.2.1
   have KO:Hid (aU w5 (.slice (some ⟨g,0,none⟩) m jn) (.slice oI N.ids.length oJ) (.slice tU N.ac1.length qZ) N):=by show aU _ _ _ _ _;have h9:=iO.out.own.read;rw[f8.out]at h9;exact h9
   clear Ff Fg DC uQ QJ Kr Tf Lt
   by_cases qe:a=b
   ·have e1:((a:Int)=(b:Int))=True:=by simp;omega
    have q0:=p0 w5 (ad _);clear p0 p1 p2 pa pq;go_wp2;go_roundw
    case rel=>exact⟨k-1,_,_,_,N,S2,by omega,by rw[show((k-1:Nat):Int)=(k:Int)-1 by omega],(⟨iO.out.own,iO.out.box,iO.out.nb,iO.out.cur.mono (by omega),iO.out.far⟩),nf.out,f8.out,tg.out⟩
    case measure=>simp[intOf];omega
   ·have e1:((a:Int)=(b:Int))=False:=by simp;omega
    have q0:=p0 w5 (ad _);have q1:=p1 w5 (ad _);have q2:=p2 w5 (ad _);go_wp2_with fail;refine(Eb _ _ _ N a xa w5 KO.out Hxa.out (by omega)).mono ?_;rintro e w6 ⟨u6,rfl,cJ,th⟩;have ut:aa w5 w6:=th;have nS:=zh (iO.out.since ut kC cB.out.1 tg.out);have yx:Hid (B<=w6.heap.size):=Nat.le_trans tg.out ut.below.size;obtain⟨A6,c6,rfl,-,-,-⟩:=id cJ.ints;have Gt:=zh cJ;clear cJ q0 q1 q2;go_wp2_with fail
    refine(sI _ (xa.map (·.1)) (b:Int) w6 (by have h9:=Gt.out.ints;rw[List.length_map]at h9;exact h9)).mono ?_
    rintro e w7 ⟨rfl,pB⟩;subst pB;have q0:=p0 w6 ut;have q1:=p1 w6 ut;have q2:=p2 w6 ut;have qa:=pa w6 ut;have qb:=pq w6 ut;clear p0 p1 p2 pa pq ut th;cases hh:pN (xa.map (·.1)) (b:Int)
    ·by_cases h5:xa.length<5
     ·have e5:((xa.length:Int)<5)=True:=by simp;omega
      by_cases h6:xb.length<5
      ·have e6:((xb.length:Int)<5)=True:=by simp;omega
       go_wp2_with fail
       refine(jC _ _ _ N a b w6 (by have h9:=nS.out.own.read;rw[f8.out]at h9;exact h9) (by rw[f8.out];exact QH) (by rw[f8.out];exact Es) ((nf.out.mono (R':=100) (M':=40) (by omega) hM).small (by omega) (by omega))).mono ?_
       rintro e w8 ⟨Nx,Ny,Nz,S3,rfl,dW,bJ⟩;have lG:aa w6 w8:=bJ;obtain⟨D0,d0,rfl,-,-,-⟩:=id dW.read.1;obtain⟨D1,d1,rfl,-,-,-⟩:=id dW.read.2.1;obtain⟨D2,d2,rfl,-,-,-⟩:=id dW.read.2.2;have C1:=nS.out.assign (CB.of lG) (nS.out.cur.since lG) dW nS.out.box.lt kC cB.out.1 yx.out;clear q0 q1 q2 qa qb;obtain⟨k0,k1,k2,f0,f1,f2⟩:=(nS.out.box.below lG nS.out.box.lt).cells;have nu:=zh C1
       have oK:B<=(ac5 w8 pb (.slice D0 (dC N a b).ends.length d0) (.slice D1 (dC N a b).ids.length d1) (.slice D2 (dC N a b).ac1.length d2)).heap.size:=by rw[dV];exact Nat.le_trans yx.out lG.below.size
       have xg:=zh oK
       have Li:=zh (nf.out.adw (v:=a) (u:=b) (by rw[f8.out];exact QH) (by rw[f8.out];exact Es) qe (by rw[<- OR.out];omega) (by rw[<- Tg.out];omega) (by omega))
       have Ll:=zh ((dU N a b).trans f8.out);clear C1 dW bJ lG oK;go_wp2;go_roundw
       case rel=>exact⟨k-1,_,_,_,dC N a b,S3,by omega,by rw[show((k-1:Nat):Int)=(k:Int)-1 by omega],⟨nu.out.own,nu.out.box,nu.out.nb,nu.out.cur.mono (by omega),nu.out.far⟩,Li.out,Ll.out,xg.out⟩
       case measure=>simp[intOf];omega
      ·have e6:((xb.length:Int)<5)=False:=by simp;omega
       go_wp2;go_roundw
       case rel=>exact⟨k-1,_,_,_,N,S2,by omega,by rw[show((k-1:Nat):Int)=(k:Int)-1 by omega],(⟨nS.out.own,nS.out.box,nS.out.nb,nS.out.cur.mono (by omega),nS.out.far⟩),nf.out,f8.out,yx.out⟩
       case measure=>simp[intOf];omega
     ·have e5:((xa.length:Int)<5)=False:=by simp;omega
      go_wp2;go_roundw
      case rel=>exact⟨k-1,_,_,_,N,S2,by omega,by rw[show((k-1:Nat):Int)=(k:Int)-1 by omega],(⟨nS.out.own,nS.out.box,nS.out.nb,nS.out.cur.mono (by omega),nS.out.far⟩),nf.out,f8.out,yx.out⟩
      case measure=>simp[intOf];omega
    ·go_wp2;go_roundw
     case rel=>exact⟨k-1,_,_,_,N,S2,by omega,by rw[show((k-1:Nat):Int)=(k:Int)-1 by omega],(⟨nS.out.own,nS.out.box,nS.out.nb,nS.out.cur.mono (by omega),nS.out.far⟩),nf.out,f8.out,yx.out⟩
     case measure=>simp[intOf];omega
  ·obtain rfl:k=0:=by omega
   obtain⟨k0,k1,k2,-,-,-⟩:=Hm.out.box.cells;have yv:=nf;have gK:=Hm;have kB:=jw;obtain⟨w5,rfl⟩:∃z,z=wr:=⟨_,rfl⟩
   go_upto_region 8 with(fail);go_wp2_with fail
   refine(rW cb A L c _ B 100 M _ _ _ N S2 w5 gK.out.cur (by have:=HQ.out;omega) gK.out.own kC kB.out yv.out (by omega) (by omega) (by have:=f8.out;omega)).mono ?_
   rintro e w6 ⟨BC,BE,BF,N6,S6,rfl,cJ,⟨rY,iw⟩,eh,ix⟩;obtain⟨D0,d0,rfl,-,-,-⟩:=id cJ.read.1;obtain⟨D1,d1,rfl,-,-,-⟩:=id cJ.read.2.1;obtain⟨D2,d2,rfl,-,-,-⟩:=id cJ.read.2.2;have bi:=(gK.out.far.mono (Nat.le_refl B)).trans ix
   have eK:=bi.adb eY.out (by have:=fL.out;omega) (by omega)
   obtain⟨e0,e1,e2,f0,f1,f2⟩:=eK.box.cells;have aC:=cJ;rw[fL.out]at aC bi;have cK:=zh (d_ f6.out aC eh bi ia);have xj:=zh rY;have zu:=zh iw;clear bi eK aC rY iw eh ix cJ k0 k1 k2;go_wp2;refine bodyPost_ret (v:=.agg #[.slice D0 N6.ends.length d0,.slice D1 N6.ids.length d1,.slice D2 N6.ac1.length d2]) (by simp[results,Tryz.results122,go_sem, *]) rfl ?_;obtain⟨r1,r2,r3⟩:=cK.out
   exact⟨_,_,_,N6,S6,rfl,r1,⟨zu.out.mono (by omega) (Nat.le_refl _),by have:=f8.out;have:=xj.out.len;omega⟩,r2.mono (by have:=HQ.out;omega),r3⟩
theorem au.adm {w w':World} {base:Nat} {ve vi vn vi':Value} {N:aw} {S T:List Nat} {ids':List Int} (h:au w base ve vi vn N S) (ho:kR w' base vi' ids' T) (ey:aR vi.ownBlock.toList w w') (hT:∀j∈T,j∈vi.ownBlock.toList\/w.heap.size<=j):
  ∃S',au w' base ve vi' vn { N with ids:=ids' } S'/\∀j∈S',j∈S\/w.heap.size<=j:=by
 have NN:=h.range;obtain⟨S1,S2,S3,h1,h2,h3,h4,h5⟩:=h;have e2:S2=vi.ownBlock.toList:=h2.2;rw[<- e2]at ey hT;have rm:=h5;rw[h4,List.nodup_append,List.nodup_append]at h5;obtain⟨n1,⟨n2,n3,d23⟩,d1⟩:=h5
 have m1:∀j∈S1,j∈S:=fun j hj=>by rw[h4];exact List.mem_append_left _ hj
 have m2:∀j∈S2,j∈S:=fun j hj=>by rw[h4];exact List.mem_append_right _ (List.mem_append_left _ hj)
 have m3:∀j∈S3,j∈S:=fun j hj=>by rw[h4];exact List.mem_append_right _ (List.mem_append_right _ hj)
 have x1:∀j∈S1,j∉S2:=fun j hj hk=>d1 j hj j (List.mem_append_left _ hk) rfl
 have x3:∀j∈S3,j∉S2:=fun j hj hk=>d23 j hk j hj rfl
 have t1:∀j∈S1,j∉T:=fun j hj hk=>by
  rcases hT j hk with h | h
  ·exact x1 j hj h
  ·have:=(NN j (m1 j hj)).2;omega
 have t3:∀j∈S3,j∉T:=fun j hj hk=>by
  rcases hT j hk with h | h
  ·exact x3 j hj h
  ·have:=(NN j (m3 j hj)).2;omega
 refine⟨S1++(T++S3),⟨S1,T,S3,kQ.only h1 ey x1,ho,er.only h3 ey x3,rfl,?_⟩,?_⟩
 ·rw[List.nodup_append,List.nodup_append];refine⟨n1,⟨er.nodup ho,n3,fun a ha b hb e=>t3 b hb (e ▸ ha)⟩,fun a ha b hb e=>?_⟩
  rcases List.mem_append.1 hb with hb | hb
  ·exact t1 a ha (e ▸ hb)
  ·exact d1 a ha b (List.mem_append_right _ hb) e
 ·intro j hj;rcases List.mem_append.1 hj with hj | hj
  ·exact .inl (m1 j hj)
  ·rcases List.mem_append.1 hj with hj | hj
   ·rcases hT j hj with h | h
    ·exact .inl (m2 j h)
    ·exact .inr h
   ·exact .inl (m3 j hj)
theorem au.adv {w w':World} {base:Nat} {ve vi vn OS:Value} {N:aw} {S T:List Nat} {QK:List Int} (h:au w base ve vi vn N S) (ho:kR w' base OS QK T) (ey:aR vn.ownBlock.toList w w') (hT:∀j∈T,j∈vn.ownBlock.toList\/w.heap.size<=j):
  ∃S',au w' base ve vi OS { N with ac1:=QK } S'/\∀j∈S',j∈S\/w.heap.size<=j:=by
 have NN:=h.range;obtain⟨S1,S2,S3,h1,h2,h3,h4,h5⟩:=h;have e3:S3=vn.ownBlock.toList:=h3.2;rw[<- e3]at ey hT;rw[h4,List.nodup_append,List.nodup_append]at h5;obtain⟨n1,⟨n2,n3,d23⟩,d1⟩:=h5
 have m1:∀j∈S1,j∈S:=fun j hj=>by rw[h4];exact List.mem_append_left _ hj
 have m2:∀j∈S2,j∈S:=fun j hj=>by rw[h4];exact List.mem_append_right _ (List.mem_append_left _ hj)
 have m3:∀j∈S3,j∈S:=fun j hj=>by rw[h4];exact List.mem_append_right _ (List.mem_append_right _ hj)
 have x1:∀j∈S1,j∉S3:=fun j hj hk=>d1 j hj j (List.mem_append_right _ hk) rfl
 have x2:∀j∈S2,j∉S3:=fun j hj hk=>d23 j hj j hk rfl
 have t1:∀j∈S1,j∉T:=fun j hj hk=>by
  rcases hT j hk with h | h
  ·exact x1 j hj h
  ·have:=(NN j (m1 j hj)).2;omega
 have t2:∀j∈S2,j∉T:=fun j hj hk=>by
  rcases hT j hk with h | h
  ·exact x2 j hj h
  ·have:=(NN j (m2 j hj)).2;omega
 refine⟨S1++(S2++T),⟨S1,S2,T,kQ.only h1 ey x1,er.only h2 ey x2,ho,rfl,?_⟩,?_⟩
 ·rw[List.nodup_append,List.nodup_append];refine⟨n1,⟨n2,er.nodup ho,fun a ha b hb e=>t2 a ha (e ▸ hb)⟩,fun a ha b hb e=>?_⟩
  rcases List.mem_append.1 hb with hb | hb
  ·exact d1 a ha b (List.mem_append_left _ hb) e
  ·exact t1 a ha (e ▸ hb)
 ·intro j hj;rcases List.mem_append.1 hj with hj | hj
  ·exact .inl (m1 j hj)
  ·rcases List.mem_append.1 hj with hj | hj
   ·exact .inl (m2 j hj)
   ·rcases hT j hj with h | h
    ·exact .inl (m3 j h)
    ·exact .inr h
def gj (k:Nat) (e:Int×Int):Int×Int:=(e.1+(k:Int),e.2)
def gY (a b:aw):aw:=⟨a.ends++b.ends.map (List.map (gj a.ends.length)),a.ids++b.ids,a.ac1++b.ac1⟩
theorem Gd.union {R M M':Nat} {a b:aw} (ha:Gd R M a) (hb:Gd R M' b):Gd R (M+M') (gY a b):=by
 have hl:(gY a b).ends.length=a.ends.length+b.ends.length:=by simp[gY]
 have aD:∀(k:Nat) (es:List (Int×Int)),(gY a b).ends[k]?=some es->(k<a.ends.length/\a.ends[k]?=some es)\/(∃fs,b.ends[k-a.ends.length]?=some fs/\es=fs.map (gj a.ends.length)/\a.ends.length<=k):=fun k es h=>by
  unfold gY at h;rcases Nat.lt_or_ge k a.ends.length with hk | hk
  ·left;exact⟨hk,by simpa[List.getElem?_append_left hk]using h⟩
  ·right
   simp only[List.getElem?_append_right hk,List.getElem?_map]at h
   cases hf:b.ends[k-a.ends.length]? with
   | none=>rw[hf]at h;simp at h
   | some fs=>rw[hf]at h;simp at h;exact⟨fs,rfl,h.symm,hk⟩
 refine⟨by have:=ha.ends;have:=hb.ends;omega,fun k es h=>?_,by simp only[gY,List.length_append];have:=ha.ids;have:=hb.ids;omega,by rw[hl];simp only[gY,List.length_append];rw[ha.ac1,hb.ac1],fun k es h e he=>?_⟩
 ·rcases aD k es h with⟨-,h1⟩ | ⟨fs,h1,rfl,-⟩
  ·exact ha.row k es h1
  ·rw[List.length_map];exact hb.row _ fs h1
 ·rcases aD k es h with⟨-,h1⟩ | ⟨fs,h1,rfl,-⟩
  ·obtain⟨x,y,gs,q1,q2,q3⟩:=ha.wf k es h1 e he;refine⟨x,y,gs,q1,?_,q3⟩;unfold gY;simp only[];rw[List.getElem?_append_left (al q2)];exact q2
  ·obtain⟨e0,h2,rfl⟩:=List.mem_map.1 he;obtain⟨x,y,gs,rfl,q2,q3⟩:=hb.wf _ fs h1 e0 h2
   refine⟨x+a.ends.length,y,gs.map (gj a.ends.length),by simp[gj],?_,by rw[List.length_map];exact q3⟩
   unfold gY;simp only[];rw[List.getElem?_append_right (by omega),Nat.add_sub_cancel,List.getElem?_map,q2];rfl
theorem jE {w:World} {ops:Array Oper} {rest:List Oper} {o:Oper} {a:Act} {Q:Exit->Act->World->Prop} (iz:o.guard=none) (s x:Operand)
  (ho:o.op=.call { callee:=.builtin .append,args:=#[s,x],argTypes:=#[28,28] }) {base:Nat} {v u:Value} {xs ys:List Int} (hs:a.eval s=v) (h:Own w base v xs) (hx:a.eval x=u) (hu:bO w u ys) (hl:xs.length+ys.length<=17592186044416) (iB:base<=w.heap.size)
  (k:∀v' w' T,kR w' base v' (xs++ys) T->aR v.ownBlock.toList w w'->(∀j∈T,j∈v.ownBlock.toList\/w.heap.size<=j)->wpList Tryz.prog ops Q rest (a.put o.dst v') w'):wpList Tryz.prog ops Q (o::rest) a w:=by
 obtain⟨A,c,rfl,f_,hm,hA⟩:=hu;rcases Nat.eq_zero_or_pos ys.length with h0 | h0
 ·obtain rfl:ys=[]:=List.eq_nil_of_length_eq_zero h0
  refine y6 iz s x ho hs h A c hx ?_;exact k v w _ ⟨by simpa using h,rfl⟩ (aR.refl _ _) (fun j hj=>.inl hj)
 ·obtain⟨y0,Jl⟩:=ay ys 0 h0;obtain⟨b,off,rfl,_⟩:=hA 0 y0 Jl
  refine B5 iz s x ho hs h b off c ys hx (fun j y hj=>by
   obtain⟨b',md,e,hc⟩:=hA j y hj;cases e
   exact hc) h0 hl iB ?_
  intro g cap w' h1 h2 h3 h4;refine k _ w' [g] ⟨h1,by simp[Value.ownBlock]⟩ (aR.ac9 h2) (fun j hj=>?_)
  simp at hj
  subst hj;rcases h3 with h3 | h3
  ·left;rw[h3];simp
  ·right;omega
theorem C8 (ve vi vn ue ui un:Value) (a b:aw) (w:World) (h:aU w ve vi vn a) (h':aU w ue ui un b) (ha:qP a) (hb:qP b) (OL:Nw b):
  Calls Tryz.prog 104 #[.agg #[ve,vi,vn],.agg #[ue,ui,un]] w (qu w (gY a b)):=by
 obtain⟨A1,c1,rfl,xW,vN,-⟩:=id h.1;obtain⟨AI,cI,rfl,-,-,-⟩:=id h.2.1;obtain⟨AN,cN,rfl,-,-,-⟩:=id h.2.2;obtain⟨B1,d1,rfl,zO,fq,-⟩:=id h'.1;obtain⟨BI,dI,rfl,-,-,-⟩:=id h'.2.1;obtain⟨BN,dN,rfl,-,-,-⟩:=id h'.2.2;unfold maxLen at vN fq;obtain⟨w0,ar⟩:∃z,z=(w.alloc (.cells #[.slice A1 a.ends.length c1,.slice AI a.ids.length cI,.slice AN a.ac1.length cN] 30)).alloc (.cells #[.slice B1 b.ends.length d1,.slice BI b.ids.length dI,.slice BN b.ac1.length dN] 30):=⟨_,rfl⟩
 obtain⟨wa,iY⟩:∃z,z=w0.alloc (.cells #[.slice none 0 0,.slice none 0 0,.slice none 0 0] 30):=⟨_,rfl⟩
 have bu:aa w w0:=by rw[ar];exact ae _ (ae _ (ad _))
 have ju:aa w0 wa:=by rw[iY];exact ae _ (ad _)
 have ll:w0.heap.size=w.heap.size+1+1:=by rw[ar];simp
 have p0:∀W,aa w0 W->W.cell? ⟨w.heap.size,0,none⟩=some (.slice A1 a.ends.length c1):=ab (by rw[ar];simp)
 have p1:∀W,aa w0 W->W.cell? ⟨w.heap.size,1,none⟩=some (.slice AI a.ids.length cI):=ab (by rw[ar];simp)
 have p2:∀W,aa w0 W->W.cell? ⟨w.heap.size,2,none⟩=some (.slice AN a.ac1.length cN):=ab (by rw[ar];simp)
 have q0:∀W,aa w0 W->W.cell? ⟨w.heap.size+1,0,none⟩=some (.slice B1 b.ends.length d1):=ab (by rw[ar];simp)
 have q1:∀W,aa w0 W->W.cell? ⟨w.heap.size+1,1,none⟩=some (.slice BI b.ids.length dI):=ab (by rw[ar];simp)
 have q2:∀W,aa w0 W->W.cell? ⟨w.heap.size+1,2,none⟩=some (.slice BN b.ac1.length dN):=ab (by rw[ar];simp)
 have HA:=zh (show ∀X,aa w0 X->aU X (.slice A1 a.ends.length c1) (.slice AI a.ids.length cI) (.slice AN a.ac1.length cN) a from fun X hX=>h.ac2 (bu.after hX).below)
 have HB:=zh (show ∀X,aa w0 X->aU X (.slice B1 b.ends.length d1) (.slice BI b.ids.length dI) (.slice BN b.ac1.length dN) b from fun X hX=>h'.ac2 (bu.after hX).below)
 have uq:Hid (∀X,aa wa X->bA X (w.heap.size+1+1) (.slice none 0 0) (.slice none 0 0) (.slice none 0 0)):=fun X hX=>by
  refine bA.since (W:=wa) ?_ hX;rw[iY,<- ll];show(w0.heap.push _)[w0.heap.size]?=_
  rw[Array.getElem?_push_size]
 have tL:Hid (wa.heap.size=w.heap.size+1+1+1):=by show _=_;rw[iY,<- ll];simp
 have cS:=zh ar;have Al:=zh iY;have f6:=zh bu;have mA:=zh ju;have pR:=zh ha;have vO:=zh hb;have Hwf:=zh OL;clear OL;clear ar bu h h' iY ju ll ha hb
 go_enter Tryz.func104,Tryz.ntmps104
 go_upto_region 1 with(fail);rw[<- cS.out,<- Al.out];have a0:=p0 wa mA.out;have a1:=p1 wa mA.out;have a2:=p2 wa mA.out;go_wp2_with fail;refine(kF _ _ _ a wa (HA.out wa mA.out) pR.out.ends pR.out.row pR.out.sz).mono ?_;rintro e w1 ⟨we,wi,wn,S,rfl,ho,aX⟩;obtain⟨E1,e1,rfl,-,-,-⟩:=id ho.read.1;obtain⟨EI,eI,rfl,-,-,-⟩:=id ho.read.2.1;obtain⟨EN,eN,rfl,-,-,-⟩:=id ho.read.2.2;obtain⟨w2,eH⟩:∃z,z=w1.alloc (.cells #[.slice E1 a.ends.length e1,.slice EI a.ids.length eI,.slice EN a.ac1.length eN] 30):=⟨_,rfl⟩
 obtain⟨bo,jx⟩:∃z,z=w1.heap.size:=⟨_,rfl⟩
 have dw:aa wa w1:=aX
 have ko:aa w1 w2:=by rw[eH];exact ae _ (ad _)
 have EG:aZ w2 bo (.slice E1 a.ends.length e1) (.slice EI a.ids.length eI) (.slice EN a.ac1.length eN):=by rw[eH,jx];exact aZ.new _ _ _ _ _
 have Iv:bo∉S:=fun hj=>by have:=(ho.range _ hj).2;omega
 have py:=zh eH;have rL:=zh jx;have tM:=zh (ho.ac2 ko.below);have np:=zh EG;have qE:=zh Iv;have gn:=zh (dw.after ko);have yy:aa w0 w2:=mA.out.after gn.out;have b1:=q1 w2 yy;have OT:=zh yy
 have CU:Hid (wa.heap.size<=bo/\bo<w2.heap.size):=⟨by rw[jx];exact dw.below.size,by rw[eH,jx];simp⟩
 obtain⟨k0,k1,k2,f0,f1,f2⟩:=EG.cells;clear eH jx ho EG Iv dw ko aX a0 a1 a2 yy;go_upto_region 2 with(fail);rw[<- py.out,<- rL.out];obtain⟨S1,S2,S3,-,tZ,-,uW,-⟩:=id tM.out;have Hi2:=zh tZ;have qB:=zh uW;clear tZ uW
 have QL:a.ids.length+b.ids.length<=17592186044416:=by have h1:=pR.out.sz;have h2:=vO.out.sz;unfold gO at h1 h2;omega
 have tz:a.ac1.length+b.ac1.length<=17592186044416:=by have h1:=pR.out.sz;have h2:=vO.out.sz;unfold gO at h1 h2;omega
 have On:=zh QL;have Ll:=zh tz;clear QL tz
 have aa1:Hid (bo∉(Value.slice EI a.ids.length eI).ownBlock.toList):=fun hm=>qE.out (by rw[qB.out];rw[<- Hi2.out.2]at hm;exact List.mem_append_right _ (List.mem_append_left _ hm))
 go_upto_region 3 with(at_builtin;refine jE (base:=wa.heap.size) rfl _ _ rfl rfl Hi2.out.1 rfl (HB.out w2 OT.out).2.1 On.out gn.out.below.size ?_;intro v' w3 T iH EL WX;obtain⟨V,mV,cV,rfl⟩:=er.one iH;have DF:aZ w3 bo (.slice E1 a.ends.length e1) (.slice EI a.ids.length eI) (.slice EN a.ac1.length eN):=np.out.blk (EL.block bo CU.out.2 aa1.out);clear k0 k1 k2 f0 f1 f2;obtain⟨k0,k1,k2,f0,f1,f2⟩:=DF.cells)
 obtain⟨w4,mu⟩:∃z,z=w3.setCell ⟨bo,1,none⟩ (.slice V mV cV):=⟨_,rfl⟩
 rw[<- mu];obtain⟨S',IP,Ai⟩:=tM.out.adm iH EL WX
 have hn4:bo∉S':=fun hj=>by
  rcases Ai _ hj with h | h
  ·exact qE.out h
  ·have:=CU.out;omega
 have Iu:Hid (au w4 wa.heap.size (.slice E1 a.ends.length e1) (.slice V mV cV) (.slice EN a.ac1.length eN) { a with ids:=a.ids++b.ids } S'):=by show au _ _ _ _ _ _ _;rw[mu];exact IP.ac4 (fun k hk=>Below.heap_setCell _ _ _ _ (fun e=>hn4 (by have e':k=bo:=e;exact e' ▸ hk)))
 have Eo:Hid (aZ w4 bo (.slice E1 a.ends.length e1) (.slice V mV cV) (.slice EN a.ac1.length eN)):=by show aZ _ _ _ _ _;rw[mu];exact DF.adr
 have WT:=zh hn4
 have qk:Hid (aa wa w4):=by
  show Below _ _ _
  rw[mu];refine Below.setCell (Below.trans gn.out (EL.below _ gn.out.below.size (fun j hj=>?_))) CU.out.1 _
  have uF:j∈S2:=by rw[Hi2.out.2];exact hj
  exact(tM.out.range j (by rw[qB.out];exact List.mem_append_right _ (List.mem_append_left _ uF))).1
 have XG:bo<w4.heap.size:=Eo.out.lt;obtain⟨NL,S2',S3',-,-,hi3,XH,-⟩:=id Iu.out;have Hi3:=zh hi3;have BH:=zh XH;have XI:=zh XG;have XJ:=zh (mA.out.after qk.out)
 have aa2:Hid (bo∉(Value.slice EN a.ac1.length eN).ownBlock.toList):=fun hm=>WT.out (by rw[BH.out];rw[<- Hi3.out.2]at hm;exact List.mem_append_right _ (List.mem_append_right _ hm))
 clear mu IP Ai hn4 DF iH EL WX k0 k1 k2 f0 f1 f2 hi3 XH XG;have b2:=q2 w4 XJ.out;obtain⟨k0,k1,k2,f0,f1,f2⟩:=Eo.out.cells;clear b1
 go_upto_region 4 with(at_builtin;refine jE (base:=wa.heap.size) rfl _ _ rfl rfl Hi3.out.1 rfl (HB.out w4 XJ.out).2.2 Ll.out qk.out.below.size ?_;intro v' w5 T5 qo OU hT5;obtain⟨V5,QM,QO,rfl⟩:=er.one qo;have hB5:aZ w5 bo (.slice E1 a.ends.length e1) (.slice V mV cV) (.slice EN a.ac1.length eN):=Eo.out.blk (OU.block bo XI.out aa2.out);clear k0 k1 k2 f0 f1 f2;obtain⟨k0,k1,k2,f0,f1,f2⟩:=hB5.cells)
 obtain⟨w6,OV⟩:∃z,z=w5.setCell ⟨bo,2,none⟩ (.slice V5 QM QO):=⟨_,rfl⟩
 rw[<- OV];obtain⟨S6,IP,Ai⟩:=Iu.out.adv qo OU hT5
 have jU:bo∉S6:=fun hj=>by
  rcases Ai _ hj with h | h
  ·exact WT.out h
  ·have:=XI.out;omega
 have XK:Hid (au w6 wa.heap.size (.slice E1 a.ends.length e1) (.slice V mV cV) (.slice V5 QM QO) { a with ids:=a.ids++b.ids,ac1:=a.ac1++b.ac1 } S6):=by show au _ _ _ _ _ _ _;rw[OV];exact IP.ac4 (fun k hk=>Below.heap_setCell _ _ _ _ (fun e=>jU (by have e':k=bo:=e;exact e' ▸ hk)))
 have Kt:Hid (aZ w6 bo (.slice E1 a.ends.length e1) (.slice V mV cV) (.slice V5 QM QO)):=by show aZ _ _ _ _ _;rw[OV];exact hB5.adn
 have HN6:=zh jU
 have Gu:Hid (aa wa w6):=by
  show Below _ _ _
  rw[OV];refine Below.setCell (Below.trans qk.out (OU.below _ qk.out.below.size (fun j hj=>?_))) CU.out.1 _
  have uF:j∈S3':=by rw[Hi3.out.2];exact hj
  exact(Iu.out.range j (by rw[BH.out];exact List.mem_append_right _ (List.mem_append_right _ uF))).1
 have aa3:=zh (mA.out.after Gu.out);clear OV IP Ai jU hB5 qo OU hT5 k0 k1 k2 f0 f1 f2 b2 p1 p2 q1 q2;have b0:=q0 w6 aa3.out;have ut:=Gu.out;go_wp2;clear b0;obtain⟨W6,rfl⟩:∃z,z=w6:=⟨_,rfl⟩
 go_loopw [28] (fun i wr=>∃(k:Nat) (v:Value) (S:List Nat),k<=b.ends.length/\i=.int .i64 k/\au wr wa.heap.size v (.slice V mV cV) (.slice V5 QM QO) ⟨a.ends++(b.ends.take k).map (List.map (gj a.ends.length)),a.ids++b.ids,a.ac1++b.ac1⟩ S/\bo∉S/\aZ wr bo v (.slice V mV cV) (.slice V5 QM QO)/\aa wa wr) (fun i _=>b.ends.length-(intOf i).toNat)
 case atStart=>exact⟨0,_,S6,Nat.zero_le _,rfl,by have:=XK.out;simpa using this,HN6.out,Kt.out,Gu.out⟩
 case round=>
  obtain⟨k,v,S7,hk,rfl,ey,kV,dj,fd⟩:=hrel
  obtain⟨AV,XL,XM,rfl⟩:∃A m c,v=.slice A m c:=by obtain⟨A,c,hv,-⟩:=ey.read.1;exact⟨A,_,c,hv⟩
  have Jt:=zh ey;have Co:=zh kV;have CI:=zh dj;have mY:=zh fd;have Th:=mA.out.after fd;have XN:=zh Th;clear ey kV dj fd ut;obtain⟨wo,rfl⟩:∃z,z=wr:=⟨_,rfl⟩
  by_cases aH:k<b.ends.length
  ·obtain⟨es,ca⟩:=ay b.ends k aH;obtain⟨g0,o0,cr,ur,D6,-,dG,hE1⟩:=kd (HB.out w0 (ad _)).es ca;cases D6;obtain⟨A9,y9,rfl,dP,eO,Xn⟩:=hE1;unfold maxLen at eO;have r1:=ab dG wo Th;have HA9:=zh Xn;have nO:=zh ca;have iI:es.length<=1000:=vO.out.row _ _ ca
   have m1:IntKind.i64.wrap ((k:Int)+1)=(k:Int)+1:=aE _ (by omega) (by have h1:=vO.out.ends;omega)
   clear Xn dG ca Th;go_upto_region 9 with(fail);clear r1
   go_loopw [8,34] (fun u i wr=>∃(j:Nat) (T:List Nat),j<=es.length/\i=.int .i64 j/\eq wr wo.heap.size u ((es.take j).map (gj a.ends.length)) T/\aa wo wr) (fun _ i _=>es.length-(intOf i).toNat)
   case atStart=>exact⟨0,[],Nat.zero_le _,rfl,rq _ _,ad _⟩
   case round=>
    obtain⟨j,T,hj,rfl,P3,BG⟩:=hrel;obtain⟨AU,mU,cU,rfl⟩:=fY.one P3;have OW:=zh P3;have C7:=zh BG;clear P3
    by_cases yY:j<es.length
    ·obtain⟨e,he⟩:=ay es j yY;obtain⟨x,y,fs,rfl,hfs,Fb⟩:=Hwf.out k es nO.out e (List.mem_of_getElem? he);obtain⟨g1,o1,rfl,t1,t2⟩:=HA9.out j _ he;have OX:=XN.out.after C7.out;have SS:=ab t1 wr OX;have SU:=ab t2 wr OX;have sx:x<b.ends.length:=al hfs
     have m2:IntKind.i64.wrap ((x:Int)+(a.ends.length:Int))=(x:Int)+(a.ends.length:Int):=aE _ (by omega) (by have h1:=pR.out.ends;have h2:=vO.out.ends;omega)
     have m3:IntKind.i64.wrap ((j:Int)+1)=(j:Int)+1:=aE _ (by omega) (by omega);obtain⟨w8,r_⟩:∃z,z=wr.alloc (.cells #[.int .i64 (x:Int),.int .i64 (y:Int)] 104):=⟨_,rfl⟩
     obtain⟨eb,qC⟩:∃z,z=wr.heap.size:=⟨_,rfl⟩
     have h8:aa wr w8:=by rw[r_];exact ae _ (ad _)
     have v1:w8.cell? ⟨eb,0,none⟩=some (.int .i64 (x:Int)):=by rw[r_,qC];simp
     have v2:w8.cell? ⟨eb,1,none⟩=some (.int .i64 (y:Int)):=by rw[r_,qC];simp
     have v3:=p0 w8 (OX.after h8);have Ti:=zh r_;have Xo:=zh qC;have kD:Hid (aa wo w8):=C7.out.after h8;have uy:Hid (eq w8 wo.heap.size (.slice AU mU cU) ((es.take j).map (gj a.ends.length)) T):=fY.ac2 OW.out h8.below
     have yb:Hid (((es.take j).map (gj a.ends.length)).length+1<=1000000):=by show _<=_;rw[List.length_map,List.length_take];omega
     have Jp:Hid ((es.take (j+1)).map (gj a.ends.length)=(es.take j).map (gj a.ends.length)++[((x:Int)+(a.ends.length:Int),(y:Int))]):=by show _=_;rw[bX he,List.map_append];rfl
     clear r_ qC h8 OX t1 t2 he hfs BG;go_upto_region 11 with(fail);rw[<- Ti.out,<- Xo.out];clear SS SU
     go_upto_region 12 with(at_builtin;refine jV (base:=wo.heap.size) (v:=.slice AU mU cU) (xs:=(es.take j).map (gj a.ends.length)) (T:=T) rfl _ _ rfl rfl (fY.ac2 uy.out (ao _ _)) w8.heap.size ((x:Int)+(a.ends.length:Int),(y:Int)) rfl (by simp) (by simp) yb.out (by have:=kD.out.below.size;simp;omega) ?_;intro g9 E6 w9 fV ql u_)
     have xl:=zh fV
     have IQ:Hid (aa wo w9):=Below.grown (ae _ kD.out) ql (by have:=kD.out.below.size;simp;omega) (fun q hq=>(fY.range uy.out q (by rw[uy.out.2,hq];simp)).1)
     clear fV ql u_ v1 v2 v3;go_wp2;go_roundw
     case rel=>exact⟨j+1,[g9],by omega,by first | rfl | go_num,by rw[Jp.out];have h9:=xl.out;rw[show((es.take j).map (gj a.ends.length)).length=j by rw[List.length_map,List.length_take];omega]at h9;simpa using h9,IQ.out⟩
     case measure=>simp[intOf];omega
    ·obtain rfl:j=es.length:=by omega
     have BP:aZ wr bo (.slice AV XL XM) (.slice V mV cV) (.slice V5 QM QO):=CI.out.below C7.out.below CI.out.lt
     have aD:Hid (eq wr wo.heap.size (.slice AU mU cU) (es.map (gj a.ends.length)) T):=by have h9:=OW.out;rw[List.take_length]at h9;exact h9
     have hvq:Hid (∀q,(Value.slice AV XL XM).ownBlock=some q->wa.heap.size<=q):=fun q hq=>by
      obtain⟨S1,S2,S3,h1,-,-,h4,-⟩:=id Jt.out;obtain⟨vs,Ss,-,-,-,e4,-⟩:=id h1
      exact(Jt.out.range q (by rw[h4,e4,hq];simp)).1
     have Wk:Hid (∀j∈T,j∉S7):=fun j hj hS=>by have h1:=(fY.range OW.out j hj).1;have h2:=(Jt.out.range j hS).2;omega
     have t_:Hid ((a.ends++(b.ends.take k).map (List.map (gj a.ends.length))).length+1<=1000000):=by show _<=_;rw[List.length_append,List.length_map,List.length_take];have h1:=pR.out.ends;have h2:=vO.out.ends;omega
     have OY:Hid (wa.heap.size<=wo.heap.size):=mY.out.below.size;have hwq:Hid (aa wa wr):=mY.out.after C7.out;have P8:=zh BP;obtain⟨k0,k1,k2,f0,f1,f2⟩:=BP.cells;clear BP BG
     go_upto_region 14 with(at_builtin;refine rG (wT:=wa) (base:=wa.heap.size) (v:=.slice AV XL XM) (u:=.slice AU mU cU) (T:=T) (es:=es.map (gj a.ends.length)) rfl _ _ rfl rfl ((Jt.out.ac2 C7.out.below).ac2 (ao _ _)) wr.heap.size rfl (by simp) (fY.mono (fY.ac2 aD.out (ao _ _)) OY.out) Wk.out t_.out (ae _ hwq.out) (by have:=hwq.out.below.size;simp;omega) hvq.out ?_;intro v8 w8 S8 XO Lu QP C9 lG;obtain⟨A8,m8,c8,rfl⟩:∃A m c,v8=Value.slice A m c:=(by obtain⟨A,c,hv,-⟩:=Lu.read.1;exact⟨A,_,c,hv⟩);have uz:aZ w8 bo (.slice AV XL XM) (.slice V mV cV) (.slice V5 QM QO):=((P8.out.alloc _).blk (C9.block bo (by have:=P8.out.lt;simp;omega) Co.out));clear k0 k1 k2 f0 f1 f2;obtain⟨k0,k1,k2,f0,f1,f2⟩:=uz.cells)
     have Tj:bo∉S8:=fun hm=>by
      rcases QP bo hm with h | h | h
      ·exact Co.out h
      ·have h1:=(fY.range OW.out bo h).1;have h2:=CI.out.lt;omega
      ·have h2:=P8.out.lt;simp at h;omega
     have QQ:a.ends++(b.ends.take (k+1)).map (List.map (gj a.ends.length))=(a.ends++(b.ends.take k).map (List.map (gj a.ends.length)))++[es.map (gj a.ends.length)]:=by
      rw[bX nO.out,List.map_append,List.append_assoc];rfl
     have R8:=zh QQ
     have XP:=zh (Lu.ac4 (w':=w8.setCell ⟨bo,0,none⟩ (.slice A8 m8 c8)) (fun q hq=>Below.heap_setCell _ _ _ _ (fun e=>Tj (by have e':q=bo:=e;exact e' ▸ hq))))
     have q8:=zh (uz.adl (u:=.slice A8 m8 c8));have IQ:=zh (Below.setCell lG (p:=⟨bo,0,none⟩) CU.out.1 (.slice A8 m8 c8));have aa4:=zh Tj;clear Tj QQ Lu uz lG C9 QP XO k0 k1 k2 f0 f1 f2;go_wp2;go_roundw
     case rel=>exact⟨k+1,_,S8,by omega,by first | rfl | go_num,by rw[R8.out];exact XP.out,aa4.out,q8.out,IQ.out⟩
     case measure=>simp[intOf];omega
  ·obtain rfl:k=b.ends.length:=by omega
   have eK:=uq.out wo mY.out;obtain⟨k0,k1,k2,-,-,-⟩:=CI.out.cells;obtain⟨e0,Fh,e2,f0,f1,f2⟩:=eK.box.cells;clear eK;go_wp2;refine bodyPost_ret (v:=.agg #[.slice AV XL XM,.slice V mV cV,.slice V5 QM QO]) (by simp[results,Tryz.results104,go_sem, *]) rfl ?_;have Nv:=tL.out;have h9:=Jt.out;rw[List.take_length]at h9;refine⟨_,_,_,S7,rfl,(h9.ac4 (fun j hj=>?_)).mono (by omega),?_⟩
   ·have tB:=(h9.range j hj).1;rw[Below.heap_setCell _ _ _ j (by simp;omega),Below.heap_setCell _ _ _ j (by simp;omega),Below.heap_setCell _ _ _ j (by simp;omega)]
   ·have hk:Below w.heap.size w wo:=Below.trans f6.out.below (XN.out.below.mono f6.out.below.size)
    exact((hk.setCell (by simp;omega) _).setCell (by simp;omega) _).setCell (by simp;omega) _
end Go.Proofs.YtnioemnkfojmkaaGreat
