/- Parts of the proof: walks of functions and plain laws. -/
import Derived.Test.YtnioemnkfojmkaaGreatP0
import Derived.Test.YtnioemnkfojmkaaGreatP15
set_option maxRecDepth 100000
set_option maxHeartbeats 16000000
namespace Go.Proofs.YtnioemnkfojmkaaGreat
open Go Go.RowKit
theorem Gd.adA {R M:Nat} {n:aw} {v u:Nat} (h:Gd R M n) (hv:v<n.ends.length) (hu:u<n.ends.length) (h1:(be n v).length<=4) (h2:(be n u).length<=4) (hR:6<=R):Gd R M (dC n v u):=by
 refine⟨by rw[dU];exact h.ends,fun k es hk=>?_,h.ids,by rw[dU];exact h.ac1,vg h.wf hv hu⟩
 have h3:=ng hk
 have ss:k<n.ends.length:=by have:=al hk;rwa [dU]at this
 rw[<- h3,ja hv hu];have h4:=h.row k _ (bK ss)
 by_cases a:k=u
 ·subst a
  by_cases b:k=v
  ·subst b;rw[if_pos rfl];omega
  ·rw[if_pos rfl,if_neg b];omega
 ·rw[if_neg a]
  by_cases b:k=v
  ·subst b;rw[if_pos rfl];omega
  ·rw[if_neg b];omega
theorem Gd.adD {R M:Nat} {n:aw} {v:Nat} (h:Gd R M n) (hv:v<n.ends.length) (h1:(be n v).length<=4) (hR:6<=R):Gd R M (jp n v):=by
 refine⟨by rw[jb];exact h.ends,fun k es hk=>?_,h.ids,by rw[jb];exact h.ac1,Gr h.wf hv⟩
 have h3:=ng hk
 have ss:k<n.ends.length:=by have:=al hk;rwa [jb]at this
 rw[<- h3,rX hv];have h4:=h.row k _ (bK ss)
 by_cases b:k=v
 ·subst b;rw[if_pos rfl];omega
 ·rw[if_neg b];omega
theorem Gv (cb:Nat) (A:Option Addr) (L c P most M:Nat) (w:World) (hc:bB w cb A L c P) (hP:P<=4000000000000000000) (pT:1<=most) (nh:most<=M) (hM:M<=38):
  Calls Tryz.prog 125 #[.pointer (some ⟨cb,0,none⟩),.int .i64 most] w (yt cb w.heap.size A L c (P+200000000000000000) w (TN 100 (M+2))):=by
 have ia:=hc.lt;obtain⟨B,te⟩:∃z,z=w.heap.size+1:=⟨_,rfl⟩
 obtain⟨w0,ar⟩:∃z,z=w.alloc (.cells #[.slice none 0 0,.slice none 0 0,.slice none 0 0] 30):=⟨_,rfl⟩
 have bu:aa w w0:=by rw[ar];exact ae _ (ad _)
 have eu:w0.heap.size=B:=by rw[ar,te];simp
 have fG:bA w0 w.heap.size (.slice none 0 0) (.slice none 0 0) (.slice none 0 0):=by
  rw[ar];show(w.heap.push _)[w.heap.size]?=_
  rw[Array.getElem?_push_size]
 have eY:=zh fG;have f6:=zh bu;have cS:=zh ar;have fL:=zh te;have gh:=zh eu;have xi:=zh (hc.since bu);clear fG bu ar hc te eu
 go_enter Tryz.func125,Tryz.ntmps125
 go_upto_region 1 with(fail);rw[<- cS.out];go_wp2_with fail;refine(db cb A L c P 6 w0 xi.out (by omega) (by omega)).mono ?_;rintro e w1 ⟨x,rfl,hx,jc,ky⟩;have gE:=zh jc
 have lZ:Hid (CB cb B w0 w1):=by show CB _ _ _ _;rw[<- gh.out];exact ky
 have eA:B<=w1.heap.size:=by rw[<- gh.out];exact ky.size
 have kC:cb<B:=by have:=fL.out;omega
 have hx6:x<6:=by omega
 clear jc ky hx
 have XQ:=lZ.out.adb eY.out (by have:=fL.out;omega) (by omega)
 have acu:=zh XQ;clear XQ;rcases(show x=0\/x=1\/x=2\/x=3\/x=4\/x=5 by omega)with rfl | rfl | rfl | rfl | rfl | rfl
 ·go_wp2_with fail;refine(Fc cb A L c (P+2) most M w1 gE.out (by omega) pT nh (by omega)).mono ?_;rintro e w6 ⟨BC,BE,BF,N6,S6,rfl,cJ,⟨iw,jU⟩,eh,ix⟩;obtain⟨D0,d0,rfl,-,-,-⟩:=id cJ.read.1;obtain⟨D1,d1,rfl,-,-,-⟩:=id cJ.read.2.1;obtain⟨D2,d2,rfl,-,-,-⟩:=id cJ.read.2.2;have bi:CB cb B w0 w6:=lZ.out.trans (ix.mono eA)
  have eK:=bi.adb eY.out (by have:=fL.out;omega) (by omega)
  obtain⟨e0,e1,e2,f0,f1,f2⟩:=eK.box.cells;have aC:=cJ.mono eA;rw[fL.out]at aC bi;have cK:=zh (d_ f6.out aC eh bi ia);have zu:=zh iw;have sw:=zh jU;clear bi eK aC iw eh ix cJ jU;go_wp2;refine bodyPost_ret (v:=.agg #[.slice D0 N6.ends.length d0,.slice D1 N6.ids.length d1,.slice D2 N6.ac1.length d2]) (by simp[results,Tryz.results125,go_sem, *]) rfl ?_;obtain⟨r1,r2,r3⟩:=cK.out;exact⟨_,_,_,N6,S6,rfl,r1,⟨zu.out.mono (Nat.le_refl _) (by omega),sw.out⟩,r2.mono (by omega),r3⟩
 ·go_wp2_with fail;refine(AB cb A L c (P+2) most M w1 gE.out (by omega) pT nh (by omega)).mono ?_;rintro e w6 ⟨BC,BE,BF,N6,S6,rfl,cJ,⟨iw,jU⟩,eh,ix⟩;obtain⟨D0,d0,rfl,-,-,-⟩:=id cJ.read.1;obtain⟨D1,d1,rfl,-,-,-⟩:=id cJ.read.2.1;obtain⟨D2,d2,rfl,-,-,-⟩:=id cJ.read.2.2;have bi:CB cb B w0 w6:=lZ.out.trans (ix.mono eA)
  have eK:=bi.adb eY.out (by have:=fL.out;omega) (by omega)
  obtain⟨e0,e1,e2,f0,f1,f2⟩:=eK.box.cells;have aC:=cJ.mono eA;rw[fL.out]at aC bi;have cK:=zh (d_ f6.out aC eh bi ia);have zu:=zh iw;have sw:=zh jU;clear bi eK aC iw eh ix cJ jU;go_wp2;refine bodyPost_ret (v:=.agg #[.slice D0 N6.ends.length d0,.slice D1 N6.ids.length d1,.slice D2 N6.ac1.length d2]) (by simp[results,Tryz.results125,go_sem, *]) rfl ?_;obtain⟨r1,r2,r3⟩:=cK.out;exact⟨_,_,_,N6,S6,rfl,r1,⟨zu.out.mono (Nat.le_refl _) (by omega),sw.out⟩,r2.mono (by omega),r3⟩
 ·go_wp2_with fail;refine(oO cb A L c (P+2) most M w1 gE.out (by omega) pT nh (by omega)).mono ?_;rintro e w6 ⟨BC,BE,BF,N6,S6,rfl,cJ,⟨iw,jU⟩,eh,ix⟩;obtain⟨D0,d0,rfl,-,-,-⟩:=id cJ.read.1;obtain⟨D1,d1,rfl,-,-,-⟩:=id cJ.read.2.1;obtain⟨D2,d2,rfl,-,-,-⟩:=id cJ.read.2.2;have bi:CB cb B w0 w6:=lZ.out.trans (ix.mono eA)
  have eK:=bi.adb eY.out (by have:=fL.out;omega) (by omega)
  obtain⟨e0,e1,e2,f0,f1,f2⟩:=eK.box.cells;have aC:=cJ.mono eA;rw[fL.out]at aC bi;have cK:=zh (d_ f6.out aC eh bi ia);have zu:=zh iw;have sw:=zh jU;clear bi eK aC iw eh ix cJ jU;go_wp2;refine bodyPost_ret (v:=.agg #[.slice D0 N6.ends.length d0,.slice D1 N6.ids.length d1,.slice D2 N6.ac1.length d2]) (by simp[results,Tryz.results125,go_sem, *]) rfl ?_;obtain⟨r1,r2,r3⟩:=cK.out;exact⟨_,_,_,N6,S6,rfl,r1,⟨zu.out.mono (Nat.le_refl _) (by omega),sw.out⟩,r2.mono (by omega),r3⟩
 ·go_wp2_with fail;refine(oO cb A L c (P+2) most M w1 gE.out (by omega) pT nh (by omega)).mono ?_;rintro e w6 ⟨BC,BE,BF,N6,S6,rfl,cJ,⟨iw,jU⟩,eh,ix⟩;obtain⟨D0,d0,rfl,-,-,-⟩:=id cJ.read.1;obtain⟨D1,d1,rfl,-,-,-⟩:=id cJ.read.2.1;obtain⟨D2,d2,rfl,-,-,-⟩:=id cJ.read.2.2;have bi:CB cb B w0 w6:=lZ.out.trans (ix.mono eA)
  have eK:=bi.adb eY.out (by have:=fL.out;omega) (by omega)
  obtain⟨e0,e1,e2,f0,f1,f2⟩:=eK.box.cells;have aC:=cJ.mono eA;rw[fL.out]at aC bi;have cK:=zh (d_ f6.out aC eh bi ia);have zu:=zh iw;have sw:=zh jU;clear bi eK aC iw eh ix cJ jU;go_wp2;refine bodyPost_ret (v:=.agg #[.slice D0 N6.ends.length d0,.slice D1 N6.ids.length d1,.slice D2 N6.ac1.length d2]) (by simp[results,Tryz.results125,go_sem, *]) rfl ?_;obtain⟨r1,r2,r3⟩:=cK.out;exact⟨_,_,_,N6,S6,rfl,r1,⟨zu.out.mono (Nat.le_refl _) (by omega),sw.out⟩,r2.mono (by omega),r3⟩
 ·obtain⟨hf,hhd⟩:∃z:Nat,z=most/2:=⟨_,rfl⟩
  obtain⟨h1,hh1⟩:∃z:Nat,z=hf+1:=⟨_,rfl⟩
  have d1:(most:Int).tdiv 2=(hf:Int):=by rw[hhd,Int.tdiv_eq_ediv_of_nonneg (by omega)];simp
  have d2:(most:Int)/2=(hf:Int):=by omega
  have d3:IntKind.i64.wrap (hf:Int)=(hf:Int):=aE _ (by omega) (by omega)
  have d4:IntKind.i64.wrap ((hf:Int)+1)=(h1:Int):=by rw[aE _ (by omega) (by omega)];omega
  have aX:1<=h1/\2*h1<=M+2:=by omega
  clear hhd hh1;go_wp2_with fail;refine(oO cb A L c (P+2) h1 h1 w1 gE.out (by omega) aX.1 (Nat.le_refl _) (by omega)).mono ?_;rintro e w6 ⟨BC,BE,BF,N6,S6,rfl,cJ,⟨iw,jU⟩,eh,ix⟩;obtain⟨D0,d0,rfl,-,-,-⟩:=id cJ.read.1;obtain⟨D1,XR,rfl,-,-,-⟩:=id cJ.read.2.1;obtain⟨D2,XS,rfl,-,-,-⟩:=id cJ.read.2.2;obtain⟨w7,pB⟩:∃z,z=w6.alloc (.cells #[.slice D0 N6.ends.length d0,.slice D1 N6.ids.length XR,.slice D2 N6.ac1.length XS] 30):=⟨_,rfl⟩
  obtain⟨pb,da⟩:∃z,z=w6.heap.size:=⟨_,rfl⟩
  have XT:aa w6 w7:=by rw[pB];exact ae _ (ad _)
  have dj:aZ w7 pb (.slice D0 N6.ends.length d0) (.slice D1 N6.ids.length XR) (.slice D2 N6.ac1.length XS):=by rw[pB,da];exact aZ.new _ _ _ _ _
  have Tk:=zh ((cJ.mono eA).ac2 XT.below);have Vt:Hid (CB cb B w0 w7):=(lZ.out.trans (ix.mono eA)).trans ((CB.of XT).mono (Nat.le_trans eA ix.size));have xm:=zh (eh.since XT);have zu:=zh iw;have sw:=zh jU
  have iM:pb≠cb:=by have:=ix.size;omega
  have By:Hid (B<=w7.heap.size):=Nat.le_trans (Nat.le_trans eA ix.size) XT.below.size;have CI:=zh dj;have Hw7:=zh pB;have cB:=zh da;obtain⟨k0,k1,k2,-,-,-⟩:=dj.cells;have rP:=zh (And.intro k0 (And.intro k1 k2));clear cJ iw jU eh ix pB da XT dj k0 k1 k2;go_upto_region 11 with(fail);rw[<- Hw7.out,<- cB.out];refine av (fun W=>W.cell? ⟨pb,0,none⟩=some (.slice D0 N6.ends.length d0)/\W.cell? ⟨pb,1,none⟩=some (.slice D1 N6.ids.length XR)/\W.cell? ⟨pb,2,none⟩=some (.slice D2 N6.ac1.length XS)) 7 [false,false,false,false,false,true,true] (by kernel_rfl) (by kernel_rfl) (show(World.drew w7).cell? ⟨pb,0,none⟩=some (.slice D0 N6.ends.length d0)/\(World.drew w7).cell? ⟨pb,1,none⟩=some (.slice D1 N6.ids.length XR)/\(World.drew w7).cell? ⟨pb,2,none⟩=some (.slice D2 N6.ac1.length XS)from rP.out) ?_
  simp only[ek,dD,zT]
  iterate 5 (apply bh rfl;(intro W hW;(obtain⟨k0,k1,k2⟩:=hW);go_simp;with_reducible rfl);simp only[zA])
  obtain⟨W,cA⟩:∃W,W=World.drew w7:=⟨_,rfl⟩
  rw[<- cA];have hW:=(show(World.drew w7).cell? ⟨pb,0,none⟩=some (.slice D0 N6.ends.length d0)/\(World.drew w7).cell? ⟨pb,1,none⟩=some (.slice D1 N6.ids.length XR)/\(World.drew w7).cell? ⟨pb,2,none⟩=some (.slice D2 N6.ac1.length XS)from rP.out);rw[<- cA]at hW;have eU:=zh cA;clear cA;refine Or.inl ⟨rfl,?_⟩
  go_simp
  (with_reducible refine(Fc cb A L c _ h1 h1 W (by rw[eU.out];exact xm.out.since (ag (ad _))) (by omega) aX.1 (Nat.le_refl _) (by omega)).mono ?_)
  rintro e W' ⟨ve8,vi8,vn8,N8,S8,rfl,Lv,⟨hT8,-⟩,XU,QR⟩;refine⟨_,rfl,And.intro (aq hW.1 iM _ QR) (And.intro (aq hW.2.1 iM _ QR) (aq hW.2.2 iM _ QR)),?_⟩
  replace hW:=And.intro (aq hW.1 iM _ QR) (And.intro (aq hW.2.1 iM _ QR) (aq hW.2.2 iM _ QR))
  have kh:aa w7 W:=(by rw[eU.out];exact ag (ad _))
  have XV:=zh (((aY.refl cb w7).after kh).trans QR);have uy:=zh Lv;have HT8:=zh hT8;have Fi:=zh XU;clear Lv hT8 XU QR kh;obtain⟨wp,rfl⟩:∃z,z=W':=⟨_,rfl⟩
  (try simp only[zA])
  refine Or.inl ⟨rfl,?_⟩
  go_simp
  (with_reducible refine(C8 _ _ _ _ _ _ N6 N8 _ (Tk.out.seen XV.out kC).read uy.out.read (zu.out.small (by omega) (by omega)) (HT8.out.small (by omega) (by omega)) HT8.out.wf).mono ?_)
  rintro e W' ⟨ve9,vi9,vn9,S9,rfl,fV,ka⟩;refine⟨_,rfl,And.intro (bc ka hW.1) (And.intro (bc ka hW.2.1) (bc ka hW.2.2)),?_⟩
  replace hW:=And.intro (bc ka hW.1) (And.intro (bc ka hW.2.1) (bc ka hW.2.2))
  skip
  (try simp only[zA])
  simp only[bj];obtain⟨F0,t0,rfl,-,-,-⟩:=id fV.read.1;obtain⟨F1,t1,rfl,-,-,-⟩:=id fV.read.2.1;obtain⟨F2,t2,rfl,-,-,-⟩:=id fV.read.2.2;have Jy:B<=wp.heap.size:=Nat.le_trans By.out XV.out.size;have OZ:aa wp W':=ka;have bi:CB cb B w0 W':=(Vt.out.trans (CB.mono XV.out By.out)).trans ((CB.of OZ.below).mono Jy)
  have eK:=bi.adb eY.out (by have:=fL.out;omega) (by omega)
  obtain⟨e0,e1,e2,f0,f1,f2⟩:=eK.box.cells;have aC:=fV.mono Jy;rw[fL.out]at aC bi;have cK:=zh (d_ f6.out aC (Fi.out.since OZ) bi ia);have Hg9:=zh (zu.out.union HT8.out)
  have R8:Hid (0<(gY N6 N8).ends.length):=by show _<_;unfold gY;rw[List.length_append];have:=sw.out;omega
  clear bi eK aC OZ fV ka Jy hW;go_wp2;refine bodyPost_ret (v:=.agg #[.slice F0 (gY N6 N8).ends.length t0,.slice F1 (gY N6 N8).ids.length t1,.slice F2 (gY N6 N8).ac1.length t2]) (by simp[results,Tryz.results125,go_sem, *]) rfl ?_;obtain⟨r1,r2,r3⟩:=cK.out;exact⟨_,_,_,gY N6 N8,S9,rfl,r1,⟨Hg9.out.mono (Nat.le_refl _) (by omega),R8.out⟩,r2.mono (by omega),r3⟩
 ·go_wp2_with fail;refine(db cb A L c (P+2) most w1 gE.out (by omega) (by omega)).mono ?_;rintro e w2 ⟨x2,rfl,sq,lU,pX⟩;obtain⟨m,hm⟩:∃m:Nat,m=x2+1:=⟨_,rfl⟩
  have m1:IntKind.i64.wrap (1+(x2:Int))=(m:Int):=by rw[aE _ (by omega) (by omega)];omega
  have Vr:m<=M:=by omega
  have XC:0<m:=by omega
  have xf:=zh lU;have Ju:Hid (CB cb B w0 w2):=lZ.out.trans (pX.mono eA);have np:Hid (B<=w2.heap.size):=Nat.le_trans eA pX.size;clear lU pX sq hm;go_wp2_with fail;refine(fK m (by omega) w2).mono ?_;rintro e w3 ⟨QD,QE,QF,S0,rfl,ho,aG⟩;obtain⟨N0,nK⟩:∃z,z=aS m:=⟨_,rfl⟩
  rw[<- nK]at ho
  have kA:N0.ends.length=m:=by rw[nK];simp[aS]
  have yu:Gd 100 M N0:=by rw[nK];exact(Gd.empty Vr).mono (by omega) (Nat.le_refl _)
  obtain⟨A1,c1,rfl,-,vN,-⟩:=id ho.read.1;obtain⟨AI,cI,rfl,-,-,-⟩:=id ho.read.2.1;obtain⟨AN,cN,rfl,-,-,-⟩:=id ho.read.2.2;obtain⟨w4,mu⟩:∃z,z=w3.alloc (.cells #[.slice A1 N0.ends.length c1,.slice AI N0.ids.length cI,.slice AN N0.ac1.length cN] 30):=⟨_,rfl⟩
  obtain⟨pb,da⟩:∃z,z=w3.heap.size:=⟨_,rfl⟩
  have h34:aa w3 w4:=by rw[mu];exact ae _ (ad _)
  have gR:aa w2 w3:=aG
  have qm:Mb cb B pb A L c (P+2+2) w0 w4 (.slice A1 N0.ends.length c1) (.slice AI N0.ids.length cI) (.slice AN N0.ac1.length cN) N0 S0:=
   ⟨(ho.ac2 h34.below).mono np.out,by rw[mu,da];exact aZ.new _ _ _ _ _,fun hj=>by have:=(ho.range _ hj).2;omega,(xf.out.since gR).since h34,Ju.out.trans ((CB.of (gR.after h34).below).mono np.out)⟩
  have tT:=zh qm
  have cB:Hid (B<=pb/\pb<w4.heap.size):=⟨by rw[da];exact Nat.le_trans np.out gR.below.size,by rw[mu,da];simp⟩
  have XW:=zh mu;have tf:=zh da;have Jw:=zh yu;have Td:=zh kA;have dj:=qm.box.cells.1
  have iM:pb≠cb:=by have:=cB.out;omega
  rw[kA]at dj;obtain⟨m2,fq⟩:∃m2:Nat,m2=2*m:=⟨_,rfl⟩
  have e2m:(2:Int)*(m:Int)=(m2:Int):=by omega
  have m20:IntKind.i64.wrap (2*(m:Int))=(m2:Int):=by rw[e2m];exact aE _ (by omega) (by omega)
  have gK:=zh fq;clear fq;clear qm mu da yu kA ho aG gR h34 nK e2m;go_upto_region 13 with(fail);rw[<- XW.out,<- tf.out];go_wp2_with fail
  refine(db cb A L c _ (m2:Int) w4 tT.out.cur (by omega) (by have:=gK.out;omega)).mono ?_
  rintro e w5 ⟨x5,rfl,aa5,km,pC⟩
  have Te:x5<=100:=by have:=gK.out;omega
  have iO:=zh (tT.out.seen pC km kC cB.out.1 (by have:=cB.out;omega))
  have IR:Hid (B<=w5.heap.size):=by show _<=_;have:=cB.out;have:=pC.size;omega
  clear km pC dj aa5;go_upto_region 14 with(fail);obtain⟨Q,hQ⟩:∃z,z=P+2+2+2:=⟨_,rfl⟩
  have HQ:Hid (Q=P+2+2+2):=hQ;rw[<- hQ]at iO;clear hQ
  go_loopw [7] (fun i wr=>∃(k:Nat) (ve vi vn:Value) (N:aw) (S:List Nat),k<=100/\i=.int .i64 k/\Mb cb B pb A L c (Q+6*(100-k)) w0 wr ve vi vn N S/\Gd 100 M N/\N.ends.length=m/\B<=wr.heap.size) (fun i _=>(intOf i).toNat)
  case atStart=>exact⟨x5,_,_,_,N0,S0,Te,rfl,⟨iO.out.own,iO.out.box,iO.out.nb,iO.out.cur.mono (by omega),iO.out.far⟩,Jw.out,Td.out,IR.out⟩
  case round=>
   obtain⟨k,ve,vi,vn,N,S2,hk,rfl,hm,iz,kA,eR⟩:=hrel;obtain⟨Bl,jn,rfl,-,OO,-⟩:=id hm.own.read.1;obtain⟨oI,oJ,rfl,-,-,-⟩:=id hm.own.read.2.1;obtain⟨tU,qZ,rfl,-,-,-⟩:=id hm.own.read.2.2;obtain⟨g,rfl,-⟩:=hm.own.head (by omega);have Hm:=zh hm;have nf:=zh iz;have f8:=zh kA;have jw:=zh eR;clear hm iz kA eR
   by_cases aH:0<k
   ·have e0:((0:Int)<(k:Int))=True:=by simp;omega
    have m4:IntKind.i64.wrap ((k:Int)-1)=(k:Int)-1:=aE _ (by omega) (by omega)
    have rP:=zh (show wr.cell? ⟨pb,0,none⟩=some (.slice (some ⟨g,0,none⟩) m jn)from by obtain⟨a,-⟩:=Hm.out.box.cells;rw[f8.out]at a;exact a)
    obtain⟨wo,rfl⟩:∃z,z=wr:=⟨_,rfl⟩
    go_upto_region 16 with(fail);refine av (fun W=>W.cell? ⟨pb,0,none⟩=some (.slice (some ⟨g,0,none⟩) m jn)) 10 [false,false,false,false,true,false,false,false,false,true] (by kernel_rfl) (by kernel_rfl) (show(World.drew wo).cell? ⟨pb,0,none⟩=some (.slice (some ⟨g,0,none⟩) m jn)from rP.out) ?_
    simp only[ek,dD,zT]
    iterate 8 (apply bh rfl;(intro W hW;(have k0:=hW);go_simp;with_reducible rfl);simp only[zA])
    obtain⟨W,cA⟩:∃W,W=World.drew wo:=⟨_,rfl⟩
    rw[<- cA];have hW:=(show(World.drew wo).cell? ⟨pb,0,none⟩=some (.slice (some ⟨g,0,none⟩) m jn)from rP.out);rw[<- cA]at hW;have eU:=zh cA;clear cA;refine Or.inl ⟨rfl,?_⟩
    go_simp
    (with_reducible refine(db cb A L c (Q+6*(100-k)) (m:Int) W (by rw[eU.out];exact Hm.out.cur.since (ag (ad _))) (by have:=HQ.out;omega) (by omega)).mono ?_)
    rintro e W' ⟨a,rfl,ha,df,hC⟩;refine⟨_,rfl,aq hW iM _ hC,?_⟩
    replace hW:=aq hW iM _ hC
    have kh:aa wo W:=(by rw[eU.out];exact ag (ad _))
    have ux:=zh (((aY.refl cb wo).after kh).trans hC);have i_:=zh df;have Ha:=zh ha;clear hC df kh ha;obtain⟨wp,rfl⟩:∃z,z=W':=⟨_,rfl⟩
    (try simp only[zA])
    refine Or.inl ⟨rfl,?_⟩
    go_simp
    (with_reducible refine(db cb A L c (Q+6*(100-k)+2) (m:Int) _ i_.out (by have:=HQ.out;omega) (by omega)).mono ?_)
    rintro e W' ⟨b,rfl,hb,df,hC⟩;refine⟨_,rfl,aq hW iM _ hC,?_⟩
    replace hW:=aq hW iM _ hC
    have iO:=zh (Hm.out.seen (ux.out.trans hC) df kC cB.out.1 jw.out);have tg:Hid (B<=W'.heap.size):=Nat.le_trans jw.out (ux.out.trans hC).size;clear hC df
    (try simp only[zA])
    simp only[bj]
    have QH:a<m:=by have:=Ha.out;omega
    have Es:b<m:=by omega
    clear hb;obtain⟨w5,rfl⟩:∃z,z=W':=⟨_,rfl⟩
    have Hx0:=zh hW;clear hW;obtain⟨xa,Ff⟩:∃z,z=be N a:=⟨_,rfl⟩
    obtain⟨xb,Fg⟩:∃z,z=be N b:=⟨_,rfl⟩
    have DC:=bK (n:=N) (v:=a) (by have:=f8.out;omega)
    have uQ:=bK (n:=N) (v:=b) (by have:=f8.out;omega)
    rw[<- Ff]at DC;rw[<- Fg]at uQ;have EO:xa.length<=100:=nf.out.row _ _ DC;have gX:xb.length<=100:=nf.out.row _ _ uQ;obtain⟨ua,Ta,Tf,-,QJ,-,-,-⟩:=iO.out.own.ac_ DC;obtain⟨AUa,cUa,rfl,-,-,-⟩:=id QJ.read;obtain⟨ub,Tb,Lt,-,Kr,-,-,-⟩:=iO.out.own.ac_ uQ;obtain⟨AUb,cUb,rfl,-,-,-⟩:=id Kr.read;have OR:=zh Ff;have Tg:=zh Fg;have pa:=ab Tf;have pq:=ab Lt;have p0:=ab Hx0.out;have q0:=p0 w5 (ad _);have qa:=pa w5 (ad _);have qb:=pq w5 (ad _);clear Ff Fg DC uQ QJ Kr Tf Lt p0 pa pq
    by_cases h5:xa.length<=4
    ·have e5:((4:Int)<(xa.length:Int))=False:=by simp;omega
     by_cases h6:xb.length<=4
     ·have e6:((4:Int)<(xb.length:Int))=False:=by simp;omega
      go_upto_region 18 with(fail);clear q0 qa qb;go_wp2_with fail
      refine(lF cb A L c (Q+6*(100-k)+2+2) 5 w5 iO.out.cur (by have:=HQ.out;omega) (by omega)).mono ?_
      rintro e w6 ⟨bb,rfl,eh,ix⟩;have nS:=zh (iO.out.seen ix eh kC cB.out.1 tg.out);have yx:Hid (B<=w6.heap.size):=Nat.le_trans tg.out ix.size;have Lw:=nS.out.box.cells;rw[f8.out]at Lw;obtain⟨q0,q1,q2,-,-,-⟩:=Lw
      have HN6:Hid (aU w6 (.slice (some ⟨g,0,none⟩) m jn) (.slice oI N.ids.length oJ) (.slice tU N.ac1.length qZ) N):=by show aU _ _ _ _ _;have h9:=nS.out.own.read;rw[f8.out]at h9;exact h9
      clear eh ix;cases bb
      ·go_wp2_with fail
       refine(jC _ _ _ N a b w6 HN6.out (by rw[f8.out];exact QH) (by rw[f8.out];exact Es) ((nf.out.mono (R':=100) (M':=40) (by omega) (by omega)).small (by omega) (by omega))).mono ?_
       rintro e w8 ⟨Nx,Ny,Nz,S3,rfl,dW,bJ⟩;have lG:aa w6 w8:=bJ;obtain⟨D0,d0,rfl,-,-,-⟩:=id dW.read.1;obtain⟨D1,d1,rfl,-,-,-⟩:=id dW.read.2.1;obtain⟨D2,d2,rfl,-,-,-⟩:=id dW.read.2.2;have C1:=nS.out.assign (CB.of lG) (nS.out.cur.since lG) dW nS.out.box.lt kC cB.out.1 yx.out;clear q0 q1 q2;obtain⟨k0,k1,k2,f0,f1,f2⟩:=(nS.out.box.below lG nS.out.box.lt).cells;have nu:=zh C1
       have oK:B<=(ac5 w8 pb (.slice D0 (dC N a b).ends.length d0) (.slice D1 (dC N a b).ids.length d1) (.slice D2 (dC N a b).ac1.length d2)).heap.size:=by rw[dV];exact Nat.le_trans yx.out lG.below.size
       have xg:=zh oK
       have Li:=zh (nf.out.adA (v:=a) (u:=b) (by rw[f8.out];exact QH) (by rw[f8.out];exact Es) (by rw[<- OR.out];exact h5) (by rw[<- Tg.out];exact h6) (by omega))
       have Ll:=zh ((dU N a b).trans f8.out);clear C1 dW bJ lG oK;go_wp2;go_roundw
       case rel=>exact⟨k-1,_,_,_,dC N a b,S3,by omega,by rw[show((k-1:Nat):Int)=(k:Int)-1 by omega],⟨nu.out.own,nu.out.box,nu.out.nb,nu.out.cur.mono (by omega),nu.out.far⟩,Li.out,Ll.out,xg.out⟩
       case measure=>simp[intOf];omega
      ·go_wp2_with fail
       refine(qR _ _ _ N a w6 HN6.out (by rw[f8.out];exact QH) ((nf.out.mono (R':=100) (M':=40) (by omega) (by omega)).small (by omega) (by omega))).mono ?_
       rintro e w8 ⟨Nx,Ny,Nz,S3,rfl,dW,bJ⟩;have lG:aa w6 w8:=bJ;obtain⟨D0,d0,rfl,-,-,-⟩:=id dW.read.1;obtain⟨D1,d1,rfl,-,-,-⟩:=id dW.read.2.1;obtain⟨D2,d2,rfl,-,-,-⟩:=id dW.read.2.2;have C1:=nS.out.assign (CB.of lG) (nS.out.cur.since lG) dW nS.out.box.lt kC cB.out.1 yx.out;clear q0 q1 q2;obtain⟨k0,k1,k2,f0,f1,f2⟩:=(nS.out.box.below lG nS.out.box.lt).cells;have nu:=zh C1
       have oK:B<=(ac5 w8 pb (.slice D0 (jp N a).ends.length d0) (.slice D1 (jp N a).ids.length d1) (.slice D2 (jp N a).ac1.length d2)).heap.size:=by rw[dV];exact Nat.le_trans yx.out lG.below.size
       have xg:=zh oK
       have Li:=zh (nf.out.adD (v:=a) (by rw[f8.out];exact QH) (by rw[<- OR.out];exact h5) (by omega))
       have Ll:=zh ((jb N a).trans f8.out);clear C1 dW bJ lG oK;go_wp2;go_roundw
       case rel=>exact⟨k-1,_,_,_,jp N a,S3,by omega,by rw[show((k-1:Nat):Int)=(k:Int)-1 by omega],⟨nu.out.own,nu.out.box,nu.out.nb,nu.out.cur.mono (by omega),nu.out.far⟩,Li.out,Ll.out,xg.out⟩
       case measure=>simp[intOf];omega
     ·have e6:((4:Int)<(xb.length:Int))=True:=by simp;omega
      go_wp2;go_roundw
      case rel=>exact⟨k-1,_,_,_,N,S2,by omega,by rw[show((k-1:Nat):Int)=(k:Int)-1 by omega],(⟨iO.out.own,iO.out.box,iO.out.nb,iO.out.cur.mono (by omega),iO.out.far⟩),nf.out,f8.out,tg.out⟩
      case measure=>simp[intOf];omega
    ·have e5:((4:Int)<(xa.length:Int))=True:=by simp;omega
     go_wp2;go_roundw
     case rel=>exact⟨k-1,_,_,_,N,S2,by omega,by rw[show((k-1:Nat):Int)=(k:Int)-1 by omega],(⟨iO.out.own,iO.out.box,iO.out.nb,iO.out.cur.mono (by omega),iO.out.far⟩),nf.out,f8.out,tg.out⟩
     case measure=>simp[intOf];omega
   ·obtain rfl:k=0:=by omega
    obtain⟨k0,k1,k2,-,-,-⟩:=Hm.out.box.cells;have gK:=Hm;have kB:=jw;obtain⟨w5,rfl⟩:∃z,z=wr:=⟨_,rfl⟩
    go_upto_region 21 with(fail);go_wp2_with fail
    refine(rW cb A L c _ B 100 M _ _ _ N S2 w5 gK.out.cur (by have:=HQ.out;omega) gK.out.own kC kB.out nf.out (by omega) (by omega) (by have:=f8.out;omega)).mono ?_
    rintro e w6 ⟨BC,BE,BF,N6,S6,rfl,cJ,⟨rY,iw⟩,eh,ix⟩;obtain⟨D0,d0,rfl,-,-,-⟩:=id cJ.read.1;obtain⟨D1,d1,rfl,-,-,-⟩:=id cJ.read.2.1;obtain⟨D2,d2,rfl,-,-,-⟩:=id cJ.read.2.2;have bi:=(gK.out.far.mono (Nat.le_refl B)).trans ix
    have eK:=bi.adb eY.out (by have:=fL.out;omega) (by omega)
    obtain⟨e0,e1,e2,f0,f1,f2⟩:=eK.box.cells;have aC:=cJ;rw[fL.out]at aC bi;have cK:=zh (d_ f6.out aC eh bi ia);have xj:=zh rY;have zu:=zh iw;clear bi eK aC rY iw eh ix cJ k0 k1 k2;go_wp2;refine bodyPost_ret (v:=.agg #[.slice D0 N6.ends.length d0,.slice D1 N6.ids.length d1,.slice D2 N6.ac1.length d2]) (by simp[results,Tryz.results125,go_sem, *]) rfl ?_;obtain⟨r1,r2,r3⟩:=cK.out
    exact⟨_,_,_,N6,S6,rfl,r1,⟨zu.out.mono (by omega) (by omega),by have:=f8.out;have:=xj.out.len;omega⟩,r2.mono (by have:=HQ.out;omega),r3⟩
theorem Mb.ado {cb B pb:Nat} {A:Option Addr} {L c P:Nat} {w W W1:World} {ve vi vn v':Value} {N:aw} {S T:List Nat} {ids':List Int} (h:Mb cb B pb A L c P w W ve vi vn N S) (ho:kR W1 B v' ids' T) (ey:aR vi.ownBlock.toList W W1) (hT:∀j∈T,j∈vi.ownBlock.toList\/W.heap.size<=j) (hb:cb<B) (hp:B<=pb) (hB:B<=W.heap.size):
  aZ W1 pb ve vi vn/\∃S',Mb cb B pb A L c P w (W1.setCell ⟨pb,1,none⟩ v') ve v' vn { N with ids:=ids' } S'/\∀j∈S',j∈S\/W.heap.size<=j:=by
 obtain⟨S1,S2,S3,-,h2,-,h4,-⟩:=id h.own
 have hS:∀j∈vi.ownBlock.toList,j∈S:=fun j hj=>by rw[h4,h2.2];exact List.mem_append_right _ (List.mem_append_left _ hj)
 have sS:=h.box.lt;have hnI:pb∉vi.ownBlock.toList:=fun hm=>h.nb (hS _ hm)
 have dj:aZ W1 pb ve vi vn:=h.box.blk (ey.block pb sS hnI);obtain⟨S',IP,Ai⟩:=h.own.adm ho ey hT
 have hn:pb∉S':=fun hj=>by
  rcases Ai _ hj with h1 | h1
  ·exact h.nb h1
  ·omega
 have fH:Below B W W1:=ey.below B hB (fun k hk=>(h.own.range k (hS k hk)).1)
 refine⟨dj,S',⟨IP.ac4 (fun k hk=>Below.heap_setCell _ _ _ _ (fun e=>hn (by have e':k=pb:=e;exact e' ▸ hk))),dj.adr,hn,(h.cur.ac2 (fun k hk=>fH.block k (by omega))).ac2 (fun k hk=>Below.heap_setCell _ _ _ _ (by show k≠pb;omega)),(h.far.trans (CB.of fH)).setCell (p:=⟨pb,1,none⟩) (.inl hp) _⟩,Ai⟩
theorem Mb.adj {cb B pb:Nat} {A:Option Addr} {L c P:Nat} {w W:World} {ve vi vn:Value} {N:aw} {S:List Nat} (h:Mb cb B pb A L c P w W ve vi vn N S):kR W B vi N.ids vi.ownBlock.toList/\∀j∈vi.ownBlock.toList,j∈S:=by
 obtain⟨S1,S2,S3,-,h2,-,h4,-⟩:=id h.own
 exact⟨⟨h2.1,rfl⟩,fun j hj=>by rw[h4,h2.2];exact List.mem_append_right _ (List.mem_append_left _ hj)⟩
theorem Mb.adq {cb B pb:Nat} {A:Option Addr} {L c P:Nat} {w W:World} {ve vi vn:Value} {N:aw} {S:List Nat} (h:Mb cb B pb A L c P w W ve vi vn N S):kR W B vn N.ac1 vn.ownBlock.toList/\∀j∈vn.ownBlock.toList,j∈S:=by
 obtain⟨S1,S2,S3,-,-,h2,h4,-⟩:=id h.own
 exact⟨⟨h2.1,rfl⟩,fun j hj=>by rw[h4,h2.2];exact List.mem_append_right _ (List.mem_append_right _ hj)⟩
theorem sa (w:World) (x:Int):bO (w.alloc (.cells #[.int .i64 x] 3)) (.slice (some ⟨w.heap.size,0,none⟩) 1 1) [x]:=by
 refine⟨_,1,rfl,Nat.le_refl _,by unfold maxLen;omega,fun k y h=>?_⟩
 have hk:=al h
 have M7:k=0:=by simp at hk;omega
 subst M7;have hy:x=y:=by simpa using h
 subst hy;exact⟨_,_,rfl,by simp⟩
theorem Mb.adz {cb B pb og:Nat} {A:Option Addr} {L c P:Nat} {w W W1:World} {ve vi vn v' uo:Value} {N:aw} {S T:List Nat} {y:Int} {xs:List Int} {Bo:Nat} (h:Mb cb B pb A L c P w W ve vi vn N S) (ho:kR W1 B v' (N.ids++[y]) T) (ey:aR vi.ownBlock.toList W W1) (hT:∀j∈T,j∈vi.ownBlock.toList\/W.heap.size<=j) (hb:cb<B) (hp:B<=pb) (hB:B<=W.heap.size)
  (Lx:Own W Bo uo xs) (Jr:uo.ownBlock=some og) (hog:og∉S/\og≠pb) (hr:bA W (pb+1) (.slice none 0 0) (.slice none 0 0) (.slice none 0 0)) (hn:pb+1∉S):
  aZ W1 pb ve vi vn/\∃S',Mb cb B pb A L c P w (W1.setCell ⟨pb,1,none⟩ v') ve v' vn { N with ids:=N.ids++[y] } S'/\Own (W1.setCell ⟨pb,1,none⟩ v') Bo uo xs/\bA (W1.setCell ⟨pb,1,none⟩ v') (pb+1) (.slice none 0 0) (.slice none 0 0) (.slice none 0 0)/\W.heap.size<=(W1.setCell ⟨pb,1,none⟩ v').heap.size/\pb+1∉S'/\og∉S':=by
 obtain⟨aG,S',fF,Ai⟩:=h.ado ho ey hT hb hp hB;have XX:=h.adj.2;have aa6:=(World.ownsRow.lt Lx og Jr).2
 refine⟨aG,S',fF,aQ Lx (fun j hj=>?_),?_,by rw[gt];exact ey.size,fun hj=>?_,fun hj=>?_⟩
 ·have mc:j=og:=by rw[Jr]at hj;simpa[eq_comm]using hj
  subst mc;rw[Below.heap_setCell _ _ _ _ (by exact hog.2)];exact ey.block _ aa6 (fun hm=>hog.1 (XX _ hm))
 ·show(W1.setCell _ _).heap[pb+1]?=_
  rw[Below.heap_setCell _ _ _ _ (by show pb+1≠pb;omega),ey.block _ hr.lt (fun hm=>hn (XX _ hm))]
  exact hr
 ·rcases Ai _ hj with h1 | h1
  ·exact hn h1
  ·have:=hr.lt;omega
 ·rcases Ai _ hj with h1 | h1
  ·exact hog.1 h1
  ·omega
theorem Mb.ret {cb B pb rb:Nat} {A:Option Addr} {L c P:Nat} {w W:World} {ve vi vn:Value} {N:aw} {S:List Nat} (h:Mb cb B pb A L c P w W ve vi vn N S) (hr:rb∉S) (hB:B<=rb) (ia:cb<B):
  au (ac5 W rb ve vi vn) B ve vi vn N S/\bB (ac5 W rb ve vi vn) cb A L c P/\CB cb B w (ac5 W rb ve vi vn):=by
 refine⟨h.own.ac4 (fun k hk=>co _ _ _ _ _ (fun e=>hr (e ▸ hk))),h.cur.ac2 (fun k hk=>co _ _ _ _ _ (by omega)),?_⟩
 exact((h.far.setCell (p:=⟨rb,0,none⟩) (.inl hB) _).setCell (p:=⟨rb,1,none⟩) (.inl hB) _).setCell (p:=⟨rb,2,none⟩) (.inl hB) _
theorem zw (cb:Nat) (A:Option Addr) (L c P R M:Nat) (ve vi vn:Value) (n:aw) (w:World) (hc:bB w cb A L c P) (hP:P<=4500000000000000000) (h:aU w ve vi vn n) (hg:Gd R M n) (hR:R<=100) (hM:M<=100):
  Calls Tryz.prog 169 #[.pointer (some ⟨cb,0,none⟩),.agg #[ve,vi,vn]] w (yt cb w.heap.size A L c (P+1000) w (fun N=>N.ends=n.ends/\N.ac1=n.ac1/\N.ids.length=n.ends.length)):=by
 have ia:=hc.lt;obtain⟨A1,c1,rfl,-,vN,-⟩:=id h.1;obtain⟨AI,cI,rfl,-,-,-⟩:=id h.2.1;obtain⟨AN,cN,rfl,-,-,-⟩:=id h.2.2;obtain⟨pb,da⟩:∃z,z=w.heap.size:=⟨_,rfl⟩
 obtain⟨w0,ar⟩:∃z,z=w.alloc (.cells #[.slice A1 n.ends.length c1,.slice AI n.ids.length cI,.slice AN n.ac1.length cN] 30):=⟨_,rfl⟩
 obtain⟨wa,iY⟩:∃z,z=w0.alloc (.cells #[.slice none 0 0,.slice none 0 0,.slice none 0 0] 30):=⟨_,rfl⟩
 have bu:aa w w0:=by rw[ar];exact ae _ (ad _)
 have dw:aa w0 wa:=by rw[iY];exact ae _ (ad _)
 have ll:w0.heap.size=w.heap.size+1:=by rw[ar];simp
 have bG:aZ w0 pb (.slice A1 n.ends.length c1) (.slice AI n.ids.length cI) (.slice AN n.ac1.length cN):=by rw[ar,da];exact aZ.new _ _ _ _ _
 have OY:=bG.below dw (by rw[ll,da];omega)
 have fG:bA wa (pb+1) (.slice none 0 0) (.slice none 0 0) (.slice none 0 0):=by
  rw[iY,da,<- ll];show(w0.heap.push _)[w0.heap.size]?=_
  rw[Array.getElem?_push_size]
 have uJ:aa w wa:=bu.after dw
 have cB:Hid (cb<pb/\pb+2=wa.heap.size/\pb=w.heap.size):=⟨by omega,by rw[da,iY];simp;omega,da⟩
 have Lk:=zh uJ;have eY:=zh fG;have XY:=zh OY;have XZ:=zh (hc.since uJ);have HNa:=zh (h.ac2 uJ.below);have Hg:=zh hg;have cS:=zh ar;have Al:=zh iY;have dj:=OY.cells
 have SY:n.ends.length<=100:=by have:=hg.ends;omega
 clear hc h bu dw bG fG uJ OY hg ar iY da ll
 go_enter Tryz.func169,Tryz.ntmps169
 go_upto_region 1 with(fail);rw[<- cS.out,<- Al.out,<- cB.out.2.2];obtain⟨x0,x1,x2,f0,f1,f2⟩:=dj;go_wp2_with fail
 refine(kF _ _ _ n wa HNa.out (by omega) (fun k es he=>by have:=Hg.out.row k es he;omega) (Hg.out.small hR hM).sz).mono ?_
 rintro e w1 ⟨ue,ui,un,S0,rfl,ho,aX⟩;have dw:aa wa w1:=aX;obtain⟨E1,e1,rfl,-,-,-⟩:=id ho.read.1;obtain⟨EI,eI,rfl,-,-,-⟩:=id ho.read.2.1;obtain⟨EN,eN,rfl,-,-,-⟩:=id ho.read.2.2;clear x0 x1 x2 f0 f1 f2;have Fj:=XY.out.below dw XY.out.lt;obtain⟨x0,x1,x2,f0,f1,f2⟩:=Fj.cells
 have kV:pb∉S0:=fun hj=>by have h1:=(ho.range _ hj).1;have h2:=cB.out;omega
 have jh:Mb cb w.heap.size pb A L c P w (ac5 w1 pb (.slice E1 n.ends.length e1) (.slice EI n.ids.length eI) (.slice EN n.ac1.length eN)) (.slice E1 n.ends.length e1) (.slice EI n.ids.length eI) (.slice EN n.ac1.length eN) n S0:=by
  have h0:=cB.out
  refine⟨(ho.ac4 (fun k hk=>co _ _ _ _ _ (fun e=>kV (by have e':k=pb:=e;exact e' ▸ hk)))).mono (by omega),Fj.ac5 _ _ _,kV,((XZ.out.since dw).ac2 (fun k hk=>co _ _ _ _ _ (by omega))),?_⟩
  exact((((CB.of (Lk.out.after dw).below).mono (Nat.le_refl _)).setCell (p:=⟨pb,0,none⟩) (.inl (by show _<=pb;omega)) _).setCell (p:=⟨pb,1,none⟩) (.inl (by show _<=pb;omega)) _).setCell (p:=⟨pb,2,none⟩) (.inl (by show _<=pb;omega)) _
 have lY:bA (ac5 w1 pb (.slice E1 n.ends.length e1) (.slice EI n.ids.length eI) (.slice EN n.ac1.length eN)) (pb+1) (.slice none 0 0) (.slice none 0 0) (.slice none 0 0):=(co _ _ _ _ _ (by omega)).trans (eY.out.since dw)
 have dP:wa.heap.size<=(ac5 w1 pb (.slice E1 n.ends.length e1) (.slice EI n.ids.length eI) (.slice EN n.ac1.length eN)).heap.size:=by rw[dV];exact dw.below.size
 have jN:pb+1∉S0:=fun hj=>by have h1:=(ho.range _ hj).1;have h2:=cB.out;omega
 have Fk:=zh jh;have CE:=zh lY;have uZ:=zh dP;have Ly:=zh jN;have Hfz:=zh (And.intro f0 (And.intro f1 f2));clear jh lY dP jN ho aX dw Fj kV;go_upto_region 2 with(fail);obtain⟨w2,eH⟩:∃z,z=((w1.setCell ⟨pb,0,none⟩ (.slice E1 n.ends.length e1)).setCell ⟨pb,1,none⟩ (.slice EI n.ids.length eI)).setCell ⟨pb,2,none⟩ (.slice EN n.ac1.length eN):=⟨_,rfl⟩
 rw[<- eH]
 have gK:Hid (Mb cb w.heap.size pb A L c P w w2 (.slice E1 n.ends.length e1) (.slice EI n.ids.length eI) (.slice EN n.ac1.length eN) n S0):=by show Mb _ _ _ _ _ _ _ _ _ _ _ _ _ _;rw[eH];exact Fk.out
 have DD:Hid (bA w2 (pb+1) (.slice none 0 0) (.slice none 0 0) (.slice none 0 0)):=by show bA _ _ _ _ _;rw[eH];exact CE.out
 have l3:Hid (wa.heap.size<=w2.heap.size):=by show _<=_;rw[eH];exact uZ.out
 clear eH Fk CE uZ Hfz x0 x1 x2 f0 f1 f2
 have EG:w.heap.size<=w2.heap.size:=by have h1:=l3.out;have h2:=cB.out;omega
 have Jy:w.heap.size<=pb:=by have h2:=cB.out;omega
 obtain⟨aG,S1,fF,XH⟩:=gK.out.ado (v':=.slice none 0 0) (ids':=[]) (kS _ _) (aR.refl _ _) (fun j hj=>by simp at hj) ia Jy EG
 obtain⟨-,x1,-,-,f1,-⟩:=gK.out.box.cells;have vj:=zh fF
 have Wp:Hid (bA (w2.setCell ⟨pb,1,none⟩ (.slice none 0 0)) (pb+1) (.slice none 0 0) (.slice none 0 0) (.slice none 0 0)):=DD.out.other (by show pb+1≠pb;omega)
 have Hn3:Hid (pb+1∉S1):=fun hj=>by
  rcases XH _ hj with h1 | h1
  ·exact Ly.out h1
  ·have h2:=l3.out;have h3:=cB.out;omega
 have xY:Hid (wa.heap.size<=(w2.setCell ⟨pb,1,none⟩ (.slice none 0 0)).heap.size):=by show _<=_;rw[gt];exact l3.out
 clear aG fF XH EG;go_upto_region 3 with(fail);obtain⟨w3,gZ⟩:∃z,z=w2.setCell ⟨pb,1,none⟩ (.slice none 0 0):=⟨_,rfl⟩
 rw[<- gZ]at vj Wp xY ⊢;clear gZ x1 f1;go_wp2_with fail;refine(lF cb A L c P 2 w3 vj.out.cur (by omega) (by omega)).mono ?_;rintro e w4 ⟨small,rfl,jd,j_⟩
 have DF:w.heap.size<=w3.heap.size:=by have h1:=xY.out;have h2:=cB.out;omega
 have xk:=zh (vj.out.seen j_ jd ia Jy DF)
 have Hr4:Hid (bA w4 (pb+1) (.slice none 0 0) (.slice none 0 0) (.slice none 0 0)):=(j_.block _ Wp.out.lt (by have:=cB.out;omega)).trans Wp.out
 have tW:Hid (wa.heap.size<=w4.heap.size):=Nat.le_trans xY.out j_.size;clear jd j_ DF;obtain⟨y0,-,-,-,-,-⟩:=xk.out.box.cells;go_wp2_with fail;refine(EX cb A L c (P+2) n.ends.length w4 xk.out.cur (by omega) SY).mono ?_;rintro e w5 ⟨og,xs,rfl,qc,X3,km,pC⟩
 have Jz:w.heap.size<=w4.heap.size:=by have h1:=tW.out;have h2:=cB.out;omega
 have iO:=zh (xk.out.seen pC km ia Jy Jz)
 have Hr5:Hid (bA w5 (pb+1) (.slice none 0 0) (.slice none 0 0) (.slice none 0 0)):=(pC.block _ Hr4.out.lt (by have:=cB.out;omega)).trans Hr4.out
 have IR:Hid (wa.heap.size<=w5.heap.size):=Nat.le_trans tW.out pC.size;have IK:=zh qc;have HpB:=zh X3;have sx:xs.length=n.ends.length:=qc.len.symm ▸ rfl
 have Hog:Hid (og∉S1/\og≠pb/\og≠pb+1/\cb<og/\og<w5.heap.size):=by
  have h1:=(World.ownsRow.lt qc og (by simp[Value.ownBlock]));have h2:=xk.out.box.lt;have h3:=Hr4.out.lt
  exact⟨fun hj=>by have:=(xk.out.own.range _ hj).2;omega,by omega,by omega,by omega,h1.2⟩
 clear qc X3 km pC Jz y0;have mw:=zh sx;clear sx;go_upto_region 6 with(fail)
 have iM:pb≠cb:=by have:=cB.out;omega
 go_loopw [21] (fun i wr=>∃(k:Nat) (vi:Value) (N:aw) (S:List Nat),k<=n.ends.length/\i=.int .i64 k/\Mb cb w.heap.size pb A L c (P+202+2*k) w wr (.slice E1 n.ends.length e1) vi (.slice EN n.ac1.length eN) N S/\N.ends=n.ends/\N.ac1=n.ac1/\N.ids.length=k/\Own wr w4.heap.size (.slice (some ⟨og,0,none⟩) n.ends.length n.ends.length) xs/\bA wr (pb+1) (.slice none 0 0) (.slice none 0 0) (.slice none 0 0)/\wa.heap.size<=wr.heap.size/\pb+1∉S/\og∉S) (fun i _=>n.ends.length-(intOf i).toNat)
 case atStart=>exact⟨0,_,{ n with ids:=[] },S1,Nat.zero_le _,rfl,⟨iO.out.own,iO.out.box,iO.out.nb,iO.out.cur.mono (by omega),iO.out.far⟩,rfl,rfl,rfl,IK.out,Hr5.out,IR.out,Hn3.out,Hog.out.1⟩
 case round=>
  obtain⟨k,vi,N,S,hk,rfl,hm,hNe,X4,wg,Lx,hr,hz,jN,me⟩:=hrel;obtain⟨oI,oJ,rfl,-,-,-⟩:=id hm.own.read.2.1
  have U2:Mb cb w.heap.size pb A L c (P+202+2*k) w wr (.slice E1 n.ends.length e1) (.slice oI k oJ) (.slice EN n.ac1.length eN) N S:=by rw[wg]at hm;exact hm
  have Hm:=zh U2;have Hf:=zh (And.intro hNe (And.intro X4 wg));have O0:=zh Lx;have Hr:=zh hr;have Hz:=zh hz;have Ly:=zh jN;have zN:=zh me
  have NB:Hid (w.heap.size<=wr.heap.size):=by show _<=_;have h1:=cB.out;omega
  clear hm U2 hNe X4 wg Lx hr hz jN me
  by_cases aH:k<n.ends.length
  ·obtain⟨x,hx⟩:=ay xs k (by rw[mw.out];exact aH)
   have Bz:=HpB.out x (List.mem_of_getElem? hx);have c0:=O0.out.cell hx;have m3:IntKind.i64.wrap ((k:Int)+1)=(k:Int)+1:=aE _ (by omega) (by omega)
   have Hl:Hid (N.ids.length+[x+1].length<=17592186044416):=by show _<=_;have:=Hf.out.2.2;simp;omega
   cases small
   ·obtain⟨y,hy⟩:∃z,z=1+x*20000:=⟨_,rfl⟩
    have m1:IntKind.i64.wrap (x*20000)=x*20000:=aE _ (by omega) (by omega)
    have m2:IntKind.i64.wrap (1+x*20000)=y:=by rw[hy];exact aE _ (by omega) (by omega)
    have Fl:Hid (0<=y/\y<=100000000):=by show _/\_;omega
    obtain⟨wo,rfl⟩:∃z,z=wr:=⟨_,rfl⟩
    have rP:=zh (show wo.cell? ⟨pb,1,none⟩=some (.slice oI k oJ)from Hm.out.box.cells.2.1);clear Bz hx hy;go_upto_region 10 with(fail);refine av (fun W=>W.cell? ⟨pb,1,none⟩=some (.slice oI k oJ)) 10 [false,false,false,false,false,false,true,true,true,true] (by kernel_rfl) (by kernel_rfl) (show(World.drew wo).cell? ⟨pb,1,none⟩=some (.slice oI k oJ)from rP.out) ?_
    simp only[ek,dD,zT]
    iterate 6 (apply bh rfl;(intro W hW;(have k0:=hW);go_simp;with_reducible rfl);simp only[zA])
    obtain⟨W,cA⟩:∃W,W=World.drew wo:=⟨_,rfl⟩
    rw[<- cA];have hW:=(show(World.drew wo).cell? ⟨pb,1,none⟩=some (.slice oI k oJ)from rP.out);rw[<- cA]at hW;have eU:=zh cA;clear cA;refine Or.inl ⟨rfl,?_⟩
    go_simp
    (with_reducible refine(db cb A L c (P+202+2*k) 20000 W (by rw[eU.out];exact Hm.out.cur.since (ag (ad _))) (by omega) (by omega)).mono ?_)
    rintro e W' ⟨a,rfl,ha,df,hC⟩;refine⟨_,rfl,aq hW iM _ hC,?_⟩
    replace hW:=aq hW iM _ hC
    have kh:aa wo W:=(by rw[eU.out];exact ag (ad _))
    have mB:=((aY.refl cb wo).after kh).trans hC;have Hm7:=zh (Hm.out.seen mB df ia Jy NB.out)
    have Ho7:=zh (aQ O0.out (fun j hj=>(show j=og by simpa[Value.ownBlock,eq_comm]using hj) ▸ mB.block og (World.ownsRow.lt O0.out og rfl).2 (by have:=Hog.out;omega)))
    have Hr7:Hid (bA W' (pb+1) (.slice none 0 0) (.slice none 0 0) (.slice none 0 0)):=(mB.block _ Hr.out.lt (by have:=cB.out;omega)).trans Hr.out
    have Hz7:Hid (wa.heap.size<=W'.heap.size):=Nat.le_trans Hz.out mB.size;have X5:Hid (w.heap.size<=W'.heap.size):=Nat.le_trans NB.out mB.size
    have m4:IntKind.i64.wrap (y+(a:Int))=y+(a:Int):=aE _ (by have:=Fl.out;omega) (by have:=Fl.out;omega)
    clear hC df kh ha mB
    (try simp only[zA])
    refine gF (v:=?_) rfl ?_ hW ?_;rotate_left;(go_simp;with_reducible rfl)
    simp only[zA]
    refine bC (v:=?_) (ob:=?_) rfl ?_ ?_ ?_;rotate_left 2
    (go_simp;first | with_reducible rfl | (refine⟨?_,?_⟩ <;> with_reducible rfl))
    exact bc (ao _ _) hW;intro w8 gJ iX
    replace hW:=iX
    clear iX
    have ik:aa W' w8:=(by rw[gJ];exact ae _ (ad _))
    have Hm8:=zh (Hm7.out.since ik ia Jy X5.out);have uy:=zh (Own.since Ho7.out ik);have Hr8:=zh (Hr7.out.since ik);have X6:Hid (wa.heap.size<=w8.heap.size):=Nat.le_trans Hz7.out ik.below.size;have X7:Hid (w.heap.size<=w8.heap.size):=Nat.le_trans X5.out ik.below.size
    have Hi8:Hid (bO w8 (.slice (some ⟨W'.heap.size,0,none⟩) 1 1) [y+(a:Int)]):=(by show bO _ _ _;rw[gJ];exact sa _ _)
    have X8:=zh Hm8.out.adj.1.1;have Vu:Hid (N.ids.length+[y+(a:Int)].length<=17592186044416):=Hl.out;clear gJ ik
    (try simp only[zA])
    refine c_ (fun Q' HQ=>?_)
    (refine jE (base:=w.heap.size) (v:=.slice oI k oJ) (xs:=N.ids) rfl _ _ rfl rfl X8.out rfl Hi8.out Vu.out X7.out ?_);intro v' w9 T fV fI X9;obtain⟨V,mV,cV,rfl⟩:=er.one fV;obtain⟨ka,S9,X_,Lz,U7,JA,Ya,LA⟩:=Hm8.out.adz fV fI X9 ia Jy X7.out uy.out rfl ⟨zN.out,Hog.out.2.1⟩ Hr8.out Ly.out;refine HQ _ _ ka.cells.2.1 ?_;clear fV fI X9;have LB:=zh X_;have xl:=zh Lz;have Hr9:=zh U7;have qT:=zh JA;have XP:=zh Ya;have Tl:=zh LA;clear X_ Lz U7 JA Ya LA;obtain⟨x0,x1,x2,f0,f1,f2⟩:=ka.cells;clear ka
    (try simp only[zA])
    simp only[bj];go_wp2;go_roundw
    case rel=>exact⟨k+1,_,_,S9,by omega,by first | rfl | go_num,⟨LB.out.own,LB.out.box,LB.out.nb,LB.out.cur.mono (by omega),LB.out.far⟩,Hf.out.1,Hf.out.2.1,by have:=Hf.out.2.2;simp;omega,xl.out,Hr9.out,Nat.le_trans X6.out qT.out,XP.out,Tl.out⟩
    case measure=>simp[intOf];omega
   ·have m1:IntKind.i64.wrap (x+1)=x+1:=aE _ (by omega) (by omega);have ik:aa wr (wr.alloc (.cells #[.int .i64 (x+1)] 3)):=ae _ (ad _);have Vv:=zh (Hm.out.since ik ia Jy NB.out);have HoA:=zh (O0.out.since ik);have Tm:=zh (Hr.out.since ik);have HzA:Hid (wa.heap.size<=(wr.alloc (.cells #[.int .i64 (x+1)] 3)).heap.size):=Nat.le_trans Hz.out ik.below.size;have Yb:Hid (w.heap.size<=(wr.alloc (.cells #[.int .i64 (x+1)] 3)).heap.size):=Nat.le_trans NB.out ik.below.size;obtain⟨x0,x1,x2,f0,f1,f2⟩:=Hm.out.box.cells;have aC:=Vv.out.adj.1.1;have ni:=zh aC;clear ik Bz hx aC
    go_wp2_with (at_builtin;refine jE (base:=w.heap.size) rfl _ _ rfl rfl ni.out rfl (sa _ _) Hl.out Yb.out ?_;intro v' w9 T fV fI X9;obtain⟨V,mV,cV,rfl⟩:=er.one fV;obtain⟨ka,S9,X_,Lz,U7,JA,Ya,LA⟩:=Vv.out.adz fV fI X9 ia Jy Yb.out HoA.out rfl ⟨zN.out,Hog.out.2.1⟩ Tm.out Ly.out;clear x0 x1 x2 f0 f1 f2 fV fI X9;have LB:=zh X_;have xl:=zh Lz;have Hr9:=zh U7;have qT:=zh JA;have XP:=zh Ya;have Tl:=zh LA;clear X_ Lz U7 JA Ya LA;obtain⟨x0,x1,x2,f0,f1,f2⟩:=ka.cells;clear ka)
    go_roundw
    case rel=>exact⟨k+1,_,_,S9,by omega,by first | rfl | go_num,⟨LB.out.own,LB.out.box,LB.out.nb,LB.out.cur.mono (by omega),LB.out.far⟩,Hf.out.1,Hf.out.2.1,by have:=Hf.out.2.2;simp;omega,xl.out,Hr9.out,Nat.le_trans HzA.out qT.out,XP.out,Tl.out⟩
    case measure=>simp[intOf];omega
  ·obtain rfl:k=n.ends.length:=by omega
   clear aH hk;obtain⟨k0,k1,k2,-,-,-⟩:=Hm.out.box.cells;obtain⟨e0,Fh,e2,f0,f1,f2⟩:=Hr.out.box.cells;have cK:=zh (Hm.out.ret (rb:=pb+1) Ly.out (by omega) ia);go_wp2;refine bodyPost_ret (v:=.agg #[.slice E1 n.ends.length e1,.slice oI n.ends.length oJ,.slice EN n.ac1.length eN]) (by simp[results,Tryz.results169,go_sem, *]) rfl ?_;obtain⟨r1,r2,r3⟩:=cK.out;exact⟨_,_,_,N,S,rfl,r1,Hf.out,r2.mono (by omega),r3⟩
theorem xn {w:World} {g i:Nat} {v:Value} (h:w.cell? ⟨g,i,none⟩=some v) (k:Nat):(w.setCell ⟨g,i,none⟩ v).heap[k]?=w.heap[k]?:=by
 by_cases e:k=g
 ·subst e
  unfold World.cell? at h
  cases hb:w.heap[k]? with
  | none=>rw[show w.heap[(⟨k,i,none⟩:Addr).block]?=none from hb]at h;simp at h
  | some o=>
   rw[show w.heap[(⟨k,i,none⟩:Addr).block]?=some o from hb]at h
   cases o with
   | cells cs t fr=>
    have hc:cs[i]?=some v:=by simpa using h
    have he:cs.setIfInBounds i v=cs:=by
     apply Array.ext_getElem?
     intro j;rw[Array.getElem?_setIfInBounds]
     by_cases hj:i=j
     ·subst hj;rw[if_pos rfl,if_pos (Array.getElem?_eq_some_iff.1 hc).1,hc]
     ·rw[if_neg hj]
    simp[World.setCell,Array.getElem?_modify,hb,he]
   | _=>simp at h
 ·exact Below.heap_setCell _ _ _ _ e
theorem O1 {w:World} {g i:Nat} {v:Value} (h:w.cell? ⟨g,i,none⟩=some v) (p:Addr) (u:Value) (k:Nat):((w.setCell ⟨g,i,none⟩ v).setCell p u).heap[k]?=(w.setCell p u).heap[k]?:=by
 by_cases e:k=p.block
 ·have h1:=xn h p.block;subst e
  rw[show((w.setCell ⟨g,i,none⟩ v).setCell p u).heap[p.block]?=_ from by unfold World.setCell;exact Array.getElem?_modify ..]
  rw[show(w.setCell p u).heap[p.block]?=_ from by unfold World.setCell;exact Array.getElem?_modify ..]
  rw[if_pos rfl,if_pos rfl];exact congrArg _ h1
 ·rw[Below.heap_setCell _ _ _ _ e,Below.heap_setCell _ _ _ _ e,xn h]
theorem LC {w:World} {g i j:Nat} (NJ:i≠j) (u:Value):(w.setCell ⟨g,i,none⟩ u).cell? ⟨g,j,none⟩=w.cell? ⟨g,j,none⟩:=by
 unfold World.cell? World.setCell
 simp only[Array.getElem?_modify,if_true]
 cases w.heap[g]? with
 | none=>rfl
 | some o=>cases o <;> simp[NJ]
theorem au.setPort {w:World} {base g c n:Nat} {vi vn:Value} {N:aw} {S:List Nat} (h:au w base (.slice (some ⟨g,0,none⟩) n c) vi vn N S) {k:Nat} {es:List (Int×Int)} (hx:N.ends[k]?=some es) (hj:0<es.length):
  ∃gr cr,w.cell? ⟨g,k,none⟩=some (.slice (some ⟨gr,0,none⟩) es.length cr)/\gr∈S/\w.frozen? ⟨gr,0,none⟩=false/\w.frozen? ⟨gr,1,none⟩=false/\(∃z,w.cell? ⟨gr,0,none⟩=some z)/\(∃z,w.cell? ⟨gr,1,none⟩=some z) /\
   (∀x:Int,∃y,au (w.setCell ⟨gr,0,none⟩ (.int .i64 x)) base (.slice (some ⟨g,0,none⟩) n c) vi vn { N with ends:=N.ends.set k (es.set 0 y) } S) /\
   (∀x:Int,∃y,au (w.setCell ⟨gr,1,none⟩ (.int .i64 x)) base (.slice (some ⟨g,0,none⟩) n c) vi vn { N with ends:=N.ends.set k (es.set 0 y) } S):=by
 obtain⟨gr,cr,h1,-,-,-,h2,-,⟨f0,f1⟩,c0,c1,bH⟩:=h.ada hx hj;simp only[Nat.zero_mul,Nat.zero_add]at f0 f1 c0 c1 bH;obtain⟨e,he⟩:=ay es 0 hj;obtain⟨u,T,hu,-,hR,-,-,-⟩:=h.ac_ hx;rw[h1]at hu;have hu:=Option.some.inj hu;subst hu;obtain⟨d0,d1,-⟩:=eq.cells hR he;simp only[Nat.zero_mul,Nat.zero_add]at d0 d1;refine⟨gr,cr,h1,h2,f0,f1,c0,c1,fun x=>⟨(x,e.2),?_⟩,fun x=>⟨(e.1,x),?_⟩⟩
 ·refine(bH (x,e.2)).ac4 (fun q _=>?_)
  exact(xn (show(w.setCell ⟨gr,0,none⟩ (.int .i64 x)).cell? ⟨gr,1,none⟩=some (.int .i64 e.2)by rw[LC (by omega)];exact d1) q).symm
 ·exact(bH (e.1,x)).ac4 (fun q _=>(O1 d0 _ _ q).symm)
structure Br (cb pb:Nat) (A:Option Addr) (L c P:Nat) (w W:World) (ve vi vn:Value) (N:aw) (S:List Nat):Prop where
 mb:Mb cb w.heap.size pb A L c P w W ve vi vn N S
 rb:bA W (pb+1) (.slice none 0 0) (.slice none 0 0) (.slice none 0 0)
 rn:pb+1∉S
 pe:pb=w.heap.size
 cbp:cb<pb
section
variable {cb pb : Nat} {A : Option Addr} {L c P : Nat} {w W : World} {ve vi vn : Value} {N : aw} {S : List Nat}
theorem Br.sz (h:Br cb pb A L c P w W ve vi vn N S):w.heap.size<=W.heap.size:=by have:=h.rb.lt;have:=h.pe;omega
theorem Br.seen {W':World} {P':Nat} (h:Br cb pb A L c P w W ve vi vn N S) (hs:aY cb W W') (xe:bB W' cb A L c P'):Br cb pb A L c P' w W' ve vi vn N S:=
 ⟨h.mb.seen hs xe (by have:=h.pe;have:=h.cbp;omega) (by have:=h.pe;omega) h.sz,(hs.block _ h.rb.lt (by have:=h.cbp;omega)).trans h.rb,h.rn,h.pe,h.cbp⟩
theorem Br.since {W':World} (h:Br cb pb A L c P w W ve vi vn N S) (hs:aa W W'):Br cb pb A L c P w W' ve vi vn N S:=h.seen (CB.of hs) (h.mb.cur.since hs)
theorem Br.up {P':Nat} (h:Br cb pb A L c P w W ve vi vn N S) (hP:P<=P'):Br cb pb A L c P' w W ve vi vn N S:=⟨⟨h.mb.own,h.mb.box,h.mb.nb,h.mb.cur.mono hP,h.mb.far⟩,h.rb,h.rn,h.pe,h.cbp⟩
theorem Br.only {W':World} {N':aw} {S':List Nat} {Vw vi' OS:Value} (h:Br cb pb A L c P w W ve vi vn N S) (ho:au W' w.heap.size Vw vi' OS N' S') (hS:∀j∈S',j∈S\/W.heap.size<=j) (ey:aR S W W'):
  aZ W' pb ve vi vn/\pb∉S'/\pb+1∉S'/\bA W' (pb+1) (.slice none 0 0) (.slice none 0 0) (.slice none 0 0)/\bB W' cb A L c P/\CB cb w.heap.size w W':=by
 have hp:=h.pe;have hc:=h.cbp;have h1:=h.rb.lt;have fH:Below w.heap.size W W':=ey.below _ h.sz (fun k hk=>(h.mb.own.range k hk).1)
 refine⟨h.mb.box.blk (ey.block _ h.mb.box.lt h.mb.nb),fun hj=>?_,fun hj=>?_,(ey.block _ h1 h.rn).trans h.rb,h.mb.cur.ac2 (fun k hk=>fH.block k (by omega)),h.mb.far.trans (CB.of fH)⟩
 ·rcases hS _ hj with h2 | h2
  ·exact h.mb.nb h2
  ·omega
 ·rcases hS _ hj with h2 | h2
  ·exact h.rn h2
  ·omega
theorem Br.own {W':World} {N':aw} {S':List Nat} (h:Br cb pb A L c P w W ve vi vn N S) (ho:au W' w.heap.size ve vi vn N' S') (hS:∀j∈S',j∈S\/W.heap.size<=j) (ey:aR S W W'):Br cb pb A L c P w W' ve vi vn N' S':=by
 obtain⟨a1,a2,a3,a4,a5,a6⟩:=h.only ho hS ey;exact⟨⟨ho,a1,a2,a5,a6⟩,a4,a3,h.pe,h.cbp⟩
theorem Br.adl {W':World} {N':aw} {S':List Nat} {v':Value} (h:Br cb pb A L c P w W ve vi vn N S) (ho:au W' w.heap.size v' vi vn N' S') (hS:∀j∈S',j∈S\/W.heap.size<=j) (ey:aR S W W'):
  aZ W' pb ve vi vn/\Br cb pb A L c P w (W'.setCell ⟨pb,0,none⟩ v') v' vi vn N' S':=by
 obtain⟨a1,a2,a3,a4,a5,a6⟩:=h.only ho hS ey;have hp:=h.pe;have hc:=h.cbp
 refine⟨a1,⟨⟨ho.ac4 (fun k hk=>Below.heap_setCell _ _ _ _ (fun e=>a2 (by have e':k=pb:=e;exact e' ▸ hk))),a1.adl,a2,a5.ac2 (fun k hk=>Below.heap_setCell _ _ _ _ (by show k≠pb;omega)),a6.setCell (p:=⟨pb,0,none⟩) (.inl (by show _<=pb;omega)) _⟩,a4.other (by show pb+1≠pb;omega),a3,h.pe,h.cbp⟩⟩
theorem Br.adr {W':World} {N':aw} {S':List Nat} {v':Value} (h:Br cb pb A L c P w W ve vi vn N S) (ho:au W' w.heap.size ve v' vn N' S') (hS:∀j∈S',j∈S\/W.heap.size<=j) (ey:aR S W W'):
  aZ W' pb ve vi vn/\Br cb pb A L c P w (W'.setCell ⟨pb,1,none⟩ v') ve v' vn N' S':=by
 obtain⟨a1,a2,a3,a4,a5,a6⟩:=h.only ho hS ey;have hp:=h.pe;have hc:=h.cbp
 refine⟨a1,⟨⟨ho.ac4 (fun k hk=>Below.heap_setCell _ _ _ _ (fun e=>a2 (by have e':k=pb:=e;exact e' ▸ hk))),a1.adr,a2,a5.ac2 (fun k hk=>Below.heap_setCell _ _ _ _ (by show k≠pb;omega)),a6.setCell (p:=⟨pb,1,none⟩) (.inl (by show _<=pb;omega)) _⟩,a4.other (by show pb+1≠pb;omega),a3,h.pe,h.cbp⟩⟩
theorem Br.adn {W':World} {N':aw} {S':List Nat} {v':Value} (h:Br cb pb A L c P w W ve vi vn N S) (ho:au W' w.heap.size ve vi v' N' S') (hS:∀j∈S',j∈S\/W.heap.size<=j) (ey:aR S W W'):
  aZ W' pb ve vi vn/\Br cb pb A L c P w (W'.setCell ⟨pb,2,none⟩ v') ve vi v' N' S':=by
 obtain⟨a1,a2,a3,a4,a5,a6⟩:=h.only ho hS ey;have hp:=h.pe;have hc:=h.cbp
 refine⟨a1,⟨⟨ho.ac4 (fun k hk=>Below.heap_setCell _ _ _ _ (fun e=>a2 (by have e':k=pb:=e;exact e' ▸ hk))),a1.adn,a2,a5.ac2 (fun k hk=>Below.heap_setCell _ _ _ _ (by show k≠pb;omega)),a6.setCell (p:=⟨pb,2,none⟩) (.inl (by show _<=pb;omega)) _⟩,a4.other (by show pb+1≠pb;omega),a3,h.pe,h.cbp⟩⟩
theorem Br.ado {W':World} {T:List Nat} {v':Value} {ids':List Int} (h:Br cb pb A L c P w W ve vi vn N S) (ho:kR W' w.heap.size v' ids' T) (ey:aR vi.ownBlock.toList W W') (hT:∀j∈T,j∈vi.ownBlock.toList\/W.heap.size<=j):
  aZ W' pb ve vi vn/\∃S',Br cb pb A L c P w (W'.setCell ⟨pb,1,none⟩ v') ve v' vn { N with ids:=ids' } S':=by
 obtain⟨S',IP,Ai⟩:=h.mb.own.adm ho ey hT;obtain⟨b1,b2⟩:=h.adr IP Ai (ey.mono (h.mb.adj.2));exact⟨b1,S',b2⟩
theorem Br.adx {W':World} {T:List Nat} {v':Value} {QK:List Int} (h:Br cb pb A L c P w W ve vi vn N S) (ho:kR W' w.heap.size v' QK T) (ey:aR vn.ownBlock.toList W W') (hT:∀j∈T,j∈vn.ownBlock.toList\/W.heap.size<=j):
  aZ W' pb ve vi vn/\∃S',Br cb pb A L c P w (W'.setCell ⟨pb,2,none⟩ v') ve vi v' { N with ac1:=QK } S':=by
 obtain⟨S',IP,Ai⟩:=h.mb.own.adv ho ey hT;obtain⟨b1,b2⟩:=h.adn IP Ai (ey.mono (h.mb.adq.2));exact⟨b1,S',b2⟩
theorem Br.assign {W1:World} {P':Nat} {a b d:Value} {N':aw} {S':List Nat} (h:Br cb pb A L c P w W ve vi vn N S) (hs:aY cb W W1) (xe:bB W1 cb A L c P') (ho:au W1 W.heap.size a b d N' S'):
  Br cb pb A L c P' w (ac5 W1 pb a b d) a b d N' S':=by
 have hp:=h.pe;have hc:=h.cbp;have h1:=h.rb.lt;refine⟨h.mb.assign hs xe ho (by omega) (by omega) (by omega) h.sz,(co _ _ _ _ _ (by omega)).trans ((hs.block _ h.rb.lt (by omega)).trans h.rb),fun hj=>?_,h.pe,h.cbp⟩
 have:=(ho.range _ hj).1
 omega
theorem Br.ret (h:Br cb pb A L c P w W ve vi vn N S):au (ac5 W (pb+1) ve vi vn) w.heap.size ve vi vn N S/\bB (ac5 W (pb+1) ve vi vn) cb A L c P/\CB cb w.heap.size w (ac5 W (pb+1) ve vi vn):=h.mb.ret h.rn (by have:=h.pe;omega) (by have:=h.pe;have:=h.cbp;omega)
end
structure Bd (N:aw):Prop where
 ends:N.ends.length<=100
 row:∀(k:Nat) (es:List (Int×Int)),N.ends[k]?=some es->es.length<=200
 ids:N.ids.length<=200
 ac1:N.ac1.length<=200
theorem Bd.small {n:aw} (h:Bd n):qP n:=by
 refine⟨by have:=h.ends;omega,fun k es he=>by have:=h.row k es he;omega,?_⟩
 have h1:qf n.ends<=2*200*n.ends.length:=Lh (fun es he=>by
  obtain⟨k,hk⟩:=List.getElem?_of_mem he
  exact h.row k es hk)
 have h2:=Gm n.ends
 have h3:2*200*n.ends.length<=2*200*100:=Nat.mul_le_mul (by omega) (by have:=h.ends;omega)
 have:=h.ends
 have:=h.ids
 have:=h.ac1
 unfold gO;omega
theorem Gd.bd {R M:Nat} {n:aw} (h:Gd R M n) (hR:R<=200) (hM:M<=100):Bd n:=
 ⟨by have:=h.ends;omega,fun k es he=>by have:=h.row k es he;omega,by have:=h.ids;omega,by have:=h.ac1;have:=h.ends;omega⟩
theorem Bd.setRow {n:aw} (h:Bd n) (k:Nat) {es:List (Int×Int)} (he:es.length<=200):Bd { n with ends:=n.ends.set k es }:=by
 refine⟨by simp;exact h.ends,fun j fs hf=>?_,h.ids,h.ac1⟩
 rw[List.getElem?_set]at hf
 split at hf
 ·split at hf
  ·cases hf;exact he
  ·cases hf
 ·exact h.row j fs hf
end Go.Proofs.YtnioemnkfojmkaaGreat
