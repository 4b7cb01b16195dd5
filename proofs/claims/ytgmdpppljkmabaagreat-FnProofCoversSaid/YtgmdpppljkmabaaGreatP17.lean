/- Parts of the proof: walks of functions and plain laws. -/
import Derived.Test.YtgmdpppljkmabaaGreatP0
import Derived.Test.YtgmdpppljkmabaaGreatP16
import Derived.Test.YtgmdpppljkmabaaGreatP11
import Derived.Test.YtgmdpppljkmabaaGreatP2
import Derived.Test.YtgmdpppljkmabaaGreatP1
set_option maxRecDepth 100000
set_option maxHeartbeats 16000000
namespace Go.Proofs.YtgmdpppljkmabaaGreat
open Go Go.RowKit
theorem Gd.acR {R M:Nat} {n:aj} {v u:Nat} (h:Gd R M n) (hv:v<n.ends.length) (hu:u<n.ends.length) (h1:(cH n v).length<=4) (h2:(cH n u).length<=4) (hR:6<=R):Gd R M (dg n v u):=by
 refine⟨by rw[dZ];exact h.ends,fun k es hk=>?_,h.ids,by rw[dZ];exact h.acn,tt h.wf hv hu⟩
 have h3:=ny hk
 have pQ:k<n.ends.length:=by have:=al hk;rwa [dZ]at this
 rw[<- h3,kA hv hu];have h4:=h.row k _ (cD pQ)
 by_cases a:k=u
 ·subst a
  by_cases b:k=v
  ·subst b;rw[if_pos rfl];omega
  ·rw[if_pos rfl,if_neg b];omega
 ·rw[if_neg a]
  by_cases b:k=v
  ·subst b;rw[if_pos rfl];omega
  ·rw[if_neg b];omega
theorem Gd.acT {R M:Nat} {n:aj} {v:Nat} (h:Gd R M n) (hv:v<n.ends.length) (h1:(cH n v).length<=4) (hR:6<=R):Gd R M (kw n v):=by
 refine⟨by rw[qX];exact h.ends,fun k es hk=>?_,h.ids,by rw[qX];exact h.acn,NO h.wf hv⟩
 have h3:=ny hk
 have pQ:k<n.ends.length:=by have:=al hk;rwa [qX]at this
 rw[<- h3,K4 hv];have h4:=h.row k _ (cD pQ)
 by_cases b:k=v
 ·subst b;rw[if_pos rfl];omega
 ·rw[if_neg b];omega
theorem Le (cb:Nat) (A:Option Addr) (L c P aJ M:Nat) (w:World) (hc:cG w cb A L c P) (hP:P<=4000000000000000000) (zi:1<=aJ) (mm:aJ<=M) (hM:M<=38):
  Calls Tryz.prog 127 #[.pointer (some ⟨cb,0,none⟩),.int .i64 aJ] w (sR cb w.heap.size A L c (P+200000000000000000) w (TN 100 (M+2))):=by
 have ig:=hc.lt;obtain⟨B,rS⟩:∃z,z=w.heap.size+1:=⟨_,rfl⟩
 obtain⟨w0,bQ⟩:∃z,z=w.alloc (.cells #[.slice none 0 0,.slice none 0 0,.slice none 0 0] 27):=⟨_,rfl⟩
 have aU:ab w w0:=by rw[bQ];exact ad _ (aa _)
 have gx:w0.heap.size=B:=by rw[bQ,rS];simp
 have iy:aS w0 w.heap.size (.slice none 0 0) (.slice none 0 0) (.slice none 0 0):=by
  rw[bQ];show(w.heap.push _)[w.heap.size]?=_
  rw[Array.getElem?_push_size]
 have iH:=zh iy;have jj:=zh aU;have bS:=zh bQ;have el:=zh rS;have mA:=zh gx;have Ez:=zh (hc.since aU);clear iy aU bQ hc rS gx
 go_enter Tryz.func127,Tryz.ntmps127
 go_upto_region 1 with(fail);rw[<- bS.out];go_wp2_with fail;refine(db cb A L c P 6 w0 Ez.out (by omega) (by omega)).mono ?_;rintro e w1 ⟨x,rfl,hx,lM,lL⟩;have kB:=zh lM
 have vV:Hid (CB cb B w0 w1):=by show CB _ _ _ _;rw[<- mA.out];exact lL
 have ia:B<=w1.heap.size:=by rw[<- mA.out];exact lL.size
 have jR:cb<B:=by have:=el.out;omega
 have hx6:x<6:=by omega
 clear lM lL hx
 have V_:=vV.out.acv iH.out (by have:=el.out;omega) (by omega)
 have ab6:=zh V_;clear V_;rcases(show x=0\/x=1\/x=2\/x=3\/x=4\/x=5 by omega)with rfl | rfl | rfl | rfl | rfl | rfl
 ·go_wp2_with fail;refine(Ey cb A L c (P+2) aJ M w1 kB.out (by omega) zi mm (by omega)).mono ?_;rintro e w6 ⟨CV,CW,CX,N6,S6,rfl,dB,⟨lv,sO⟩,dq,ic⟩;obtain⟨D0,d0,rfl,-,-,-⟩:=id dB.read.1;obtain⟨D1,d1,rfl,-,-,-⟩:=id dB.read.2.1;obtain⟨D2,d2,rfl,-,-,-⟩:=id dB.read.2.2;have aD:CB cb B w0 w6:=vV.out.trans (ic.mono ia)
  have dJ:=aD.acv iH.out (by have:=el.out;omega) (by omega)
  obtain⟨e0,e1,e2,f0,f1,f2⟩:=dJ.box.cells;have aI:=dB.mono ia;rw[el.out]at aI aD;have bZ:=zh (cO jj.out aI dq aD ig);have zP:=zh lv;have FC:=zh sO;clear aD dJ aI lv dq ic dB sO;go_wp2;refine bodyPost_ret (v:=.agg #[.slice D0 N6.ends.length d0,.slice D1 N6.ids.length d1,.slice D2 N6.acn.length d2]) (by simp[results,Tryz.results127,go_sem, *]) rfl ?_;obtain⟨r1,r2,r3⟩:=bZ.out;exact⟨_,_,_,N6,S6,rfl,r1,⟨zP.out.mono (Nat.le_refl _) (by omega),FC.out⟩,r2.mono (by omega),r3⟩
 ·go_wp2_with fail;refine(vg cb A L c (P+2) aJ M w1 kB.out (by omega) zi mm (by omega)).mono ?_;rintro e w6 ⟨CV,CW,CX,N6,S6,rfl,dB,⟨lv,sO⟩,dq,ic⟩;obtain⟨D0,d0,rfl,-,-,-⟩:=id dB.read.1;obtain⟨D1,d1,rfl,-,-,-⟩:=id dB.read.2.1;obtain⟨D2,d2,rfl,-,-,-⟩:=id dB.read.2.2;have aD:CB cb B w0 w6:=vV.out.trans (ic.mono ia)
  have dJ:=aD.acv iH.out (by have:=el.out;omega) (by omega)
  obtain⟨e0,e1,e2,f0,f1,f2⟩:=dJ.box.cells;have aI:=dB.mono ia;rw[el.out]at aI aD;have bZ:=zh (cO jj.out aI dq aD ig);have zP:=zh lv;have FC:=zh sO;clear aD dJ aI lv dq ic dB sO;go_wp2;refine bodyPost_ret (v:=.agg #[.slice D0 N6.ends.length d0,.slice D1 N6.ids.length d1,.slice D2 N6.acn.length d2]) (by simp[results,Tryz.results127,go_sem, *]) rfl ?_;obtain⟨r1,r2,r3⟩:=bZ.out;exact⟨_,_,_,N6,S6,rfl,r1,⟨zP.out.mono (Nat.le_refl _) (by omega),FC.out⟩,r2.mono (by omega),r3⟩
 ·go_wp2_with fail;refine(nz cb A L c (P+2) aJ M w1 kB.out (by omega) zi mm (by omega)).mono ?_;rintro e w6 ⟨CV,CW,CX,N6,S6,rfl,dB,⟨lv,sO⟩,dq,ic⟩;obtain⟨D0,d0,rfl,-,-,-⟩:=id dB.read.1;obtain⟨D1,d1,rfl,-,-,-⟩:=id dB.read.2.1;obtain⟨D2,d2,rfl,-,-,-⟩:=id dB.read.2.2;have aD:CB cb B w0 w6:=vV.out.trans (ic.mono ia)
  have dJ:=aD.acv iH.out (by have:=el.out;omega) (by omega)
  obtain⟨e0,e1,e2,f0,f1,f2⟩:=dJ.box.cells;have aI:=dB.mono ia;rw[el.out]at aI aD;have bZ:=zh (cO jj.out aI dq aD ig);have zP:=zh lv;have FC:=zh sO;clear aD dJ aI lv dq ic dB sO;go_wp2;refine bodyPost_ret (v:=.agg #[.slice D0 N6.ends.length d0,.slice D1 N6.ids.length d1,.slice D2 N6.acn.length d2]) (by simp[results,Tryz.results127,go_sem, *]) rfl ?_;obtain⟨r1,r2,r3⟩:=bZ.out;exact⟨_,_,_,N6,S6,rfl,r1,⟨zP.out.mono (Nat.le_refl _) (by omega),FC.out⟩,r2.mono (by omega),r3⟩
 ·go_wp2_with fail;refine(nz cb A L c (P+2) aJ M w1 kB.out (by omega) zi mm (by omega)).mono ?_;rintro e w6 ⟨CV,CW,CX,N6,S6,rfl,dB,⟨lv,sO⟩,dq,ic⟩;obtain⟨D0,d0,rfl,-,-,-⟩:=id dB.read.1;obtain⟨D1,d1,rfl,-,-,-⟩:=id dB.read.2.1;obtain⟨D2,d2,rfl,-,-,-⟩:=id dB.read.2.2;have aD:CB cb B w0 w6:=vV.out.trans (ic.mono ia)
  have dJ:=aD.acv iH.out (by have:=el.out;omega) (by omega)
  obtain⟨e0,e1,e2,f0,f1,f2⟩:=dJ.box.cells;have aI:=dB.mono ia;rw[el.out]at aI aD;have bZ:=zh (cO jj.out aI dq aD ig);have zP:=zh lv;have FC:=zh sO;clear aD dJ aI lv dq ic dB sO;go_wp2;refine bodyPost_ret (v:=.agg #[.slice D0 N6.ends.length d0,.slice D1 N6.ids.length d1,.slice D2 N6.acn.length d2]) (by simp[results,Tryz.results127,go_sem, *]) rfl ?_;obtain⟨r1,r2,r3⟩:=bZ.out;exact⟨_,_,_,N6,S6,rfl,r1,⟨zP.out.mono (Nat.le_refl _) (by omega),FC.out⟩,r2.mono (by omega),r3⟩
 ·obtain⟨hf,hhd⟩:∃z:Nat,z=aJ/2:=⟨_,rfl⟩
  obtain⟨h1,hh1⟩:∃z:Nat,z=hf+1:=⟨_,rfl⟩
  have d1:(aJ:Int).tdiv 2=(hf:Int):=by rw[hhd,Int.tdiv_eq_ediv_of_nonneg (by omega)];simp
  have d2:(aJ:Int)/2=(hf:Int):=by omega
  have d3:IntKind.i64.wrap (hf:Int)=(hf:Int):=aH _ (by omega) (by omega)
  have d4:IntKind.i64.wrap ((hf:Int)+1)=(h1:Int):=by rw[aH _ (by omega) (by omega)];omega
  have aN:1<=h1/\2*h1<=M+2:=by omega
  clear hhd hh1;go_wp2_with fail;refine(nz cb A L c (P+2) h1 h1 w1 kB.out (by omega) aN.1 (Nat.le_refl _) (by omega)).mono ?_;rintro e w6 ⟨CV,CW,CX,N6,S6,rfl,dB,⟨lv,sO⟩,dq,ic⟩;obtain⟨D0,d0,rfl,-,-,-⟩:=id dB.read.1;obtain⟨D1,B_,rfl,-,-,-⟩:=id dB.read.2.1;obtain⟨D2,CY,rfl,-,-,-⟩:=id dB.read.2.2;obtain⟨w7,pI⟩:∃z,z=w6.alloc (.cells #[.slice D0 N6.ends.length d0,.slice D1 N6.ids.length B_,.slice D2 N6.acn.length CY] 27):=⟨_,rfl⟩
  obtain⟨pb,fb⟩:∃z,z=w6.heap.size:=⟨_,rfl⟩
  have Wa:ab w6 w7:=by rw[pI];exact ad _ (aa _)
  have dT:aY w7 pb (.slice D0 N6.ends.length d0) (.slice D1 N6.ids.length B_) (.slice D2 N6.acn.length CY):=by rw[pI,fb];exact aY.new _ _ _ _ _
  have YM:=zh ((dB.mono ia).keep Wa.below);have Ie:Hid (CB cb B w0 w7):=(vV.out.trans (ic.mono ia)).trans ((CB.of Wa).mono (Nat.le_trans ia ic.size));have zk:=zh (dq.since Wa);have zP:=zh lv;have FC:=zh sO
  have gX:pb≠cb:=by have:=ic.size;omega
  have Wb:Hid (B<=w7.heap.size):=Nat.le_trans (Nat.le_trans ia ic.size) Wa.below.size;have uJ:=zh dT;have Hw7:=zh pI;have eO:=zh fb;obtain⟨k0,k1,k2,-,-,-⟩:=dT.cells;have oy:=zh (And.intro k0 (And.intro k1 k2));clear dB lv sO dq ic pI fb Wa dT k0 k1 k2;go_upto_region 11 with(fail);rw[<- Hw7.out,<- eO.out];refine ax (fun W=>W.cell? ⟨pb,0,none⟩=some (.slice D0 N6.ends.length d0)/\W.cell? ⟨pb,1,none⟩=some (.slice D1 N6.ids.length B_)/\W.cell? ⟨pb,2,none⟩=some (.slice D2 N6.acn.length CY)) 7 [false,false,false,false,false,true,true] (by kernel_rfl) (by kernel_rfl) (show(World.drew w7).cell? ⟨pb,0,none⟩=some (.slice D0 N6.ends.length d0)/\(World.drew w7).cell? ⟨pb,1,none⟩=some (.slice D1 N6.ids.length B_)/\(World.drew w7).cell? ⟨pb,2,none⟩=some (.slice D2 N6.acn.length CY)from oy.out) ?_
  simp only[er,dS,zT]
  iterate 5 (apply bs rfl;(intro W hW;(obtain⟨k0,k1,k2⟩:=hW);go_simp;with_reducible rfl);simp only[zA])
  obtain⟨W,cS⟩:∃W,W=World.drew w7:=⟨_,rfl⟩
  rw[<- cS];have hW:=(show(World.drew w7).cell? ⟨pb,0,none⟩=some (.slice D0 N6.ends.length d0)/\(World.drew w7).cell? ⟨pb,1,none⟩=some (.slice D1 N6.ids.length B_)/\(World.drew w7).cell? ⟨pb,2,none⟩=some (.slice D2 N6.acn.length CY)from oy.out);rw[<- cS]at hW;have eY:=zh cS;clear cS;refine Or.inl ⟨rfl,?_⟩
  go_simp
  (with_reducible refine(Ey cb A L c _ h1 h1 W (by rw[eY.out];exact zk.out.since (ah (aa _))) (by omega) aN.1 (Nat.le_refl _) (by omega)).mono ?_)
  rintro e W' ⟨ve8,vi8,vn8,N8,S8,rfl,YN,⟨hT8,-⟩,Wc,PI⟩;refine⟨_,rfl,And.intro (au hW.1 gX _ PI) (And.intro (au hW.2.1 gX _ PI) (au hW.2.2 gX _ PI)),?_⟩
  replace hW:=And.intro (au hW.1 gX _ PI) (And.intro (au hW.2.1 gX _ PI) (au hW.2.2 gX _ PI))
  have ox:ab w7 W:=(by rw[eY.out];exact ah (aa _))
  have HC8:=zh (((dK.refl cb w7).after ox).trans PI);have pR:=zh YN;have HT8:=zh hT8;have aaH:=zh Wc;clear YN hT8 Wc PI ox;obtain⟨wp,rfl⟩:∃z,z=W':=⟨_,rfl⟩
  (try simp only[zA])
  refine Or.inl ⟨rfl,?_⟩
  go_simp
  (with_reducible refine(B9 _ _ _ _ _ _ N6 N8 _ (YM.out.seen HC8.out jR).read pR.out.read (zP.out.small (by omega) (by omega)) (HT8.out.small (by omega) (by omega)) HT8.out.wf).mono ?_)
  rintro e W' ⟨ve9,vi9,vn9,S9,rfl,gP,kN⟩;refine⟨_,rfl,And.intro (bc kN hW.1) (And.intro (bc kN hW.2.1) (bc kN hW.2.2)),?_⟩
  replace hW:=And.intro (bc kN hW.1) (And.intro (bc kN hW.2.1) (bc kN hW.2.2))
  skip
  (try simp only[zA])
  simp only[bh];obtain⟨F0,t0,rfl,-,-,-⟩:=id gP.read.1;obtain⟨F1,t1,rfl,-,-,-⟩:=id gP.read.2.1;obtain⟨F2,t2,rfl,-,-,-⟩:=id gP.read.2.2;have IY:B<=wp.heap.size:=Nat.le_trans Wb.out HC8.out.size;have JH:ab wp W':=kN;have aD:CB cb B w0 W':=(Ie.out.trans (CB.mono HC8.out Wb.out)).trans ((CB.of JH.below).mono IY)
  have dJ:=aD.acv iH.out (by have:=el.out;omega) (by omega)
  obtain⟨e0,e1,e2,f0,f1,f2⟩:=dJ.box.cells;have aI:=gP.mono IY;rw[el.out]at aI aD;have bZ:=zh (cO jj.out aI (aaH.out.since JH) aD ig);have Hg9:=zh (zP.out.union HT8.out)
  have Hl9:Hid (0<(ie N6 N8).ends.length):=by show _<_;unfold ie;rw[List.length_append];have:=FC.out;omega
  clear aD dJ aI JH gP kN IY hW;go_wp2;refine bodyPost_ret (v:=.agg #[.slice F0 (ie N6 N8).ends.length t0,.slice F1 (ie N6 N8).ids.length t1,.slice F2 (ie N6 N8).acn.length t2]) (by simp[results,Tryz.results127,go_sem, *]) rfl ?_;obtain⟨r1,r2,r3⟩:=bZ.out;exact⟨_,_,_,ie N6 N8,S9,rfl,r1,⟨Hg9.out.mono (Nat.le_refl _) (by omega),Hl9.out⟩,r2.mono (by omega),r3⟩
 ·go_wp2_with fail;refine(db cb A L c (P+2) aJ w1 kB.out (by omega) (by omega)).mono ?_;rintro e w2 ⟨x2,rfl,sa,mD,pU⟩;obtain⟨m,hm⟩:∃m:Nat,m=x2+1:=⟨_,rfl⟩
  have m1:IntKind.i64.wrap (1+(x2:Int))=(m:Int):=by rw[aH _ (by omega) (by omega)];omega
  have Pz:m<=M:=by omega
  have uf:0<m:=by omega
  have sS:=zh mD;have Mm:Hid (CB cb B w0 w2):=vV.out.trans (pU.mono ia);have wU:Hid (B<=w2.heap.size):=Nat.le_trans ia pU.size;clear mD pU sa hm;go_wp2_with fail;refine(np m (by omega) w2).mono ?_;rintro e w3 ⟨VU,VV,VW,S0,rfl,ho,bB⟩;obtain⟨N0,zj⟩:∃z,z=dy m:=⟨_,rfl⟩
  rw[<- zj]at ho
  have ml:N0.ends.length=m:=by rw[zj];simp[dy]
  have EA:Gd 100 M N0:=by rw[zj];exact(Gd.empty Pz).mono (by omega) (Nat.le_refl _)
  obtain⟨A1,c1,rfl,-,ru,-⟩:=id ho.read.1;obtain⟨AI,cI,rfl,-,-,-⟩:=id ho.read.2.1;obtain⟨AN,cN,rfl,-,-,-⟩:=id ho.read.2.2;obtain⟨w4,gU⟩:∃z,z=w3.alloc (.cells #[.slice A1 N0.ends.length c1,.slice AI N0.ids.length cI,.slice AN N0.acn.length cN] 27):=⟨_,rfl⟩
  obtain⟨pb,fb⟩:∃z,z=w3.heap.size:=⟨_,rfl⟩
  have NU:ab w3 w4:=by rw[gU];exact ad _ (aa _)
  have jJ:ab w2 w3:=bB
  have su:Mb cb B pb A L c (P+2+2) w0 w4 (.slice A1 N0.ends.length c1) (.slice AI N0.ids.length cI) (.slice AN N0.acn.length cN) N0 S0:=
   ⟨(ho.keep NU.below).mono wU.out,by rw[gU,fb];exact aY.new _ _ _ _ _,fun hj=>by have:=(ho.range _ hj).2;omega,(sS.out.since jJ).since NU,Mm.out.trans ((CB.of (jJ.after NU).below).mono wU.out)⟩
  have qW:=zh su
  have eO:Hid (B<=pb/\pb<w4.heap.size):=⟨by rw[fb];exact Nat.le_trans wU.out jJ.below.size,by rw[gU,fb];simp⟩
  have Ju:=zh gU;have qY:=zh fb;have Eh:=zh EA;have Ro:=zh ml;have dT:=su.box.cells.1
  have gX:pb≠cb:=by have:=eO.out;omega
  rw[ml]at dT;obtain⟨m2,f8⟩:∃m2:Nat,m2=2*m:=⟨_,rfl⟩
  have e2m:(2:Int)*(m:Int)=(m2:Int):=by omega
  have m20:IntKind.i64.wrap (2*(m:Int))=(m2:Int):=by rw[e2m];exact aH _ (by omega) (by omega)
  have kz:=zh f8;clear f8;clear su gU fb EA ml ho bB jJ NU zj e2m;go_upto_region 13 with(fail);rw[<- Ju.out,<- qY.out];go_wp2_with fail
  refine(db cb A L c _ (m2:Int) w4 qW.out.cur (by omega) (by have:=kz.out;omega)).mono ?_
  rintro e w5 ⟨x5,rfl,aaI,kC,rm⟩
  have hx5:x5<=100:=by have:=kz.out;omega
  have jS:=zh (qW.out.seen rm kC jR eO.out.1 (by have:=eO.out;omega))
  have Hz5:Hid (B<=w5.heap.size):=by show _<=_;have:=eO.out;have:=rm.size;omega
  clear kC rm dT aaI;go_upto_region 14 with(fail);obtain⟨Q,hQ⟩:∃z,z=P+2+2+2:=⟨_,rfl⟩
  have HQ:Hid (Q=P+2+2+2):=hQ;rw[<- hQ]at jS;clear hQ
  go_loopw [7] (fun i wr=>∃(k:Nat) (ve vi vn:Value) (N:aj) (S:List Nat),k<=100/\i=.int .i64 k/\Mb cb B pb A L c (Q+6*(100-k)) w0 wr ve vi vn N S/\Gd 100 M N/\N.ends.length=m/\B<=wr.heap.size) (fun i _=>(intOf i).toNat)
  case atStart=>exact⟨x5,_,_,_,N0,S0,hx5,rfl,⟨jS.out.own,jS.out.box,jS.out.nb,jS.out.cur.mono (by omega),jS.out.far⟩,Eh.out,Ro.out,Hz5.out⟩
  case round=>
   obtain⟨k,ve,vi,vn,N,S2,hk,rfl,hm,iG,ml,fO⟩:=hrel;obtain⟨Jf,jO,rfl,-,ww,-⟩:=id hm.own.read.1;obtain⟨pV,pW,rfl,-,-,-⟩:=id hm.own.read.2.1;obtain⟨xZ,ts,rfl,-,-,-⟩:=id hm.own.read.2.2;obtain⟨g,rfl,-⟩:=hm.own.head (by omega);have Hm:=zh hm;have iR:=zh iG;have gQ:=zh ml;have lm:=zh fO;clear hm iG ml fO
   by_cases az:0<k
   ·have e0:((0:Int)<(k:Int))=True:=by simp;omega
    have m4:IntKind.i64.wrap ((k:Int)-1)=(k:Int)-1:=aH _ (by omega) (by omega)
    have oy:=zh (show wr.cell? ⟨pb,0,none⟩=some (.slice (some ⟨g,0,none⟩) m jO)from by obtain⟨a,-⟩:=Hm.out.box.cells;rw[gQ.out]at a;exact a)
    obtain⟨wo,rfl⟩:∃z,z=wr:=⟨_,rfl⟩
    go_upto_region 16 with(fail);refine ax (fun W=>W.cell? ⟨pb,0,none⟩=some (.slice (some ⟨g,0,none⟩) m jO)) 10 [false,false,false,false,true,false,false,false,false,true] (by kernel_rfl) (by kernel_rfl) (show(World.drew wo).cell? ⟨pb,0,none⟩=some (.slice (some ⟨g,0,none⟩) m jO)from oy.out) ?_
    simp only[er,dS,zT]
    iterate 8 (apply bs rfl;(intro W hW;(have k0:=hW);go_simp;with_reducible rfl);simp only[zA])
    obtain⟨W,cS⟩:∃W,W=World.drew wo:=⟨_,rfl⟩
    rw[<- cS];have hW:=(show(World.drew wo).cell? ⟨pb,0,none⟩=some (.slice (some ⟨g,0,none⟩) m jO)from oy.out);rw[<- cS]at hW;have eY:=zh cS;clear cS;refine Or.inl ⟨rfl,?_⟩
    go_simp
    (with_reducible refine(db cb A L c (Q+6*(100-k)) (m:Int) W (by rw[eY.out];exact Hm.out.cur.since (ah (aa _))) (by have:=HQ.out;omega) (by omega)).mono ?_)
    rintro e W' ⟨a,rfl,ha,eQ,hC⟩;refine⟨_,rfl,au hW gX _ hC,?_⟩
    replace hW:=au hW gX _ hC
    have ox:ab wo W:=(by rw[eY.out];exact ah (aa _))
    have uT:=zh (((dK.refl cb wo).after ox).trans hC);have Ex:=zh eQ;have Ha:=zh ha;clear hC eQ ox ha;obtain⟨wp,rfl⟩:∃z,z=W':=⟨_,rfl⟩
    (try simp only[zA])
    refine Or.inl ⟨rfl,?_⟩
    go_simp
    (with_reducible refine(db cb A L c (Q+6*(100-k)+2) (m:Int) _ Ex.out (by have:=HQ.out;omega) (by omega)).mono ?_)
    rintro e W' ⟨b,rfl,hb,eQ,hC⟩;refine⟨_,rfl,au hW gX _ hC,?_⟩
    replace hW:=au hW gX _ hC
    have jS:=zh (Hm.out.seen (uT.out.trans hC) eQ jR eO.out.1 lm.out);have wY:Hid (B<=W'.heap.size):=Nat.le_trans lm.out (uT.out.trans hC).size;clear hC eQ
    (try simp only[zA])
    simp only[bh]
    have NQ:a<m:=by have:=Ha.out;omega
    have VX:b<m:=by omega
    clear hb;obtain⟨w5,rfl⟩:∃z,z=W':=⟨_,rfl⟩
    have Rp:=zh hW;clear hW;obtain⟨xa,ED⟩:∃z,z=cH N a:=⟨_,rfl⟩
    obtain⟨xb,EE⟩:∃z,z=cH N b:=⟨_,rfl⟩
    have Mp:=cD (n:=N) (v:=a) (by have:=gQ.out;omega)
    have IS:=cD (n:=N) (v:=b) (by have:=gQ.out;omega)
    rw[<- ED]at Mp;rw[<- EE]at IS;have Fp:xa.length<=100:=iR.out.row _ _ Mp;have qw:xb.length<=100:=iR.out.row _ _ IS;obtain⟨ua,Ta,Pb,-,VY,-,-,-⟩:=jS.out.own.acs Mp;obtain⟨AUa,cUa,rfl,-,-,-⟩:=id VY.read;obtain⟨ub,Tb,La,-,VZ,-,-,-⟩:=jS.out.own.acs IS;obtain⟨AUb,cUb,rfl,-,-,-⟩:=id VZ.read;have NR:=zh ED;have Rq:=zh EE;have pa:=ae Pb;have pq:=ae La;have p0:=ae Rp.out;have q0:=p0 w5 (aa _);have qa:=pa w5 (aa _);have qb:=pq w5 (aa _);clear ED EE Mp IS VY VZ Pb La p0 pa pq
    by_cases h5:xa.length<=4
    ·have e5:((4:Int)<(xa.length:Int))=False:=by simp;omega
     by_cases h6:xb.length<=4
     ·have e6:((4:Int)<(xb.length:Int))=False:=by simp;omega
      go_upto_region 18 with(fail);clear q0 qa qb;go_wp2_with fail
      refine(k8 cb A L c (Q+6*(100-k)+2+2) 5 w5 jS.out.cur (by have:=HQ.out;omega) (by omega)).mono ?_
      rintro e w6 ⟨bb,rfl,dq,ic⟩;have mn:=zh (jS.out.seen ic dq jR eO.out.1 wY.out);have wZ:Hid (B<=w6.heap.size):=Nat.le_trans wY.out ic.size;have vh:=mn.out.box.cells;rw[gQ.out]at vh;obtain⟨q0,q1,q2,-,-,-⟩:=vh
      have YL:Hid (aC w6 (.slice (some ⟨g,0,none⟩) m jO) (.slice pV N.ids.length pW) (.slice xZ N.acn.length ts) N):=by show aC _ _ _ _ _;have h9:=mn.out.own.read;rw[gQ.out]at h9;exact h9
      clear dq ic;cases bb
      ·go_wp2_with fail
       refine(mj _ _ _ N a b w6 YL.out (by rw[gQ.out];exact NQ) (by rw[gQ.out];exact VX) ((iR.out.mono (R':=100) (M':=40) (by omega) (by omega)).small (by omega) (by omega))).mono ?_
       rintro e w8 ⟨VL,VM,VN,S3,rfl,cZ,bx⟩;have kH:ab w6 w8:=bx;obtain⟨D0,d0,rfl,-,-,-⟩:=id cZ.read.1;obtain⟨D1,d1,rfl,-,-,-⟩:=id cZ.read.2.1;obtain⟨D2,d2,rfl,-,-,-⟩:=id cZ.read.2.2;have BZ:=mn.out.assign (CB.of kH) (mn.out.cur.since kH) cZ mn.out.box.lt jR eO.out.1 wZ.out;clear q0 q1 q2;obtain⟨k0,k1,k2,f0,f1,f2⟩:=(mn.out.box.below kH mn.out.box.lt).cells;have pH:=zh BZ
       have nw:B<=(acr w8 pb (.slice D0 (dg N a b).ends.length d0) (.slice D1 (dg N a b).ids.length d1) (.slice D2 (dg N a b).acn.length d2)).heap.size:=by rw[fX];exact Nat.le_trans wZ.out kH.below.size
       have vd:=zh nw
       have yv:=zh (iR.out.acR (v:=a) (u:=b) (by rw[gQ.out];exact NQ) (by rw[gQ.out];exact VX) (by rw[<- NR.out];exact h5) (by rw[<- Rq.out];exact h6) (by omega))
       have wQ:=zh ((dZ N a b).trans gQ.out);clear BZ cZ bx kH nw;go_wp2;go_roundw
       case rel=>exact⟨k-1,_,_,_,dg N a b,S3,by omega,by rw[show((k-1:Nat):Int)=(k:Int)-1 by omega],⟨pH.out.own,pH.out.box,pH.out.nb,pH.out.cur.mono (by omega),pH.out.far⟩,yv.out,wQ.out,vd.out⟩
       case measure=>simp[intOf];omega
      ·go_wp2_with fail
       refine(En _ _ _ N a w6 YL.out (by rw[gQ.out];exact NQ) ((iR.out.mono (R':=100) (M':=40) (by omega) (by omega)).small (by omega) (by omega))).mono ?_
       rintro e w8 ⟨VL,VM,VN,S3,rfl,cZ,bx⟩;have kH:ab w6 w8:=bx;obtain⟨D0,d0,rfl,-,-,-⟩:=id cZ.read.1;obtain⟨D1,d1,rfl,-,-,-⟩:=id cZ.read.2.1;obtain⟨D2,d2,rfl,-,-,-⟩:=id cZ.read.2.2;have BZ:=mn.out.assign (CB.of kH) (mn.out.cur.since kH) cZ mn.out.box.lt jR eO.out.1 wZ.out;clear q0 q1 q2;obtain⟨k0,k1,k2,f0,f1,f2⟩:=(mn.out.box.below kH mn.out.box.lt).cells;have pH:=zh BZ
       have nw:B<=(acr w8 pb (.slice D0 (kw N a).ends.length d0) (.slice D1 (kw N a).ids.length d1) (.slice D2 (kw N a).acn.length d2)).heap.size:=by rw[fX];exact Nat.le_trans wZ.out kH.below.size
       have vd:=zh nw
       have yv:=zh (iR.out.acT (v:=a) (by rw[gQ.out];exact NQ) (by rw[<- NR.out];exact h5) (by omega))
       have wQ:=zh ((qX N a).trans gQ.out);clear BZ cZ bx kH nw;go_wp2;go_roundw
       case rel=>exact⟨k-1,_,_,_,kw N a,S3,by omega,by rw[show((k-1:Nat):Int)=(k:Int)-1 by omega],⟨pH.out.own,pH.out.box,pH.out.nb,pH.out.cur.mono (by omega),pH.out.far⟩,yv.out,wQ.out,vd.out⟩
       case measure=>simp[intOf];omega
     ·have e6:((4:Int)<(xb.length:Int))=True:=by simp;omega
      go_wp2;go_roundw
      case rel=>exact⟨k-1,_,_,_,N,S2,by omega,by rw[show((k-1:Nat):Int)=(k:Int)-1 by omega],(⟨jS.out.own,jS.out.box,jS.out.nb,jS.out.cur.mono (by omega),jS.out.far⟩),iR.out,gQ.out,wY.out⟩
      case measure=>simp[intOf];omega
    ·have e5:((4:Int)<(xa.length:Int))=True:=by simp;omega
     go_wp2;go_roundw
     case rel=>exact⟨k-1,_,_,_,N,S2,by omega,by rw[show((k-1:Nat):Int)=(k:Int)-1 by omega],(⟨jS.out.own,jS.out.box,jS.out.nb,jS.out.cur.mono (by omega),jS.out.far⟩),iR.out,gQ.out,wY.out⟩
     case measure=>simp[intOf];omega
   ·obtain rfl:k=0:=by omega
    obtain⟨k0,k1,k2,-,-,-⟩:=Hm.out.box.cells;have kz:=Hm;have pl:=lm;obtain⟨w5,rfl⟩:∃z,z=wr:=⟨_,rfl⟩
    go_upto_region 21 with(fail);go_wp2_with fail
    refine(tr cb A L c _ B 100 M _ _ _ N S2 w5 kz.out.cur (by have:=HQ.out;omega) kz.out.own jR pl.out iR.out (by omega) (by omega) (by have:=gQ.out;omega)).mono ?_
    rintro e w6 ⟨CV,CW,CX,N6,S6,rfl,dB,⟨vf,lv⟩,dq,ic⟩;obtain⟨D0,d0,rfl,-,-,-⟩:=id dB.read.1;obtain⟨D1,d1,rfl,-,-,-⟩:=id dB.read.2.1;obtain⟨D2,d2,rfl,-,-,-⟩:=id dB.read.2.2;have aD:=(kz.out.far.mono (Nat.le_refl B)).trans ic
    have dJ:=aD.acv iH.out (by have:=el.out;omega) (by omega)
    obtain⟨e0,e1,e2,f0,f1,f2⟩:=dJ.box.cells;have aI:=dB;rw[el.out]at aI aD;have bZ:=zh (cO jj.out aI dq aD ig);have EB:=zh vf;have zP:=zh lv;clear aD dJ aI vf lv dq ic dB k0 k1 k2;go_wp2;refine bodyPost_ret (v:=.agg #[.slice D0 N6.ends.length d0,.slice D1 N6.ids.length d1,.slice D2 N6.acn.length d2]) (by simp[results,Tryz.results127,go_sem, *]) rfl ?_;obtain⟨r1,r2,r3⟩:=bZ.out
    exact⟨_,_,_,N6,S6,rfl,r1,⟨zP.out.mono (by omega) (by omega),by have:=gQ.out;have:=EB.out.len;omega⟩,r2.mono (by have:=HQ.out;omega),r3⟩
theorem Mb.acC {cb B pb:Nat} {A:Option Addr} {L c P:Nat} {w W W1:World} {ve vi vn v':Value} {N:aj} {S T:List Nat} {ids':List Int} (h:Mb cb B pb A L c P w W ve vi vn N S) (ho:j_ W1 B v' ids' T) (eH:aX vi.ownBlock.toList W W1) (hT:∀j∈T,j∈vi.ownBlock.toList\/W.heap.size<=j) (hb:cb<B) (hp:B<=pb) (hB:B<=W.heap.size):
  aY W1 pb ve vi vn/\∃S',Mb cb B pb A L c P w (W1.setCell ⟨pb,1,none⟩ v') ve v' vn { N with ids:=ids' } S'/\∀j∈S',j∈S\/W.heap.size<=j:=by
 obtain⟨S1,S2,S3,-,h2,-,h4,-⟩:=id h.own
 have hS:∀j∈vi.ownBlock.toList,j∈S:=fun j hj=>by rw[h4,h2.2];exact List.mem_append_right _ (List.mem_append_left _ hj)
 have rC:=h.box.lt;have hnI:pb∉vi.ownBlock.toList:=fun hm=>h.nb (hS _ hm)
 have dT:aY W1 pb ve vi vn:=h.box.blk (eH.block pb rC hnI);obtain⟨S',Ic,x7⟩:=h.own.acG ho eH hT
 have hn:pb∉S':=fun hj=>by
  rcases x7 _ hj with h1 | h1
  ·exact h.nb h1
  ·omega
 have ln:Below B W W1:=eH.below B hB (fun k hk=>(h.own.range k (hS k hk)).1)
 refine⟨dT,S',⟨Ic.aco (fun k hk=>Below.heap_setCell _ _ _ _ (fun e=>hn (by have e':k=pb:=e;exact e' ▸ hk))),dT.acI,hn,(h.cur.keep (fun k hk=>ln.block k (by omega))).keep (fun k hk=>Below.heap_setCell _ _ _ _ (by show k≠pb;omega)),(h.far.trans (CB.of ln)).setCell (p:=⟨pb,1,none⟩) (.inl hp) _⟩,x7⟩
theorem Mb.acO {cb B pb:Nat} {A:Option Addr} {L c P:Nat} {w W W1:World} {ve vi vn v':Value} {N:aj} {S T:List Nat} {in':List Int} (h:Mb cb B pb A L c P w W ve vi vn N S) (ho:j_ W1 B v' in' T) (eH:aX vn.ownBlock.toList W W1) (hT:∀j∈T,j∈vn.ownBlock.toList\/W.heap.size<=j) (hb:cb<B) (hp:B<=pb) (hB:B<=W.heap.size):
  aY W1 pb ve vi vn/\∃S',Mb cb B pb A L c P w (W1.setCell ⟨pb,2,none⟩ v') ve vi v' { N with acn:=in' } S'/\∀j∈S',j∈S\/W.heap.size<=j:=by
 obtain⟨S1,S2,S3,-,-,h2,h4,-⟩:=id h.own
 have hS:∀j∈vn.ownBlock.toList,j∈S:=fun j hj=>by rw[h4,h2.2];exact List.mem_append_right _ (List.mem_append_right _ hj)
 have rC:=h.box.lt;have hnI:pb∉vn.ownBlock.toList:=fun hm=>h.nb (hS _ hm)
 have dT:aY W1 pb ve vi vn:=h.box.blk (eH.block pb rC hnI);obtain⟨S',Ic,x7⟩:=h.own.acN ho eH hT
 have hn:pb∉S':=fun hj=>by
  rcases x7 _ hj with h1 | h1
  ·exact h.nb h1
  ·omega
 have ln:Below B W W1:=eH.below B hB (fun k hk=>(h.own.range k (hS k hk)).1)
 refine⟨dT,S',⟨Ic.aco (fun k hk=>Below.heap_setCell _ _ _ _ (fun e=>hn (by have e':k=pb:=e;exact e' ▸ hk))),dT.acJ,hn,(h.cur.keep (fun k hk=>ln.block k (by omega))).keep (fun k hk=>Below.heap_setCell _ _ _ _ (by show k≠pb;omega)),(h.far.trans (CB.of ln)).setCell (p:=⟨pb,2,none⟩) (.inl hp) _⟩,x7⟩
theorem Mb.acx {cb B pb:Nat} {A:Option Addr} {L c P:Nat} {w W:World} {ve vi vn:Value} {N:aj} {S:List Nat} (h:Mb cb B pb A L c P w W ve vi vn N S):j_ W B vi N.ids vi.ownBlock.toList/\∀j∈vi.ownBlock.toList,j∈S:=by
 obtain⟨S1,S2,S3,-,h2,-,h4,-⟩:=id h.own
 exact⟨⟨h2.1,rfl⟩,fun j hj=>by rw[h4,h2.2];exact List.mem_append_right _ (List.mem_append_left _ hj)⟩
theorem Mb.acS {cb B pb:Nat} {A:Option Addr} {L c P:Nat} {w W:World} {ve vi vn:Value} {N:aj} {S:List Nat} (h:Mb cb B pb A L c P w W ve vi vn N S):j_ W B vn N.acn vn.ownBlock.toList/\∀j∈vn.ownBlock.toList,j∈S:=by
 obtain⟨S1,S2,S3,-,-,h2,h4,-⟩:=id h.own
 exact⟨⟨h2.1,rfl⟩,fun j hj=>by rw[h4,h2.2];exact List.mem_append_right _ (List.mem_append_right _ hj)⟩
theorem nV (w:World) (x:Int):aO (w.alloc (.cells #[.int .i64 x] 3)) (.slice (some ⟨w.heap.size,0,none⟩) 1 1) [x]:=by
 refine⟨_,1,rfl,Nat.le_refl _,by unfold maxLen;omega,fun k y h=>?_⟩
 have hk:=al h
 have Fc:k=0:=by simp at hk;omega
 subst Fc;have hy:x=y:=by simpa using h
 subst hy;exact⟨_,_,rfl,by simp⟩
theorem Mb.acQ {cb B pb og:Nat} {A:Option Addr} {L c P:Nat} {w W W1:World} {ve vi vn v' uo:Value} {N:aj} {S T:List Nat} {y:Int} {xs:List Int} {Bo:Nat} (h:Mb cb B pb A L c P w W ve vi vn N S) (ho:j_ W1 B v' (N.ids++[y]) T) (eH:aX vi.ownBlock.toList W W1) (hT:∀j∈T,j∈vi.ownBlock.toList\/W.heap.size<=j) (hb:cb<B) (hp:B<=pb) (hB:B<=W.heap.size)
  (vj:Own W Bo uo xs) (Wd:uo.ownBlock=some og) (Ru:og∉S/\og≠pb) (hr:aS W (pb+1) (.slice none 0 0) (.slice none 0 0) (.slice none 0 0)) (hn:pb+1∉S):
  aY W1 pb ve vi vn/\∃S',Mb cb B pb A L c P w (W1.setCell ⟨pb,1,none⟩ v') ve v' vn { N with ids:=N.ids++[y] } S'/\Own (W1.setCell ⟨pb,1,none⟩ v') Bo uo xs/\aS (W1.setCell ⟨pb,1,none⟩ v') (pb+1) (.slice none 0 0) (.slice none 0 0) (.slice none 0 0)/\W.heap.size<=(W1.setCell ⟨pb,1,none⟩ v').heap.size/\pb+1∉S'/\og∉S':=by
 obtain⟨bB,S',fP,x7⟩:=h.acC ho eH hT hb hp hB;have NV:=h.acx.2;have Rv:=(World.ownsRow.lt vj og Wd).2
 refine⟨bB,S',fP,aG vj (fun j hj=>?_),?_,by rw[iV];exact eH.size,fun hj=>?_,fun hj=>?_⟩
 ·have Da:j=og:=by rw[Wd]at hj;simpa[eq_comm]using hj
  subst Da;rw[Below.heap_setCell _ _ _ _ (by exact Ru.2)];exact eH.block _ Rv (fun hm=>Ru.1 (NV _ hm))
 ·show(W1.setCell _ _).heap[pb+1]?=_
  rw[Below.heap_setCell _ _ _ _ (by show pb+1≠pb;omega),eH.block _ hr.lt (fun hm=>hn (NV _ hm))]
  exact hr
 ·rcases x7 _ hj with h1 | h1
  ·exact hn h1
  ·have:=hr.lt;omega
 ·rcases x7 _ hj with h1 | h1
  ·exact Ru.1 h1
  ·omega
theorem Mb.ret {cb B pb rb:Nat} {A:Option Addr} {L c P:Nat} {w W:World} {ve vi vn:Value} {N:aj} {S:List Nat} (h:Mb cb B pb A L c P w W ve vi vn N S) (hr:rb∉S) (hB:B<=rb) (ig:cb<B):
  ar (acr W rb ve vi vn) B ve vi vn N S/\cG (acr W rb ve vi vn) cb A L c P/\CB cb B w (acr W rb ve vi vn):=by
 refine⟨h.own.aco (fun k hk=>dY _ _ _ _ _ (fun e=>hr (e ▸ hk))),h.cur.keep (fun k hk=>dY _ _ _ _ _ (by omega)),?_⟩
 exact((h.far.setCell (p:=⟨rb,0,none⟩) (.inl hB) _).setCell (p:=⟨rb,1,none⟩) (.inl hB) _).setCell (p:=⟨rb,2,none⟩) (.inl hB) _
theorem rT (cb:Nat) (A:Option Addr) (L c P R M:Nat) (ve vi vn:Value) (n:aj) (w:World) (hc:cG w cb A L c P) (hP:P<=4500000000000000000) (h:aC w ve vi vn n) (hg:Gd R M n) (hR:R<=100) (hM:M<=100):
  Calls Tryz.prog 157 #[.pointer (some ⟨cb,0,none⟩),.agg #[ve,vi,vn]] w (sR cb w.heap.size A L c (P+1000) w (fun N=>N.ends=n.ends/\N.acn=n.acn/\N.ids.length=n.ends.length)):=by
 have ig:=hc.lt;obtain⟨A1,c1,rfl,-,ru,-⟩:=id h.1;obtain⟨AI,cI,rfl,-,-,-⟩:=id h.2.1;obtain⟨AN,cN,rfl,-,-,-⟩:=id h.2.2;obtain⟨pb,fb⟩:∃z,z=w.heap.size:=⟨_,rfl⟩
 obtain⟨w0,bQ⟩:∃z,z=w.alloc (.cells #[.slice A1 n.ends.length c1,.slice AI n.ids.length cI,.slice AN n.acn.length cN] 27):=⟨_,rfl⟩
 obtain⟨wa,jC⟩:∃z,z=w0.alloc (.cells #[.slice none 0 0,.slice none 0 0,.slice none 0 0] 27):=⟨_,rfl⟩
 have aU:ab w w0:=by rw[bQ];exact ad _ (aa _)
 have dr:ab w0 wa:=by rw[jC];exact ad _ (aa _)
 have kY:w0.heap.size=w.heap.size+1:=by rw[bQ];simp
 have lV:aY w0 pb (.slice A1 n.ends.length c1) (.slice AI n.ids.length cI) (.slice AN n.acn.length cN):=by rw[bQ,fb];exact aY.new _ _ _ _ _
 have IX:=lV.below dr (by rw[kY,fb];omega)
 have iy:aS wa (pb+1) (.slice none 0 0) (.slice none 0 0) (.slice none 0 0):=by
  rw[jC,fb,<- kY];show(w0.heap.push _)[w0.heap.size]?=_
  rw[Array.getElem?_push_size]
 have CI:ab w wa:=aU.after dr
 have eO:Hid (cb<pb/\pb+2=wa.heap.size/\pb=w.heap.size):=⟨by omega,by rw[fb,jC];simp;omega,fb⟩
 have Q9:=zh CI;have iH:=zh iy;have Rw:=zh IX;have Hca:=zh (hc.since CI);have HNa:=zh (h.keep CI.below);have Hg:=zh hg;have bS:=zh bQ;have Bx:=zh jC;have dT:=IX.cells
 have H9:n.ends.length<=100:=by have:=hg.ends;omega
 clear hc h aU dr lV iy CI IX hg bQ jC fb kY
 go_enter Tryz.func157,Tryz.ntmps157
 go_upto_region 1 with(fail);rw[<- bS.out,<- Bx.out,<- eO.out.2.2];obtain⟨x0,x1,x2,f0,f1,f2⟩:=dT;go_wp2_with fail
 refine(j6 _ _ _ n wa HNa.out (by omega) (fun k es he=>by have:=Hg.out.row k es he;omega) (Hg.out.small hR hM).sz).mono ?_
 rintro e w1 ⟨ue,ui,un,S0,rfl,ho,aN⟩;have dr:ab wa w1:=aN;obtain⟨E1,e1,rfl,-,-,-⟩:=id ho.read.1;obtain⟨EI,eI,rfl,-,-,-⟩:=id ho.read.2.1;obtain⟨EN,eN,rfl,-,-,-⟩:=id ho.read.2.2;clear x0 x1 x2 f0 f1 f2;have w_:=Rw.out.below dr Rw.out.lt;obtain⟨x0,x1,x2,f0,f1,f2⟩:=w_.cells
 have Mq:pb∉S0:=fun hj=>by have h1:=(ho.range _ hj).1;have h2:=eO.out;omega
 have iE:Mb cb w.heap.size pb A L c P w (acr w1 pb (.slice E1 n.ends.length e1) (.slice EI n.ids.length eI) (.slice EN n.acn.length eN)) (.slice E1 n.ends.length e1) (.slice EI n.ids.length eI) (.slice EN n.acn.length eN) n S0:=by
  have h0:=eO.out
  refine⟨(ho.aco (fun k hk=>dY _ _ _ _ _ (fun e=>Mq (by have e':k=pb:=e;exact e' ▸ hk)))).mono (by omega),w_.acr _ _ _,Mq,((Hca.out.since dr).keep (fun k hk=>dY _ _ _ _ _ (by omega))),?_⟩
  exact((((CB.of (Q9.out.after dr).below).mono (Nat.le_refl _)).setCell (p:=⟨pb,0,none⟩) (.inl (by show _<=pb;omega)) _).setCell (p:=⟨pb,1,none⟩) (.inl (by show _<=pb;omega)) _).setCell (p:=⟨pb,2,none⟩) (.inl (by show _<=pb;omega)) _
 have sM:aS (acr w1 pb (.slice E1 n.ends.length e1) (.slice EI n.ids.length eI) (.slice EN n.acn.length eN)) (pb+1) (.slice none 0 0) (.slice none 0 0) (.slice none 0 0):=(dY _ _ _ _ _ (by omega)).trans (iH.out.since dr)
 have dh:wa.heap.size<=(acr w1 pb (.slice E1 n.ends.length e1) (.slice EI n.ids.length eI) (.slice EN n.acn.length eN)).heap.size:=by rw[fX];exact dr.below.size
 have jU:pb+1∉S0:=fun hj=>by have h1:=(ho.range _ hj).1;have h2:=eO.out;omega
 have Ej:=zh iE;have CZ:=zh sM;have IH:=zh dh;have kG:=zh jU;have Hfz:=zh (And.intro f0 (And.intro f1 f2));clear iE sM dh jU ho aN dr w_ Mq;go_upto_region 2 with(fail);obtain⟨w2,iY⟩:∃z,z=((w1.setCell ⟨pb,0,none⟩ (.slice E1 n.ends.length e1)).setCell ⟨pb,1,none⟩ (.slice EI n.ids.length eI)).setCell ⟨pb,2,none⟩ (.slice EN n.acn.length eN):=⟨_,rfl⟩
 rw[<- iY]
 have kz:Hid (Mb cb w.heap.size pb A L c P w w2 (.slice E1 n.ends.length e1) (.slice EI n.ids.length eI) (.slice EN n.acn.length eN) n S0):=by show Mb _ _ _ _ _ _ _ _ _ _ _ _ _ _;rw[iY];exact Ej.out
 have Tc:Hid (aS w2 (pb+1) (.slice none 0 0) (.slice none 0 0) (.slice none 0 0)):=by show aS _ _ _ _ _;rw[iY];exact CZ.out
 have Gk:Hid (wa.heap.size<=w2.heap.size):=by show _<=_;rw[iY];exact IH.out
 clear iY Ej CZ IH Hfz x0 x1 x2 f0 f1 f2
 have yI:w.heap.size<=w2.heap.size:=by have h1:=Gk.out;have h2:=eO.out;omega
 have IY:w.heap.size<=pb:=by have h2:=eO.out;omega
 obtain⟨bB,S1,fP,V2⟩:=kz.out.acC (v':=.slice none 0 0) (ids':=[]) (iN _ _) (aX.refl _ _) (fun j hj=>by simp at hj) ig IY yI
 obtain⟨-,x1,-,-,f1,-⟩:=kz.out.box.cells;have lN:=zh fP
 have Hr3:Hid (aS (w2.setCell ⟨pb,1,none⟩ (.slice none 0 0)) (pb+1) (.slice none 0 0) (.slice none 0 0) (.slice none 0 0)):=Tc.out.other (by show pb+1≠pb;omega)
 have Hn3:Hid (pb+1∉S1):=fun hj=>by
  rcases V2 _ hj with h1 | h1
  ·exact kG.out h1
  ·have h2:=Gk.out;have h3:=eO.out;omega
 have Td:Hid (wa.heap.size<=(w2.setCell ⟨pb,1,none⟩ (.slice none 0 0)).heap.size):=by show _<=_;rw[iV];exact Gk.out
 clear bB fP V2 yI;go_upto_region 3 with(fail);obtain⟨w3,i8⟩:∃z,z=w2.setCell ⟨pb,1,none⟩ (.slice none 0 0):=⟨_,rfl⟩
 rw[<- i8]at lN Hr3 Td ⊢;clear i8 x1 f1;go_wp2_with fail;refine(k8 cb A L c P 2 w3 lN.out.cur (by omega) (by omega)).mono ?_;rintro e w4 ⟨small,rfl,nA,nU⟩
 have MZ:w.heap.size<=w3.heap.size:=by have h1:=Td.out;have h2:=eO.out;omega
 have sy:=zh (lN.out.seen nU nA ig IY MZ)
 have Hr4:Hid (aS w4 (pb+1) (.slice none 0 0) (.slice none 0 0) (.slice none 0 0)):=(nU.block _ Hr3.out.lt (by have:=eO.out;omega)).trans Hr3.out
 have YJ:Hid (wa.heap.size<=w4.heap.size):=Nat.le_trans Td.out nU.size;clear nA nU MZ;obtain⟨y0,-,-,-,-,-⟩:=sy.out.box.cells;go_wp2_with fail;refine(Em cb A L c (P+2) n.ends.length w4 sy.out.cur (by omega) H9).mono ?_;rintro e w5 ⟨og,xs,rfl,s_,We,kC,rm⟩
 have Ui:w.heap.size<=w4.heap.size:=by have h1:=YJ.out;have h2:=eO.out;omega
 have jS:=zh (sy.out.seen rm kC ig IY Ui)
 have Hr5:Hid (aS w5 (pb+1) (.slice none 0 0) (.slice none 0 0) (.slice none 0 0)):=(rm.block _ Hr4.out.lt (by have:=eO.out;omega)).trans Hr4.out
 have Hz5:Hid (wa.heap.size<=w5.heap.size):=Nat.le_trans YJ.out rm.size;have Mo:=zh s_;have VK:=zh We;have rh:xs.length=n.ends.length:=s_.len.symm ▸ rfl
 have Rx:Hid (og∉S1/\og≠pb/\og≠pb+1/\cb<og/\og<w5.heap.size):=by
  have h1:=(World.ownsRow.lt s_ og (by simp[Value.ownBlock]));have h2:=sy.out.box.lt;have h3:=Hr4.out.lt
  exact⟨fun hj=>by have:=(sy.out.own.range _ hj).2;omega,by omega,by omega,by omega,h1.2⟩
 clear s_ We kC rm Ui y0;have uW:=zh rh;clear rh;go_upto_region 6 with(fail)
 have gX:pb≠cb:=by have:=eO.out;omega
 go_loopw [21] (fun i wr=>∃(k:Nat) (vi:Value) (N:aj) (S:List Nat),k<=n.ends.length/\i=.int .i64 k/\Mb cb w.heap.size pb A L c (P+202+2*k) w wr (.slice E1 n.ends.length e1) vi (.slice EN n.acn.length eN) N S/\N.ends=n.ends/\N.acn=n.acn/\N.ids.length=k/\Own wr w4.heap.size (.slice (some ⟨og,0,none⟩) n.ends.length n.ends.length) xs/\aS wr (pb+1) (.slice none 0 0) (.slice none 0 0) (.slice none 0 0)/\wa.heap.size<=wr.heap.size/\pb+1∉S/\og∉S) (fun i _=>n.ends.length-(intOf i).toNat)
 case atStart=>exact⟨0,_,{ n with ids:=[] },S1,Nat.zero_le _,rfl,⟨jS.out.own,jS.out.box,jS.out.nb,jS.out.cur.mono (by omega),jS.out.far⟩,rfl,rfl,rfl,Mo.out,Hr5.out,Hz5.out,Hn3.out,Rx.out.1⟩
 case round=>
  obtain⟨k,vi,N,S,hk,rfl,hm,Wf,PJ,uI,vj,hr,hz,jU,jH⟩:=hrel;obtain⟨pV,pW,rfl,-,-,-⟩:=id hm.own.read.2.1
  have Yg:Mb cb w.heap.size pb A L c (P+202+2*k) w wr (.slice E1 n.ends.length e1) (.slice pV k pW) (.slice EN n.acn.length eN) N S:=by rw[uI]at hm;exact hm
  have Hm:=zh Yg;have Hf:=zh (And.intro Wf (And.intro PJ uI));have EG:=zh vj;have Hr:=zh hr;have Hz:=zh hz;have kG:=zh jU;have pc:=zh jH
  have YO:Hid (w.heap.size<=wr.heap.size):=by show _<=_;have h1:=eO.out;omega
  clear hm Yg Wf PJ uI vj hr hz jU jH
  by_cases az:k<n.ends.length
  ·obtain⟨x,hx⟩:=aA xs k (by rw[uW.out];exact az)
   have n9:=VK.out x (List.mem_of_getElem? hx);have c0:=EG.out.cell hx;have m3:IntKind.i64.wrap ((k:Int)+1)=(k:Int)+1:=aH _ (by omega) (by omega)
   have Hl:Hid (N.ids.length+[x+1].length<=17592186044416):=by show _<=_;have:=Hf.out.2.2;simp;omega
   cases small
   ·obtain⟨y,hy⟩:∃z,z=1+x*20000:=⟨_,rfl⟩
    have m1:IntKind.i64.wrap (x*20000)=x*20000:=aH _ (by omega) (by omega)
    have m2:IntKind.i64.wrap (1+x*20000)=y:=by rw[hy];exact aH _ (by omega) (by omega)
    have Hyb:Hid (0<=y/\y<=100000000):=by show _/\_;omega
    obtain⟨wo,rfl⟩:∃z,z=wr:=⟨_,rfl⟩
    have oy:=zh (show wo.cell? ⟨pb,1,none⟩=some (.slice pV k pW)from Hm.out.box.cells.2.1);clear n9 hx hy;go_upto_region 10 with(fail);refine ax (fun W=>W.cell? ⟨pb,1,none⟩=some (.slice pV k pW)) 10 [false,false,false,false,false,false,true,true,true,true] (by kernel_rfl) (by kernel_rfl) (show(World.drew wo).cell? ⟨pb,1,none⟩=some (.slice pV k pW)from oy.out) ?_
    simp only[er,dS,zT]
    iterate 6 (apply bs rfl;(intro W hW;(have k0:=hW);go_simp;with_reducible rfl);simp only[zA])
    obtain⟨W,cS⟩:∃W,W=World.drew wo:=⟨_,rfl⟩
    rw[<- cS];have hW:=(show(World.drew wo).cell? ⟨pb,1,none⟩=some (.slice pV k pW)from oy.out);rw[<- cS]at hW;have eY:=zh cS;clear cS;refine Or.inl ⟨rfl,?_⟩
    go_simp
    (with_reducible refine(db cb A L c (P+202+2*k) 20000 W (by rw[eY.out];exact Hm.out.cur.since (ah (aa _))) (by omega) (by omega)).mono ?_)
    rintro e W' ⟨a,rfl,ha,eQ,hC⟩;refine⟨_,rfl,au hW gX _ hC,?_⟩
    replace hW:=au hW gX _ hC
    have ox:ab wo W:=(by rw[eY.out];exact ah (aa _))
    have k7:=((dK.refl cb wo).after ox).trans hC;have x8:=zh (Hm.out.seen k7 eQ ig IY YO.out)
    have Gn:=zh (aG EG.out (fun j hj=>(show j=og by simpa[Value.ownBlock,eq_comm]using hj) ▸ k7.block og (World.ownsRow.lt EG.out og rfl).2 (by have:=Rx.out;omega)))
    have Hr7:Hid (aS W' (pb+1) (.slice none 0 0) (.slice none 0 0) (.slice none 0 0)):=(k7.block _ Hr.out.lt (by have:=eO.out;omega)).trans Hr.out
    have Wg:Hid (wa.heap.size<=W'.heap.size):=Nat.le_trans Hz.out k7.size;have Wh:Hid (w.heap.size<=W'.heap.size):=Nat.le_trans YO.out k7.size
    have m4:IntKind.i64.wrap (y+(a:Int))=y+(a:Int):=aH _ (by have:=Hyb.out;omega) (by have:=Hyb.out;omega)
    clear hC eQ ox ha k7
    (try simp only[zA])
    refine de (v:=?_) rfl ?_ hW ?_;rotate_left;(go_simp;with_reducible rfl)
    simp only[zA]
    refine ch (v:=?_) (ob:=?_) rfl ?_ ?_ ?_;rotate_left 2
    (go_simp;first | with_reducible rfl | (refine⟨?_,?_⟩ <;> with_reducible rfl))
    exact bc (ai _ _) hW;intro w8 jk jD
    replace hW:=jD
    clear jD
    have jT:ab W' w8:=(by rw[jk];exact ad _ (aa _))
    have C0:=zh (x8.out.since jT ig IY Wh.out);have pR:=zh (Own.since Gn.out jT);have Hr8:=zh (Hr7.out.since jT);have Wi:Hid (wa.heap.size<=w8.heap.size):=Nat.le_trans Wg.out jT.below.size;have Wj:Hid (w.heap.size<=w8.heap.size):=Nat.le_trans Wh.out jT.below.size
    have Hi8:Hid (aO w8 (.slice (some ⟨W'.heap.size,0,none⟩) 1 1) [y+(a:Int)]):=(by show aO _ _ _;rw[jk];exact nV _ _)
    have Wk:=zh C0.out.acx.1.1;have Hl8:Hid (N.ids.length+[y+(a:Int)].length<=17592186044416):=Hl.out;clear jk jT
    (try simp only[zA])
    refine df (fun Q' HQ=>?_)
    (refine fY (base:=w.heap.size) (v:=.slice pV k pW) (xs:=N.ids) rfl _ _ rfl rfl Wk.out rfl Hi8.out Hl8.out Wj.out ?_);intro v' w9 T gP dL PK;obtain⟨V,mV,cV,rfl⟩:=gm.one gP;obtain⟨kN,S9,FS,Ca,Wl,Lf,Wm,Cb⟩:=C0.out.acQ gP dL PK ig IY Wj.out pR.out rfl ⟨pc.out,Rx.out.2.1⟩ Hr8.out kG.out;refine HQ _ _ kN.cells.2.1 ?_;clear gP dL PK;have rU:=zh FS;have tg:=zh Ca;have Hr9:=zh Wl;have oz:=zh Lf;have V9:=zh Wm;have Lg:=zh Cb;clear FS Ca Wl Lf Wm Cb;obtain⟨x0,x1,x2,f0,f1,f2⟩:=kN.cells;clear kN
    (try simp only[zA])
    simp only[bh];go_wp2;go_roundw
    case rel=>exact⟨k+1,_,_,S9,by omega,by first | rfl | go_num,⟨rU.out.own,rU.out.box,rU.out.nb,rU.out.cur.mono (by omega),rU.out.far⟩,Hf.out.1,Hf.out.2.1,by have:=Hf.out.2.2;simp;omega,tg.out,Hr9.out,Nat.le_trans Wi.out oz.out,V9.out,Lg.out⟩
    case measure=>simp[intOf];omega
   ·have m1:IntKind.i64.wrap (x+1)=x+1:=aH _ (by omega) (by omega);have jT:ab wr (wr.alloc (.cells #[.int .i64 (x+1)] 3)):=ad _ (aa _);have Wn:=zh (Hm.out.since jT ig IY YO.out);have HoA:=zh (EG.out.since jT);have HrA:=zh (Hr.out.since jT);have Wo:Hid (wa.heap.size<=(wr.alloc (.cells #[.int .i64 (x+1)] 3)).heap.size):=Nat.le_trans Hz.out jT.below.size;have Wp:Hid (w.heap.size<=(wr.alloc (.cells #[.int .i64 (x+1)] 3)).heap.size):=Nat.le_trans YO.out jT.below.size;obtain⟨x0,x1,x2,f0,f1,f2⟩:=Hm.out.box.cells;have aI:=Wn.out.acx.1.1;have If:=zh aI;clear jT n9 hx aI
    go_wp2_with (at_builtin;refine fY (base:=w.heap.size) rfl _ _ rfl rfl If.out rfl (nV _ _) Hl.out Wp.out ?_;intro v' w9 T gP dL PK;obtain⟨V,mV,cV,rfl⟩:=gm.one gP;obtain⟨kN,S9,FS,Ca,Wl,Lf,Wm,Cb⟩:=Wn.out.acQ gP dL PK ig IY Wp.out HoA.out rfl ⟨pc.out,Rx.out.2.1⟩ HrA.out kG.out;clear x0 x1 x2 f0 f1 f2 gP dL PK;have rU:=zh FS;have tg:=zh Ca;have Hr9:=zh Wl;have oz:=zh Lf;have V9:=zh Wm;have Lg:=zh Cb;clear FS Ca Wl Lf Wm Cb;obtain⟨x0,x1,x2,f0,f1,f2⟩:=kN.cells;clear kN)
    go_roundw
    case rel=>exact⟨k+1,_,_,S9,by omega,by first | rfl | go_num,⟨rU.out.own,rU.out.box,rU.out.nb,rU.out.cur.mono (by omega),rU.out.far⟩,Hf.out.1,Hf.out.2.1,by have:=Hf.out.2.2;simp;omega,tg.out,Hr9.out,Nat.le_trans Wo.out oz.out,V9.out,Lg.out⟩
    case measure=>simp[intOf];omega
  ·obtain rfl:k=n.ends.length:=by omega
   clear az hk;obtain⟨k0,k1,k2,-,-,-⟩:=Hm.out.box.cells;obtain⟨e0,Ee,e2,f0,f1,f2⟩:=Hr.out.box.cells;have bZ:=zh (Hm.out.ret (rb:=pb+1) kG.out (by omega) ig);go_wp2;refine bodyPost_ret (v:=.agg #[.slice E1 n.ends.length e1,.slice pV n.ends.length pW,.slice EN n.acn.length eN]) (by simp[results,Tryz.results157,go_sem, *]) rfl ?_;obtain⟨r1,r2,r3⟩:=bZ.out;exact⟨_,_,_,N,S,rfl,r1,Hf.out,r2.mono (by omega),r3⟩
theorem Ig:(Tryz.prog.info? 25).map (fun i=>(i.zero,i.size,i.bytes))=some (some (.slice none 0 0),1,24):=by kernel_rfl
theorem zl (n:Nat) (hn:n<=1000000) (W:World):(Instr.makeSlice 30 (.int .i64 (n:Int)) (.int .i64 (n:Int))).run Tryz.prog W=.ok (.slice (some ⟨W.heap.size,0,none⟩) n n) (W.alloc (.cells (Array.replicate n (Value.slice none 0 0)) 25)):=by
 obtain⟨i0,hi,gx,dh,dt⟩:=info_parts Ig
 have hr:=run_make (P:=Tryz.prog) W 30 25 i0 (.slice none 0 0) Tryz.underlying30 hi gx .i64 .i64 n n (by omega) (Int.le_refl _) (by rw[dt];omega) (by omega)
 rw[dh]at hr;simp only[Int.toNat_natCast]at hr;rw[show(Value.slice none 0 0).cells=#[Value.slice none 0 0]from rfl,qm]at hr
 exact hr
abbrev Cc:=bu (β:=List Int) 25 j_
theorem EH (w:World) (n:Nat) (hn:n<=1000000):Cc (w.alloc (.cells (Array.replicate n (Value.slice none 0 0)) 25)) w.heap.size (.slice (some ⟨w.heap.size,0,none⟩) n n) (List.replicate n []) [w.heap.size]:=by
 have:=bu.made (R:=j_) (e:=25) n (by simp[maxLen];omega) iN w
 rw[List.toArray_replicate]at this;exact this
theorem EJ (vm:Value) (m:List Int) (K:Nat) (w:World) (hm:aO w vm m) (hr:∀x∈m,0<=x/\x<K) (hK:K<=100) (Fk:m.length<=200):
  Calls Tryz.prog 183 #[vm,.int .i64 K] w fun e w'=>∃u st S,e=.returned u/\(∃g c,u=.slice (some ⟨g,0,none⟩) K c)/\Cc w' w.heap.size u st S/\st.length=K/\(∀x∈m,st.getD x.toNat []≠[])/\(∀r∈st,r.length<=200)/\Below w.heap.size w w':=by
 have HM:=zh hm;obtain⟨AM,cm,rfl,hmc,UP,-⟩:=hm;unfold maxLen at UP;have mk:=zl K (by omega);have Ry:=EH w K (by omega);obtain⟨w1,pf⟩:∃z,z=w.alloc (.cells (Array.replicate K (Value.slice none 0 0)) 25):=⟨_,rfl⟩
 obtain⟨g,hg⟩:∃g,g=w.heap.size:=⟨_,rfl⟩
 rw[<- pf,<- hg]at Ry;have YP:=zh Ry;have Hg:=zh hg;have Rz:=zh pf;have Hr:=zh hr
 have dM:Hid (ab w w1):=by show ab _ _;rw[pf];exact ad _ (aa _)
 obtain⟨M,hM⟩:∃M,m.length=M:=⟨_,rfl⟩
 rw[hM]at hmc Fk ⊢;have UT:=zh hM;clear Ry hg pf hr hM
 go_enter Tryz.func183,Tryz.ntmps183
 go_upto_region 2 with(fail);rw[<- Rz.out,<- Hg.out];go_wp2
 go_loopw [12] (fun i wr=>∃(k:Nat) (st:List (List Int)) (S:List Nat),k<=M/\i=.int .i64 k/\Cc wr w.heap.size (.slice (some ⟨g,0,none⟩) K K) st S/\st.length=K/\(∀j x,j<k->m[j]?=some x->st.getD x.toNat []≠[])/\(∀r∈st,r.length<=k)/\ab w wr) (fun i _=>M-(intOf i).toNat)
 case atStart=>exact⟨0,List.replicate K [],_,Nat.zero_le _,rfl,by have h7:=YP.out;rw[Hg.out]at h7 ⊢;exact h7,by simp,fun j x hj=>by omega,fun r hr=>by rw[List.eq_of_mem_replicate hr];simp,dM.out⟩
 case round=>
  obtain⟨k,st,S,hk,rfl,ho,hl,iJ,q8,hs⟩:=hrel
  by_cases az:k<M
  ·have m3:IntKind.i64.wrap ((k:Int)+1)=(k:Int)+1:=aH _ (by omega) (by omega)
   obtain⟨x0,lp⟩:=aA m k (by have:=UT.out;omega)
   have n9:=Hr.out x0 (List.mem_of_getElem? lp);obtain⟨x,rfl⟩:=Int.eq_ofNat_of_zero_le n9.1;obtain⟨r,Pw⟩:=aA st x (by omega);obtain⟨_,_,eM,-,-,UU⟩:=HM.out;cases eM;obtain⟨bm,om,rfl,Pc⟩:=UU k _ lp;have d1:=ae Pc wr hs;obtain⟨u,T,hu,hf,hR,MA,Gc,Dh⟩:=bu.at_ ho Pw;obtain⟨u',T',vZ,OQ,Qc,Jj,mp⟩:=bu.grow gm ho Pw;obtain rfl:u=u':=Option.some.inj (hu.symm.trans vZ)
   have IS:=n9.2;have Ho:=zh OQ.1
   have Wq:Hid (r.length+1<=17592186044416):=by show _<=_;have:=q8 r (List.mem_of_getElem? Pw);omega
   have Hs:=zh hs;have KB:=zh mp;have Rp:=zh lp;obtain⟨AU,cU,rfl,-,-,-⟩:=id OQ.1.ints;have HT:Hid (T'=(Value.slice AU r.length cU).ownBlock.toList):=OQ.2;have tq:g<wr.heap.size:=((jv 25 gm).range ho g Dh).2;clear ho hR OQ MA Qc Gc Dh mp vZ lp n9 UU Pc hs
   go_wp2_with (at_builtin;refine fY (v:=.slice AU r.length cU) (base:=w.heap.size) rfl _ _ rfl rfl (Ho.out.since (ad _ (aa _))) rfl (nV _ _) Wq.out (ad _ Hs.out).below.size ?_;intro v' w4 T4 mW qP hT4;obtain⟨V,mV,cV,rfl⟩:=gm.one mW;have eH:aX T' wr w4:=(aX.acH (ad _ (aa _)).below).trans (by rw[HT.out];exact qP);have c4:=(World.cell?_of_block (a:=⟨g,x,none⟩) (eH.block g tq Jj)).trans hu;have f4:=aX.fz eH (p:=⟨g,x,none⟩) Jj hu hf)
   go_roundw
   case rel=>
    have vJ:=KB.out _ _ _ _ mW eH (fun j hj=>by
     rcases hT4 j hj with h7 | h7
     ·exact .inl (by rw[HT.out];exact h7)
     ·exact .inr (by simp at h7;omega))
    obtain⟨S',q1,q2⟩:=vJ;have zI:ab w w4:=aX.since (ab.trans Hs.out (ad _ (aa _))) qP (fun q hq=>(World.ownsRow.lt Ho.out q (Option.mem_toList.1 hq)).1)
    refine⟨k+1,st.set x (r++[(k:Int)]),S',by omega,by first | rfl | go_num,q1,by rw[List.length_set];exact hl,fun j y hj hy=>?_,fun q hq=>?_,Below.setCell zI (by show _<=g;rw[Hg.out];exact Nat.le_refl _) _⟩
    ·by_cases CH:x=y.toNat
     ·rw[zDd,List.getElem?_set,if_pos CH,if_pos (by omega)];simp
     ·rw[zDd,List.getElem?_set,if_neg CH,<- zDd];refine iJ j y ?_ hy
      by_cases ld:j=k
      ·subst ld;have h9:=Option.some.inj (hy.symm.trans Rp.out);omega
      ·omega
    ·rcases List.mem_or_eq_of_mem_set hq with h9 | h9
     ·have:=q8 q h9;omega
     ·have:=q8 r (List.mem_of_getElem? Pw)
      rw[h9,List.length_append];show _+1<=_
      omega
   case measure=>simp[intOf];omega
  ·obtain rfl:k=M:=by omega
   go_wp2;go_ret;refine⟨_,st,S,rfl,⟨g,K,rfl⟩,ho,hl,fun x hx=>?_,fun r hr=>Nat.le_trans (q8 r hr) Fk,hs.below⟩
   obtain⟨j,hj⟩:=List.mem_iff_getElem?.1 hx
   exact iJ j x (by have:=al hj;have:=UT.out;omega) hj
theorem vo:∀args w,(callFunc 184 args).run Tryz.prog w=.ok (.enter 184 args) w:=enters_of Tryz.func184 (by kernel_rfl) rfl
theorem Cd (A:Option Addr) (L c:Nat) (w:World) (hL:0<L) (h2:L<=1000):
  Calls Tryz.prog 184 #[.slice A L c] w fun e w'=>e=.returned (.bool false)/\w=w':=by
 have e1:((L:Int)==0)=false:=by simp;omega
 go_enter Tryz.func184,Tryz.ntmps184
 go_wp2;go_ret;exact⟨rfl,rfl⟩
theorem vq (B g K c:Nat) (st:List (List Int)) (S:List Nat) (w:World) (h:Cc w B (.slice (some ⟨g,0,none⟩) K c) st S) (hK:K<=1000) (hl:st.length=K) (iJ:∀r∈st,0<r.length/\r.length<=1000):
  Calls Tryz.prog 216 #[.slice (some ⟨g,0,none⟩) K c,.func (.func 184) #[] #[]] w fun e w'=>e=.returned (.int .i64 (-1))/\Below w.heap.size w w':=by
 have H:=zh h;have D_:=zh iJ;have eg:=vo;clear h iJ
 go_enter Tryz.func216,Tryz.ntmps216
 go_wp2
 go_loopw [8] (fun i wr=>∃k:Nat,k<=K/\i=.int .i64 k/\Below w.heap.size w wr) (fun i _=>K-(intOf i).toNat)
 case atStart=>exact⟨0,Nat.zero_le _,rfl,Below.refl _ _⟩
 case round=>
  obtain⟨k,hk,rfl,hb⟩:=hrel;have Hb:=zh hb;clear hb
  by_cases az:k<K
  ·obtain⟨r,hr⟩:=aA st k (by omega);obtain⟨yK,sM⟩:=D_.out r (List.mem_of_getElem? hr);obtain⟨u,T,hu,-,hR,-,-,-⟩:=bu.at_ H.out hr;obtain⟨AU,cU,rfl,-,hm,-⟩:=id hR.1.ints;have d1:=ae hu wr Hb.out;have m3:IntKind.i64.wrap ((k:Int)+1)=(k:Int)+1:=aH _ (by omega) (by omega);clear hr hu hR hm;go_wp2_with fail;refine(Cd AU r.length cU wr yK sM).mono ?_;rintro e w1 ⟨rfl,rfl⟩;go_wp2;go_roundw
   case rel=>exact⟨k+1,by omega,by go_num,Hb.out⟩
   case measure=>simp[intOf];omega
  ·go_wp2;go_ret;exact⟨rfl,Hb.out⟩
theorem sT (B g K c:Nat) (st:List (List Int)) (S:List Nat) (w:World) (h:Cc w B (.slice (some ⟨g,0,none⟩) K c) st S) (hK:K<=1000) (hl:st.length=K) (iJ:∀r∈st,0<r.length/\r.length<=1000):
  Calls Tryz.prog 182 #[.slice (some ⟨g,0,none⟩) K c,.func (.func 184) #[] #[]] w fun e w'=>e=.returned (.bool false)/\Below w.heap.size w w':=by
 have Hb:=zh (vq B g K c st S w h hK hl iJ);clear h iJ
 go_enter Tryz.func182,Tryz.ntmps182
 go_wp2_with fail;refine Hb.out.mono ?_;rintro e w1 ⟨rfl,aN⟩;have gO:=zh aN;clear aN;go_wp2;go_ret;exact⟨rfl,gO.out⟩
theorem EK (ve vi vn vm:Value) (b:aj) (m:List Int) (w:World) (hb:aC w ve vi vn b) (hm:aO w vm m) (hr:∀x∈m,0<=x/\x<b.ends.length) (hK:b.ends.length<=100) (Fk:m.length<=200) (Ce:∀v:Nat,v<b.ends.length->(v:Int)∈m):
  Calls Tryz.prog 120 #[.agg #[ve,vi,vn],vm] w fun e w'=>e=.returned (.bool true)/\Below w.heap.size w w':=by
 obtain⟨w0,bQ⟩:∃z,z=w.alloc (.cells #[ve,vi,vn] 27):=⟨_,rfl⟩
 have aU:ab w w0:=by rw[bQ];exact ad _ (aa _)
 have HF:=zh (EJ vm m b.ends.length w0 (hm.keep aU.below) hr hK Fk);obtain⟨⟨A,c,rfl,-,-,-⟩,⟨A2,c2,rfl,-,-,-⟩,⟨A3,c3,rfl,-,-,-⟩⟩:=hb;obtain⟨AM,cm,rfl,-,-,-⟩:=hm
 have q0:=ae (w0:=w0) (p:=⟨w.heap.size,0,none⟩) (v:=.slice A b.ends.length c) (by rw[bQ];simp) w0 (aa _)
 have jj:=zh aU;have bS:=zh bQ;have Ho:=zh Ce;clear aU bQ Ce hr
 go_enter Tryz.func120,Tryz.ntmps120
 go_upto_region 1 with(fail);rw[<- bS.out];go_wp2_with fail;refine HF.out.mono ?_;rintro e w1 ⟨u,st,S,rfl,⟨g,cc,rfl⟩,ho,hl,iJ,q8,aN⟩
 have pw:∀r∈st,0<r.length/\r.length<=1000:=fun r hr=>by
  obtain⟨v,hv⟩:=List.mem_iff_getElem?.1 hr
  have h1:=iJ _ (Ho.out v (by have:=al hv;omega))
  rw[Int.toNat_natCast,ao hv]at h1
  exact⟨List.length_pos_iff.2 h1,by have:=q8 r hr;omega⟩
 have HC:=zh (sT _ g _ cc st S w1 ho (by omega) hl pw);have gO:=zh aN;clear ho hl iJ q8 aN pw;go_wp2_with fail;refine HC.out.mono ?_;rintro e w2 ⟨rfl,bx⟩;have sG:=zh bx;clear bx;go_wp2;go_ret;exact⟨rfl,Below.trans jj.out.below ((gO.out.trans (sG.out.mono gO.out.size)).mono jj.out.below.size)⟩
theorem vr (ve vi vn we wi wn vm:Value) (a b:aj) (m:List Int) (w:World) (ha:aC w ve vi vn a) (hb:aC w we wi wn b) (hm:aO w vm m) (hp:PM a b m) (hn:ak a=true) (hk:ak b=true) (IQ:a.ids.length<=17592186044416) (IR:b.ids.length<=17592186044416) (Ce:∀v:Nat,v<b.ends.length->(v:Int)∈m):
  Calls Tryz.prog 46 #[.agg #[ve,vi,vn],.agg #[we,wi,wn],vm] w fun e w'=>e=.returned (.tuple #[.bool true,.bool true])/\Below w.heap.size w w':=by
 obtain⟨w0,bQ⟩:∃z,z=(w.alloc (.cells #[ve,vi,vn] 27)).alloc (.cells #[we,wi,wn] 27):=⟨_,rfl⟩
 have aU:ab w w0:=by rw[bQ];exact ad _ (ad _ (aa _))
 have Mi:=zh (ha.keep aU.below);have Kq:=zh (hb.keep aU.below);have HM:=zh (hm.keep aU.below);obtain⟨⟨A,c,rfl,-,-,-⟩,⟨A2,c2,rfl,-,-,-⟩,⟨A3,c3,rfl,-,-,-⟩⟩:=ha;obtain⟨⟨B,d,rfl,-,-,-⟩,⟨B2,d2,rfl,-,-,-⟩,⟨B3,d3,rfl,-,-,-⟩⟩:=hb;obtain⟨AM,cm,rfl,-,-,-⟩:=hm
 have Nq:=zh (ae (w0:=w0) (p:=⟨w.heap.size,0,none⟩) (v:=.slice A a.ends.length c) (by rw[bQ];simp))
 have QU:=zh (ae (w0:=w0) (p:=⟨w.heap.size,1,none⟩) (v:=.slice A2 a.ids.length c2) (by rw[bQ];simp))
 have Nr:=zh (ae (w0:=w0) (p:=⟨w.heap.size,2,none⟩) (v:=.slice A3 a.acn.length c3) (by rw[bQ];simp))
 have Kr:=zh (ae (w0:=w0) (p:=⟨w.heap.size+1,0,none⟩) (v:=.slice B b.ends.length d) (by rw[bQ];simp))
 have Pd:=zh (ae (w0:=w0) (p:=⟨w.heap.size+1,1,none⟩) (v:=.slice B2 b.ids.length d2) (by rw[bQ];simp))
 have Mj:=zh (ae (w0:=w0) (p:=⟨w.heap.size+1,2,none⟩) (v:=.slice B3 b.acn.length d3) (by rw[bQ];simp))
 have jj:=zh aU;have bS:=zh bQ;have Hp:=zh hp;have Hn:=zh hn;have Hk:=zh hk;have Yq:=zh IQ;have Yr:=zh IR;have sJ:=zh Ce;have Fp:=aB hn;have qw:=aB hk;have Fk:=hp.len
 have YQ:Hid (b.ends.length<=100/\m.length<=200):=by show _/\_;omega
 have q0:=Nq.out w0 (aa _);have q1:=QU.out w0 (aa _);have q2:=Nr.out w0 (aa _);clear aU bQ hp hn hk IQ IR Ce Fp qw Fk
 go_enter Tryz.func46,Tryz.ntmps46
 go_upto_region 1 with(fail);rw[<- bS.out];go_wp2_with fail;refine(ec _ _ _ a w0 Mi.out Yq.out).mono ?_;rw[Hn.out];rintro e w1 ⟨rfl,aN⟩;have dM:=zh (show ab w0 w1 from aN);clear aN q0 q1 q2;have q0:=Kr.out w1 dM.out;have q1:=Pd.out w1 dM.out;have q2:=Mj.out w1 dM.out;go_wp2_with fail;refine(ec _ _ _ b w1 (Kq.out.keep dM.out.below) Yr.out).mono ?_;rw[Hk.out];rintro e w2 ⟨rfl,bx⟩;have cW:=zh (dM.out.after (show ab w1 w2 from bx));clear bx q0 q1 q2;have q0:=Kr.out w2 cW.out;have q1:=Pd.out w2 cW.out;have q2:=Mj.out w2 cW.out;have r0:=Nq.out w2 cW.out;have r1:=QU.out w2 cW.out;have r2:=Nr.out w2 cW.out;go_wp2_with fail;refine(oT _ _ _ _ _ _ _ a b m w2 (Mi.out.keep cW.out.below) (Kq.out.keep cW.out.below) (HM.out.keep cW.out.below) Hp.out Hn.out Hk.out).mono ?_;rintro e w3 ⟨rfl,bB⟩;have gZ:=zh (cW.out.after (show ab w2 w3 from bB));clear bB q0 q1 q2 r0 r1 r2;have q0:=Kr.out w3 gZ.out;have q1:=Pd.out w3 gZ.out;have q2:=Mj.out w3 gZ.out;go_wp2_with fail;refine(EK _ _ _ _ b m w3 (Kq.out.keep gZ.out.below) (HM.out.keep gZ.out.below) Hp.out.rng YQ.out.1 YQ.out.2 sJ.out).mono ?_;rintro e w4 ⟨rfl,vL⟩;have te:=zh (gZ.out.after (show ab w3 w4 from vL));clear vL q0 q1 q2;go_wp2;refine bodyPost_ret (v:=.tuple #[.bool true,.bool true]) (by simp[results,Tryz.results46,go_sem, *]) rfl ?_;exact⟨rfl,Below.trans jj.out.below (te.out.below.mono jj.out.below.size)⟩
theorem vt (ve vi vn:Value) (n:aj) (w:World) (h:aC w ve vi vn n) (hl:n.ids.length<=17592186044416):
  Calls Tryz.prog 118 #[.agg #[ve,vi,vn]] w fun e w'=>((ak n=true/\e=.returned (.tuple #[.agg #[ve,vi,vn],.bool true]))\/(ak n=false/\e=.returned (.tuple #[.agg #[.slice none 0 0,.slice none 0 0,.slice none 0 0],.bool false])))/\Below w.heap.size w w':=by
 have lV:Below w.heap.size w ((w.alloc (.cells #[ve,vi,vn] 27)).alloc (.cells #[.slice none 0 0,.slice none 0 0,.slice none 0 0] 27)):=(ai _ _).alloc (by simp) _;have H:=zh (h.keep lV);obtain⟨⟨A1,c1,rfl,_,_,_⟩,⟨A2,c2,rfl,_,_,_⟩,⟨A3,c3,rfl,_,_,_⟩⟩:=h;have aT:=zh lV;clear lV;obtain⟨q,hq⟩:∃q,ak n=q:=⟨_,rfl⟩
 have Hq:=zh hq;clear hq
 go_enter Tryz.func118,Tryz.ntmps118
 go_wp2_with fail;refine(ec _ _ _ n _ H.out hl).mono ?_;rw[Hq.out];rintro e w1 ⟨rfl,hb⟩;have lp:=(aY.new w (.slice A1 n.ends.length c1) (.slice A2 n.ids.length c2) (.slice A3 n.acn.length c3) 27).alloc (.cells #[.slice none 0 0,.slice none 0 0,.slice none 0 0] 27);have pN:=aY.new (w.alloc (.cells #[.slice A1 n.ends.length c1,.slice A2 n.ids.length c2,.slice A3 n.acn.length c3] 27)) (.slice none 0 0) (.slice none 0 0) (.slice none 0 0) 27;simp only[World.size_alloc]at pN
 obtain⟨r0,r1,r2,_⟩:=(lp.below hb (by simp;omega)).cells
 obtain⟨s0,s1,s2,t0,t1,t2⟩:=(pN.below hb (by simp)).cells
 have Hb:=zh (aT.out.trans (hb.mono (by simp;omega)))
 clear lp pN hb;cases q
 ·go_wp2;refine bodyPost_ret (v:=.tuple #[.agg #[.slice none 0 0,.slice none 0 0,.slice none 0 0],.bool false]) (by simp[results,Tryz.results118,go_sem, *]) rfl ?_;exact⟨.inr ⟨Hq.out,rfl⟩,((Hb.out.setCell (by simp) _).setCell (by simp) _).setCell (by simp) _⟩
 ·go_wp2;refine bodyPost_ret (v:=.tuple #[.agg #[.slice A1 n.ends.length c1,.slice A2 n.ids.length c2,.slice A3 n.acn.length c3],.bool true]) (by simp[results,Tryz.results118,go_sem, *]) rfl ?_;exact⟨.inl ⟨Hq.out,rfl⟩,((Hb.out.setCell (by simp) _).setCell (by simp) _).setCell (by simp) _⟩
end Go.Proofs.YtgmdpppljkmabaaGreat
