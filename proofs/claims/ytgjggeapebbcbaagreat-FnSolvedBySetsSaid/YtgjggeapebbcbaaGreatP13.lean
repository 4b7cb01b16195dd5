/- Parts of the proof: walks of functions and plain laws. -/
import Derived.Test.YtgjggeapebbcbaaGreatP0
import Derived.Test.YtgjggeapebbcbaaGreatP12
set_option maxRecDepth 100000
set_option maxHeartbeats 16000000
namespace Go.Proofs.YtgjggeapebbcbaaGreat
open Go Go.RowKit
theorem Gd.aaB {R M:Nat} {n:am} {v u:Nat} (h:Gd R M n) (hv:v<n.ends.length) (hu:u<n.ends.length) (h1:(bg n v).length<=4) (h2:(bg n u).length<=4) (hR:6<=R):Gd R M (bC n v u):=by
 refine⟨by rw[b_];exact h.ends,fun k es hk=>?_,h.ids,by rw[b_];exact h.aaa,n7 h.wf hv hu⟩
 have h3:=j4 hk
 have mZ:k<n.ends.length:=by have:=ai hk;rwa [b_]at this
 rw[<- h3,gY hv hu];have h4:=h.row k _ (a_ mZ)
 by_cases a:k=u
 ·subst a
  by_cases b:k=v
  ·subst b;rw[if_pos rfl];omega
  ·rw[if_pos rfl,if_neg b];omega
 ·rw[if_neg a]
  by_cases b:k=v
  ·subst b;rw[if_pos rfl];omega
  ·rw[if_neg b];omega
theorem Gd.aaD {R M:Nat} {n:am} {v:Nat} (h:Gd R M n) (hv:v<n.ends.length) (h1:(bg n v).length<=4) (hR:6<=R):Gd R M (gT n v):=by
 refine⟨by rw[l3];exact h.ends,fun k es hk=>?_,h.ids,by rw[l3];exact h.aaa,El h.wf hv⟩
 have h3:=j4 hk
 have mZ:k<n.ends.length:=by have:=ai hk;rwa [l3]at this
 rw[<- h3,Cf hv];have h4:=h.row k _ (a_ mZ)
 by_cases b:k=v
 ·subst b;rw[if_pos rfl];omega
 ·rw[if_neg b];omega
theorem L_ (cb:Nat) (A:Option Addr) (L c P most M:Nat) (w:World) (hc:cW w cb A L c P) (hP:P<=4000000000000000000) (zv:1<=most) (qn:most<=M) (hM:M<=38):
  Calls Tryz.prog 115 #[.pointer (some ⟨cb,0,none⟩),.int .i64 most] w (tO cb w.heap.size A L c (P+200000000000000000) w (TN 100 (M+2))):=by
 have jw:=hc.lt;obtain⟨B,rT⟩:∃z,z=w.heap.size+1:=⟨_,rfl⟩
 obtain⟨w0,au⟩:∃z,z=w.alloc (.cells #[.slice none 0 0,.slice none 0 0,.slice none 0 0] 27):=⟨_,rfl⟩
 have aX:aa w w0:=by rw[au];exact ae _ (ab _)
 have eS:w0.heap.size=B:=by rw[au,rT];simp
 have j1:aT w0 w.heap.size (.slice none 0 0) (.slice none 0 0) (.slice none 0 0):=by
  rw[au];show(w.heap.push _)[w.heap.size]?=_
  rw[Array.getElem?_push_size]
 have mI:=zh j1;have mJ:=zh aX;have bM:=zh au;have fI:=zh rT;have pV:=zh eS;have y5:=zh (hc.since aX);clear j1 aX au hc rT eS
 go_enter Tryz.func115,Tryz.ntmps115
 go_upto_region 1 with(fail);rw[<- bM.out];go_wp2_with fail;refine(dG cb A L c P 6 w0 y5.out (by omega) (by omega)).mono ?_;rintro e w1 ⟨x,rfl,hx,l4,kw⟩;have qo:=zh l4
 have y6:Hid (CB cb B w0 w1):=by show CB _ _ _ _;rw[<- pV.out];exact kw
 have iU:B<=w1.heap.size:=by rw[<- pV.out];exact kw.size
 have nO:cb<B:=by have:=fI.out;omega
 have hx6:x<6:=by omega
 clear l4 kw hx
 have Ma:=y6.out.aap mI.out (by have:=fI.out;omega) (by omega)
 have Yn:=zh Ma;clear Ma;rcases(show x=0\/x=1\/x=2\/x=3\/x=4\/x=5 by omega)with rfl | rfl | rfl | rfl | rfl | rfl
 ·go_wp2_with fail;refine(Cg cb A L c (P+2) most M w1 qo.out (by omega) zv qn (by omega)).mono ?_;rintro e w6 ⟨FP,FQ,FR,N6,S6,rfl,eu,⟨nw,mz⟩,fB,jH⟩;obtain⟨D0,d0,rfl,-,-,-⟩:=id eu.read.1;obtain⟨D1,d1,rfl,-,-,-⟩:=id eu.read.2.1;obtain⟨D2,d2,rfl,-,-,-⟩:=id eu.read.2.2;have bK:CB cb B w0 w6:=y6.out.trans (jH.mono iU)
  have fH:=bK.aap mI.out (by have:=fI.out;omega) (by omega)
  obtain⟨e0,e1,e2,f0,f1,f2⟩:=fH.box.cells;have bh:=eu.mono iU;rw[fI.out]at bh bK;have cw:=zh (eV mJ.out bh fB bK jw);have sp:=zh nw;have uC:=zh mz;clear bK fH bh nw fB jH eu mz;go_wp2;refine bodyPost_ret (v:=.agg #[.slice D0 N6.ends.length d0,.slice D1 N6.ids.length d1,.slice D2 N6.aaa.length d2]) (by simp[results,Tryz.results115,go_sem, *]) rfl ?_;obtain⟨r1,r2,r3⟩:=cw.out;exact⟨_,_,_,N6,S6,rfl,r1,⟨sp.out.mono (Nat.le_refl _) (by omega),uC.out⟩,r2.mono (by omega),r3⟩
 ·go_wp2_with fail;refine(Cq cb A L c (P+2) most M w1 qo.out (by omega) zv qn (by omega)).mono ?_;rintro e w6 ⟨FP,FQ,FR,N6,S6,rfl,eu,⟨nw,mz⟩,fB,jH⟩;obtain⟨D0,d0,rfl,-,-,-⟩:=id eu.read.1;obtain⟨D1,d1,rfl,-,-,-⟩:=id eu.read.2.1;obtain⟨D2,d2,rfl,-,-,-⟩:=id eu.read.2.2;have bK:CB cb B w0 w6:=y6.out.trans (jH.mono iU)
  have fH:=bK.aap mI.out (by have:=fI.out;omega) (by omega)
  obtain⟨e0,e1,e2,f0,f1,f2⟩:=fH.box.cells;have bh:=eu.mono iU;rw[fI.out]at bh bK;have cw:=zh (eV mJ.out bh fB bK jw);have sp:=zh nw;have uC:=zh mz;clear bK fH bh nw fB jH eu mz;go_wp2;refine bodyPost_ret (v:=.agg #[.slice D0 N6.ends.length d0,.slice D1 N6.ids.length d1,.slice D2 N6.aaa.length d2]) (by simp[results,Tryz.results115,go_sem, *]) rfl ?_;obtain⟨r1,r2,r3⟩:=cw.out;exact⟨_,_,_,N6,S6,rfl,r1,⟨sp.out.mono (Nat.le_refl _) (by omega),uC.out⟩,r2.mono (by omega),r3⟩
 ·go_wp2_with fail;refine(pF cb A L c (P+2) most M w1 qo.out (by omega) zv qn (by omega)).mono ?_;rintro e w6 ⟨FP,FQ,FR,N6,S6,rfl,eu,⟨nw,mz⟩,fB,jH⟩;obtain⟨D0,d0,rfl,-,-,-⟩:=id eu.read.1;obtain⟨D1,d1,rfl,-,-,-⟩:=id eu.read.2.1;obtain⟨D2,d2,rfl,-,-,-⟩:=id eu.read.2.2;have bK:CB cb B w0 w6:=y6.out.trans (jH.mono iU)
  have fH:=bK.aap mI.out (by have:=fI.out;omega) (by omega)
  obtain⟨e0,e1,e2,f0,f1,f2⟩:=fH.box.cells;have bh:=eu.mono iU;rw[fI.out]at bh bK;have cw:=zh (eV mJ.out bh fB bK jw);have sp:=zh nw;have uC:=zh mz;clear bK fH bh nw fB jH eu mz;go_wp2;refine bodyPost_ret (v:=.agg #[.slice D0 N6.ends.length d0,.slice D1 N6.ids.length d1,.slice D2 N6.aaa.length d2]) (by simp[results,Tryz.results115,go_sem, *]) rfl ?_;obtain⟨r1,r2,r3⟩:=cw.out;exact⟨_,_,_,N6,S6,rfl,r1,⟨sp.out.mono (Nat.le_refl _) (by omega),uC.out⟩,r2.mono (by omega),r3⟩
 ·go_wp2_with fail;refine(pF cb A L c (P+2) most M w1 qo.out (by omega) zv qn (by omega)).mono ?_;rintro e w6 ⟨FP,FQ,FR,N6,S6,rfl,eu,⟨nw,mz⟩,fB,jH⟩;obtain⟨D0,d0,rfl,-,-,-⟩:=id eu.read.1;obtain⟨D1,d1,rfl,-,-,-⟩:=id eu.read.2.1;obtain⟨D2,d2,rfl,-,-,-⟩:=id eu.read.2.2;have bK:CB cb B w0 w6:=y6.out.trans (jH.mono iU)
  have fH:=bK.aap mI.out (by have:=fI.out;omega) (by omega)
  obtain⟨e0,e1,e2,f0,f1,f2⟩:=fH.box.cells;have bh:=eu.mono iU;rw[fI.out]at bh bK;have cw:=zh (eV mJ.out bh fB bK jw);have sp:=zh nw;have uC:=zh mz;clear bK fH bh nw fB jH eu mz;go_wp2;refine bodyPost_ret (v:=.agg #[.slice D0 N6.ends.length d0,.slice D1 N6.ids.length d1,.slice D2 N6.aaa.length d2]) (by simp[results,Tryz.results115,go_sem, *]) rfl ?_;obtain⟨r1,r2,r3⟩:=cw.out;exact⟨_,_,_,N6,S6,rfl,r1,⟨sp.out.mono (Nat.le_refl _) (by omega),uC.out⟩,r2.mono (by omega),r3⟩
 ·obtain⟨hf,UU⟩:∃z:Nat,z=most/2:=⟨_,rfl⟩
  obtain⟨h1,Yo⟩:∃z:Nat,z=hf+1:=⟨_,rfl⟩
  have d1:(most:Int).tdiv 2=(hf:Int):=by rw[UU,Int.tdiv_eq_ediv_of_nonneg (by omega)];simp
  have d2:(most:Int)/2=(hf:Int):=by omega
  have d3:IntKind.i64.wrap (hf:Int)=(hf:Int):=aR _ (by omega) (by omega)
  have d4:IntKind.i64.wrap ((hf:Int)+1)=(h1:Int):=by rw[aR _ (by omega) (by omega)];omega
  have aJ:1<=h1/\2*h1<=M+2:=by omega
  clear UU Yo;go_wp2_with fail;refine(pF cb A L c (P+2) h1 h1 w1 qo.out (by omega) aJ.1 (Nat.le_refl _) (by omega)).mono ?_;rintro e w6 ⟨FP,FQ,FR,N6,S6,rfl,eu,⟨nw,mz⟩,fB,jH⟩;obtain⟨D0,d0,rfl,-,-,-⟩:=id eu.read.1;obtain⟨D1,Mc,rfl,-,-,-⟩:=id eu.read.2.1;obtain⟨D2,Md,rfl,-,-,-⟩:=id eu.read.2.2;obtain⟨w7,nz⟩:∃z,z=w6.alloc (.cells #[.slice D0 N6.ends.length d0,.slice D1 N6.ids.length Mc,.slice D2 N6.aaa.length Md] 27):=⟨_,rfl⟩
  obtain⟨pb,dy⟩:∃z,z=w6.heap.size:=⟨_,rfl⟩
  have Me:aa w6 w7:=by rw[nz];exact ae _ (ab _)
  have dx:aS w7 pb (.slice D0 N6.ends.length d0) (.slice D1 N6.ids.length Mc) (.slice D2 N6.aaa.length Md):=by rw[nz,dy];exact aS.new _ _ _ _ _
  have Yp:=zh ((eu.mono iU).aab Me.below);have Yq:Hid (CB cb B w0 w7):=(y6.out.trans (jH.mono iU)).trans ((CB.of Me).mono (Nat.le_trans iU jH.size));have Q_:=zh (fB.since Me);have sp:=zh nw;have uC:=zh mz
  have gz:pb≠cb:=by have:=jH.size;omega
  have KF:Hid (B<=w7.heap.size):=Nat.le_trans (Nat.le_trans iU jH.size) Me.below.size;have Df:=zh dx;have Yr:=zh nz;have cA:=zh dy;obtain⟨k0,k1,k2,-,-,-⟩:=dx.cells;have rP:=zh (And.intro k0 (And.intro k1 k2));clear eu nw mz fB jH nz dy Me dx k0 k1 k2;go_upto_region 11 with(fail);rw[<- Yr.out,<- cA.out];refine ar (fun W=>W.cell? ⟨pb,0,none⟩=some (.slice D0 N6.ends.length d0)/\W.cell? ⟨pb,1,none⟩=some (.slice D1 N6.ids.length Mc)/\W.cell? ⟨pb,2,none⟩=some (.slice D2 N6.aaa.length Md)) 7 [false,false,false,false,false,true,true] (by kernel_rfl) (by kernel_rfl) (show(World.drew w7).cell? ⟨pb,0,none⟩=some (.slice D0 N6.ends.length d0)/\(World.drew w7).cell? ⟨pb,1,none⟩=some (.slice D1 N6.ids.length Mc)/\(World.drew w7).cell? ⟨pb,2,none⟩=some (.slice D2 N6.aaa.length Md)from rP.out) ?_
  simp only[df,b8,zT]
  iterate 5 (apply aU rfl;(intro W hW;(obtain⟨k0,k1,k2⟩:=hW);go_simp;with_reducible rfl);simp only[zA])
  obtain⟨W,bB⟩:∃W,W=World.drew w7:=⟨_,rfl⟩
  rw[<- bB];have hW:=(show(World.drew w7).cell? ⟨pb,0,none⟩=some (.slice D0 N6.ends.length d0)/\(World.drew w7).cell? ⟨pb,1,none⟩=some (.slice D1 N6.ids.length Mc)/\(World.drew w7).cell? ⟨pb,2,none⟩=some (.slice D2 N6.aaa.length Md)from rP.out);rw[<- bB]at hW;have dX:=zh bB;clear bB;refine Or.inl ⟨rfl,?_⟩
  go_simp
  (with_reducible refine(Cg cb A L c _ h1 h1 W (by rw[dX.out];exact Q_.out.since (ah (ab _))) (by omega) aJ.1 (Nat.le_refl _) (by omega)).mono ?_)
  rintro e W' ⟨ve8,vi8,vn8,N8,S8,rfl,JE,⟨UV,-⟩,Mf,FY⟩;refine⟨_,rfl,And.intro (ap hW.1 gz _ FY) (And.intro (ap hW.2.1 gz _ FY) (ap hW.2.2 gz _ FY)),?_⟩
  replace hW:=And.intro (ap hW.1 gz _ FY) (And.intro (ap hW.2.1 gz _ FY) (ap hW.2.2 gz _ FY))
  have jA:aa w7 W:=(by rw[dX.out];exact ah (ab _))
  have Ra:=zh (((fR.refl cb w7).after jA).trans FY);have pg:=zh JE;have Rb:=zh UV;have Rc:=zh Mf;clear JE UV Mf FY jA;obtain⟨wp,rfl⟩:∃z,z=W':=⟨_,rfl⟩
  (try simp only[zA])
  refine Or.inl ⟨rfl,?_⟩
  go_simp
  (with_reducible refine(tU _ _ _ _ _ _ N6 N8 _ (Yp.out.seen Ra.out nO).read pg.out.read (sp.out.small (by omega) (by omega)) (Rb.out.small (by omega) (by omega)) Rb.out.wf).mono ?_)
  rintro e W' ⟨UW,UX,UY,S9,rfl,fg,j5⟩;refine⟨_,rfl,And.intro (bc j5 hW.1) (And.intro (bc j5 hW.2.1) (bc j5 hW.2.2)),?_⟩
  replace hW:=And.intro (bc j5 hW.1) (And.intro (bc j5 hW.2.1) (bc j5 hW.2.2))
  skip
  (try simp only[zA])
  simp only[aQ];obtain⟨F0,t0,rfl,-,-,-⟩:=id fg.read.1;obtain⟨F1,t1,rfl,-,-,-⟩:=id fg.read.2.1;obtain⟨F2,t2,rfl,-,-,-⟩:=id fg.read.2.2;have zL:B<=wp.heap.size:=Nat.le_trans KF.out Ra.out.size;have zz:aa wp W':=j5;have bK:CB cb B w0 W':=(Yq.out.trans (CB.mono Ra.out KF.out)).trans ((CB.of zz.below).mono zL)
  have fH:=bK.aap mI.out (by have:=fI.out;omega) (by omega)
  obtain⟨e0,e1,e2,f0,f1,f2⟩:=fH.box.cells;have bh:=fg.mono zL;rw[fI.out]at bh bK;have cw:=zh (eV mJ.out bh (Rc.out.since zz) bK jw);have Ys:=zh (sp.out.union Rb.out)
  have KD:Hid (0<(eF N6 N8).ends.length):=by show _<_;unfold eF;rw[List.length_append];have:=uC.out;omega
  clear bK fH bh zz fg j5 zL hW;go_wp2;refine bodyPost_ret (v:=.agg #[.slice F0 (eF N6 N8).ends.length t0,.slice F1 (eF N6 N8).ids.length t1,.slice F2 (eF N6 N8).aaa.length t2]) (by simp[results,Tryz.results115,go_sem, *]) rfl ?_;obtain⟨r1,r2,r3⟩:=cw.out;exact⟨_,_,_,eF N6 N8,S9,rfl,r1,⟨Ys.out.mono (Nat.le_refl _) (by omega),KD.out⟩,r2.mono (by omega),r3⟩
 ·go_wp2_with fail;refine(dG cb A L c (P+2) most w1 qo.out (by omega) (by omega)).mono ?_;rintro e w2 ⟨x2,rfl,sg,nN,pu⟩;obtain⟨m,hm⟩:∃m:Nat,m=x2+1:=⟨_,rfl⟩
  have m1:IntKind.i64.wrap (1+(x2:Int))=(m:Int):=by rw[aR _ (by omega) (by omega)];omega
  have JC:m<=M:=by omega
  have Hj:0<m:=by omega
  have Ei:=zh nN;have Js:Hid (CB cb B w0 w2):=y6.out.trans (pu.mono iU);have nD:Hid (B<=w2.heap.size):=Nat.le_trans iU pu.size;clear nN pu sg hm;go_wp2_with fail;refine(jY m (by omega) w2).mono ?_;rintro e w3 ⟨NX,NY,N1,S0,rfl,ho,aZ⟩;obtain⟨N0,rU⟩:∃z,z=bP m:=⟨_,rfl⟩
  rw[<- rU]at ho
  have jG:N0.ends.length=m:=by rw[rU];simp[bP]
  have wK:Gd 100 M N0:=by rw[rU];exact(Gd.empty JC).mono (by omega) (Nat.le_refl _)
  obtain⟨A1,c1,rfl,-,tb,-⟩:=id ho.read.1;obtain⟨AI,cI,rfl,-,-,-⟩:=id ho.read.2.1;obtain⟨AN,cN,rfl,-,-,-⟩:=id ho.read.2.2;obtain⟨w4,lR⟩:∃z,z=w3.alloc (.cells #[.slice A1 N0.ends.length c1,.slice AI N0.ids.length cI,.slice AN N0.aaa.length cN] 27):=⟨_,rfl⟩
  obtain⟨pb,dy⟩:∃z,z=w3.heap.size:=⟨_,rfl⟩
  have Oc:aa w3 w4:=by rw[lR];exact ae _ (ab _)
  have g_:aa w2 w3:=aZ
  have pC:Mb cb B pb A L c (P+2+2) w0 w4 (.slice A1 N0.ends.length c1) (.slice AI N0.ids.length cI) (.slice AN N0.aaa.length cN) N0 S0:=
   ⟨(ho.aab Oc.below).mono nD.out,by rw[lR,dy];exact aS.new _ _ _ _ _,fun hj=>by have:=(ho.range _ hj).2;omega,(Ei.out.since g_).since Oc,Js.out.trans ((CB.of (g_.after Oc).below).mono nD.out)⟩
  have rg:=zh pC
  have cA:Hid (B<=pb/\pb<w4.heap.size):=⟨by rw[dy];exact Nat.le_trans nD.out g_.below.size,by rw[lR,dy];simp⟩
  have Yt:=zh lR;have rV:=zh dy;have zI:=zh wK;have Ik:=zh jG;have dx:=pC.box.cells.1
  have gz:pb≠cb:=by have:=cA.out;omega
  rw[jG]at dx;obtain⟨m2,et⟩:∃m2:Nat,m2=2*m:=⟨_,rfl⟩
  have UZ:(2:Int)*(m:Int)=(m2:Int):=by omega
  have m20:IntKind.i64.wrap (2*(m:Int))=(m2:Int):=by rw[UZ];exact aR _ (by omega) (by omega)
  have gX:=zh et;clear et;clear pC lR dy wK jG ho aZ g_ Oc rU UZ;go_upto_region 13 with(fail);rw[<- Yt.out,<- rV.out];go_wp2_with fail
  refine(dG cb A L c _ (m2:Int) w4 rg.out.cur (by omega) (by have:=gX.out;omega)).mono ?_
  rintro e w5 ⟨x5,rfl,Re,rY,zM⟩
  have QR:x5<=100:=by have:=gX.out;omega
  have gh:=zh (rg.out.seen zM rY nO cA.out.1 (by have:=cA.out;omega))
  have Rf:Hid (B<=w5.heap.size):=by show _<=_;have:=cA.out;have:=zM.size;omega
  clear rY zM dx Re;go_upto_region 14 with(fail);obtain⟨Q,hQ⟩:∃z,z=P+2+2+2:=⟨_,rfl⟩
  have HQ:Hid (Q=P+2+2+2):=hQ;rw[<- hQ]at gh;clear hQ
  go_loopw [7] (fun i wr=>∃(k:Nat) (ve vi vn:Value) (N:am) (S:List Nat),k<=100/\i=.int .i64 k/\Mb cb B pb A L c (Q+6*(100-k)) w0 wr ve vi vn N S/\Gd 100 M N/\N.ends.length=m/\B<=wr.heap.size) (fun i _=>(intOf i).toNat)
  case atStart=>exact⟨x5,_,_,_,N0,S0,QR,rfl,⟨gh.out.own,gh.out.box,gh.out.nb,gh.out.cur.mono (by omega),gh.out.far⟩,zI.out,Ik.out,Rf.out⟩
  case round=>
   obtain⟨k,ve,vi,vn,N,S2,hk,rfl,hm,gA,jG,dM⟩:=hrel;obtain⟨zq,iN,rfl,-,Eg,-⟩:=id hm.own.read.1;obtain⟨lX,lY,rfl,-,-,-⟩:=id hm.own.read.2.1;obtain⟨rh,n6,rfl,-,-,-⟩:=id hm.own.read.2.2;obtain⟨g,rfl,-⟩:=hm.own.head (by omega);have Hm:=zh hm;have iR:=zh gA;have ei:=zh jG;have li:=zh dM;clear hm gA jG dM
   by_cases aH:0<k
   ·have e0:((0:Int)<(k:Int))=True:=by simp;omega
    have m4:IntKind.i64.wrap ((k:Int)-1)=(k:Int)-1:=aR _ (by omega) (by omega)
    have rP:=zh (show wr.cell? ⟨pb,0,none⟩=some (.slice (some ⟨g,0,none⟩) m iN)from by obtain⟨a,-⟩:=Hm.out.box.cells;rw[ei.out]at a;exact a)
    obtain⟨wo,rfl⟩:∃z,z=wr:=⟨_,rfl⟩
    go_upto_region 16 with(fail);refine ar (fun W=>W.cell? ⟨pb,0,none⟩=some (.slice (some ⟨g,0,none⟩) m iN)) 10 [false,false,false,false,true,false,false,false,false,true] (by kernel_rfl) (by kernel_rfl) (show(World.drew wo).cell? ⟨pb,0,none⟩=some (.slice (some ⟨g,0,none⟩) m iN)from rP.out) ?_
    simp only[df,b8,zT]
    iterate 8 (apply aU rfl;(intro W hW;(have k0:=hW);go_simp;with_reducible rfl);simp only[zA])
    obtain⟨W,bB⟩:∃W,W=World.drew wo:=⟨_,rfl⟩
    rw[<- bB];have hW:=(show(World.drew wo).cell? ⟨pb,0,none⟩=some (.slice (some ⟨g,0,none⟩) m iN)from rP.out);rw[<- bB]at hW;have dX:=zh bB;clear bB;refine Or.inl ⟨rfl,?_⟩
    go_simp
    (with_reducible refine(dG cb A L c (Q+6*(100-k)) (m:Int) W (by rw[dX.out];exact Hm.out.cur.since (ah (ab _))) (by have:=HQ.out;omega) (by omega)).mono ?_)
    rintro e W' ⟨a,rfl,ha,gW,hC⟩;refine⟨_,rfl,ap hW gz _ hC,?_⟩
    replace hW:=ap hW gz _ hC
    have jA:aa wo W:=(by rw[dX.out];exact ah (ab _))
    have pr:=zh (((fR.refl cb wo).after jA).trans hC);have Cc:=zh gW;have Ha:=zh ha;clear hC gW jA ha;obtain⟨wp,rfl⟩:∃z,z=W':=⟨_,rfl⟩
    (try simp only[zA])
    refine Or.inl ⟨rfl,?_⟩
    go_simp
    (with_reducible refine(dG cb A L c (Q+6*(100-k)+2) (m:Int) _ Cc.out (by have:=HQ.out;omega) (by omega)).mono ?_)
    rintro e W' ⟨b,rfl,hb,gW,hC⟩;refine⟨_,rfl,ap hW gz _ hC,?_⟩
    replace hW:=ap hW gz _ hC
    have gh:=zh (Hm.out.seen (pr.out.trans hC) gW nO cA.out.1 li.out);have qq:Hid (B<=W'.heap.size):=Nat.le_trans li.out (pr.out.trans hC).size;clear hC gW
    (try simp only[zA])
    simp only[aQ]
    have Il:a<m:=by have:=Ha.out;omega
    have GP:b<m:=by omega
    clear hb;obtain⟨w5,rfl⟩:∃z,z=W':=⟨_,rfl⟩
    have QS:=zh hW;clear hW;obtain⟨xa,wN⟩:∃z,z=bg N a:=⟨_,rfl⟩
    obtain⟨xb,wO⟩:∃z,z=bg N b:=⟨_,rfl⟩
    have xz:=a_ (n:=N) (v:=a) (by have:=ei.out;omega)
    have C_:=a_ (n:=N) (v:=b) (by have:=ei.out;omega)
    rw[<- wN]at xz;rw[<- wO]at C_;have Jp:xa.length<=100:=iR.out.row _ _ xz;have Im:xb.length<=100:=iR.out.row _ _ C_;obtain⟨ua,Ta,LW,-,LX,-,-,-⟩:=gh.out.own.aah xz;obtain⟨Ye,Yf,rfl,-,-,-⟩:=id LX.read;obtain⟨ub,Tb,Ct,-,Fv,-,-,-⟩:=gh.out.own.aah C_;obtain⟨Yg,Yh,rfl,-,-,-⟩:=id Fv.read;have En:=zh wN;have Io:=zh wO;have pa:=ad LW;have pq:=ad Ct;have p0:=ad QS.out;have q0:=p0 w5 (ab _);have qa:=pa w5 (ab _);have qb:=pq w5 (ab _);clear wN wO xz C_ LX Fv LW Ct p0 pa pq
    by_cases h5:xa.length<=4
    ·have e5:((4:Int)<(xa.length:Int))=False:=by simp;omega
     by_cases h6:xb.length<=4
     ·have e6:((4:Int)<(xb.length:Int))=False:=by simp;omega
      go_upto_region 18 with(fail);clear q0 qa qb;go_wp2_with fail
      refine(re cb A L c (Q+6*(100-k)+2+2) 5 w5 gh.out.cur (by have:=HQ.out;omega) (by omega)).mono ?_
      rintro e w6 ⟨bb,rfl,fB,jH⟩;have ks:=zh (gh.out.seen jH fB nO cA.out.1 qq.out);have qr:Hid (B<=w6.heap.size):=Nat.le_trans qq.out jH.size;have Cw:=ks.out.box.cells;rw[ei.out]at Cw;obtain⟨q0,q1,q2,-,-,-⟩:=Cw
      have Oa:Hid (aI w6 (.slice (some ⟨g,0,none⟩) m iN) (.slice lX N.ids.length lY) (.slice rh N.aaa.length n6) N):=by show aI _ _ _ _ _;have h9:=ks.out.own.read;rw[ei.out]at h9;exact h9
      clear fB jH;cases bb
      ·go_wp2_with fail
       refine(jq _ _ _ N a b w6 Oa.out (by rw[ei.out];exact Il) (by rw[ei.out];exact GP) ((iR.out.mono (R':=100) (M':=40) (by omega) (by omega)).small (by omega) (by omega))).mono ?_
       rintro e w8 ⟨LK,LM,LN,S3,rfl,cy,hb2⟩;have la:aa w6 w8:=hb2;obtain⟨D0,d0,rfl,-,-,-⟩:=id cy.read.1;obtain⟨D1,d1,rfl,-,-,-⟩:=id cy.read.2.1;obtain⟨D2,d2,rfl,-,-,-⟩:=id cy.read.2.2;have tP:=ks.out.assign (CB.of la) (ks.out.cur.since la) cy ks.out.box.lt nO cA.out.1 qr.out;clear q0 q1 q2;obtain⟨k0,k1,k2,f0,f1,f2⟩:=(ks.out.box.below la ks.out.box.lt).cells;have k_:=zh tP
       have j3:B<=(aag w8 pb (.slice D0 (bC N a b).ends.length d0) (.slice D1 (bC N a b).ids.length d1) (.slice D2 (bC N a b).aaa.length d2)).heap.size:=by rw[ep];exact Nat.le_trans qr.out la.below.size
       have pD:=zh j3
       have Cd:=zh (iR.out.aaB (v:=a) (u:=b) (by rw[ei.out];exact Il) (by rw[ei.out];exact GP) (by rw[<- En.out];exact h5) (by rw[<- Io.out];exact h6) (by omega))
       have Ch:=zh ((b_ N a b).trans ei.out);clear tP cy hb2 la j3;go_wp2;go_roundw
       case rel=>exact⟨k-1,_,_,_,bC N a b,S3,by omega,by rw[show((k-1:Nat):Int)=(k:Int)-1 by omega],⟨k_.out.own,k_.out.box,k_.out.nb,k_.out.cur.mono (by omega),k_.out.far⟩,Cd.out,Ch.out,pD.out⟩
       case measure=>simp[intOf];omega
      ·go_wp2_with fail
       refine(v_ _ _ _ N a w6 Oa.out (by rw[ei.out];exact Il) ((iR.out.mono (R':=100) (M':=40) (by omega) (by omega)).small (by omega) (by omega))).mono ?_
       rintro e w8 ⟨LK,LM,LN,S3,rfl,cy,hb2⟩;have la:aa w6 w8:=hb2;obtain⟨D0,d0,rfl,-,-,-⟩:=id cy.read.1;obtain⟨D1,d1,rfl,-,-,-⟩:=id cy.read.2.1;obtain⟨D2,d2,rfl,-,-,-⟩:=id cy.read.2.2;have tP:=ks.out.assign (CB.of la) (ks.out.cur.since la) cy ks.out.box.lt nO cA.out.1 qr.out;clear q0 q1 q2;obtain⟨k0,k1,k2,f0,f1,f2⟩:=(ks.out.box.below la ks.out.box.lt).cells;have k_:=zh tP
       have j3:B<=(aag w8 pb (.slice D0 (gT N a).ends.length d0) (.slice D1 (gT N a).ids.length d1) (.slice D2 (gT N a).aaa.length d2)).heap.size:=by rw[ep];exact Nat.le_trans qr.out la.below.size
       have pD:=zh j3
       have Cd:=zh (iR.out.aaD (v:=a) (by rw[ei.out];exact Il) (by rw[<- En.out];exact h5) (by omega))
       have Ch:=zh ((l3 N a).trans ei.out);clear tP cy hb2 la j3;go_wp2;go_roundw
       case rel=>exact⟨k-1,_,_,_,gT N a,S3,by omega,by rw[show((k-1:Nat):Int)=(k:Int)-1 by omega],⟨k_.out.own,k_.out.box,k_.out.nb,k_.out.cur.mono (by omega),k_.out.far⟩,Cd.out,Ch.out,pD.out⟩
       case measure=>simp[intOf];omega
     ·have e6:((4:Int)<(xb.length:Int))=True:=by simp;omega
      go_wp2;go_roundw
      case rel=>exact⟨k-1,_,_,_,N,S2,by omega,by rw[show((k-1:Nat):Int)=(k:Int)-1 by omega],(⟨gh.out.own,gh.out.box,gh.out.nb,gh.out.cur.mono (by omega),gh.out.far⟩),iR.out,ei.out,qq.out⟩
      case measure=>simp[intOf];omega
    ·have e5:((4:Int)<(xa.length:Int))=True:=by simp;omega
     go_wp2;go_roundw
     case rel=>exact⟨k-1,_,_,_,N,S2,by omega,by rw[show((k-1:Nat):Int)=(k:Int)-1 by omega],(⟨gh.out.own,gh.out.box,gh.out.nb,gh.out.cur.mono (by omega),gh.out.far⟩),iR.out,ei.out,qq.out⟩
     case measure=>simp[intOf];omega
   ·obtain rfl:k=0:=by omega
    obtain⟨k0,k1,k2,-,-,-⟩:=Hm.out.box.cells;have gX:=Hm;have lZ:=li;obtain⟨w5,rfl⟩:∃z,z=wr:=⟨_,rfl⟩
    go_upto_region 21 with(fail);go_wp2_with fail
    refine(n5 cb A L c _ B 100 M _ _ _ N S2 w5 gX.out.cur (by have:=HQ.out;omega) gX.out.own nO lZ.out iR.out (by omega) (by omega) (by have:=ei.out;omega)).mono ?_
    rintro e w6 ⟨FP,FQ,FR,N6,S6,rfl,eu,⟨pE,nw⟩,fB,jH⟩;obtain⟨D0,d0,rfl,-,-,-⟩:=id eu.read.1;obtain⟨D1,d1,rfl,-,-,-⟩:=id eu.read.2.1;obtain⟨D2,d2,rfl,-,-,-⟩:=id eu.read.2.2;have bK:=(gX.out.far.mono (Nat.le_refl B)).trans jH
    have fH:=bK.aap mI.out (by have:=fI.out;omega) (by omega)
    obtain⟨e0,e1,e2,f0,f1,f2⟩:=fH.box.cells;have bh:=eu;rw[fI.out]at bh bK;have cw:=zh (eV mJ.out bh fB bK jw);have wL:=zh pE;have sp:=zh nw;clear bK fH bh pE nw fB jH eu k0 k1 k2;go_wp2;refine bodyPost_ret (v:=.agg #[.slice D0 N6.ends.length d0,.slice D1 N6.ids.length d1,.slice D2 N6.aaa.length d2]) (by simp[results,Tryz.results115,go_sem, *]) rfl ?_;obtain⟨r1,r2,r3⟩:=cw.out
    exact⟨_,_,_,N6,S6,rfl,r1,⟨sp.out.mono (by omega) (by omega),by have:=ei.out;have:=wL.out.len;omega⟩,r2.mono (by have:=HQ.out;omega),r3⟩
theorem Mb.aas {cb B pb:Nat} {A:Option Addr} {L c P:Nat} {w W W1:World} {ve vi vn v':Value} {N:am} {S T:List Nat} {ids':List Int} (h:Mb cb B pb A L c P w W ve vi vn N S) (ho:it W1 B v' ids' T) (eK:aL vi.ownBlock.toList W W1) (hT:∀j∈T,j∈vi.ownBlock.toList\/W.heap.size<=j) (hb:cb<B) (hp:B<=pb) (hB:B<=W.heap.size):
  aS W1 pb ve vi vn/\∃S',Mb cb B pb A L c P w (W1.setCell ⟨pb,1,none⟩ v') ve v' vn { N with ids:=ids' } S'/\∀j∈S',j∈S\/W.heap.size<=j:=by
 obtain⟨S1,S2,S3,-,h2,-,h4,-⟩:=id h.own
 have hS:∀j∈vi.ownBlock.toList,j∈S:=fun j hj=>by rw[h4,h2.2];exact List.mem_append_right _ (List.mem_append_left _ hj)
 have qc:=h.box.lt;have Yu:pb∉vi.ownBlock.toList:=fun hm=>h.nb (hS _ hm)
 have dx:aS W1 pb ve vi vn:=h.box.blk (eK.block pb qc Yu);obtain⟨S',Cu,th⟩:=h.own.aar ho eK hT
 have hn:pb∉S':=fun hj=>by
  rcases th _ hj with h1 | h1
  ·exact h.nb h1
  ·omega
 have jI:Below B W W1:=eK.below B hB (fun k hk=>(h.own.range k (hS k hk)).1)
 refine⟨dx,S',⟨Cu.aac (fun k hk=>Below.heap_setCell _ _ _ _ (fun e=>hn (by have e':k=pb:=e;exact e' ▸ hk))),dx.aau,hn,(h.cur.aab (fun k hk=>jI.block k (by omega))).aab (fun k hk=>Below.heap_setCell _ _ _ _ (by show k≠pb;omega)),(h.far.trans (CB.of jI)).setCell (p:=⟨pb,1,none⟩) (.inl hp) _⟩,th⟩
theorem Mb.aal {cb B pb:Nat} {A:Option Addr} {L c P:Nat} {w W:World} {ve vi vn:Value} {N:am} {S:List Nat} (h:Mb cb B pb A L c P w W ve vi vn N S):it W B vi N.ids vi.ownBlock.toList/\∀j∈vi.ownBlock.toList,j∈S:=by
 obtain⟨S1,S2,S3,-,h2,-,h4,-⟩:=id h.own
 exact⟨⟨h2.1,rfl⟩,fun j hj=>by rw[h4,h2.2];exact List.mem_append_right _ (List.mem_append_left _ hj)⟩
theorem Mb.aaC {cb B pb:Nat} {A:Option Addr} {L c P:Nat} {w W:World} {ve vi vn:Value} {N:am} {S:List Nat} (h:Mb cb B pb A L c P w W ve vi vn N S):it W B vn N.aaa vn.ownBlock.toList/\∀j∈vn.ownBlock.toList,j∈S:=by
 obtain⟨S1,S2,S3,-,-,h2,h4,-⟩:=id h.own
 exact⟨⟨h2.1,rfl⟩,fun j hj=>by rw[h4,h2.2];exact List.mem_append_right _ (List.mem_append_right _ hj)⟩
theorem n_ (w:World) (x:Int):aG (w.alloc (.cells #[.int .i64 x] 3)) (.slice (some ⟨w.heap.size,0,none⟩) 1 1) [x]:=by
 refine⟨_,1,rfl,Nat.le_refl _,by unfold maxLen;omega,fun k y h=>?_⟩
 have hk:=ai h
 have IV:k=0:=by simp at hk;omega
 subst IV;have hy:x=y:=by simpa using h
 subst hy;exact⟨_,_,rfl,by simp⟩
theorem Mb.aaz {cb B pb og:Nat} {A:Option Addr} {L c P:Nat} {w W W1:World} {ve vi vn v' uo:Value} {N:am} {S T:List Nat} {y:Int} {xs:List Int} {Bo:Nat} (h:Mb cb B pb A L c P w W ve vi vn N S) (ho:it W1 B v' (N.ids++[y]) T) (eK:aL vi.ownBlock.toList W W1) (hT:∀j∈T,j∈vi.ownBlock.toList\/W.heap.size<=j) (hb:cb<B) (hp:B<=pb) (hB:B<=W.heap.size)
  (Cx:Own W Bo uo xs) (GK:uo.ownBlock=some og) (Rg:og∉S/\og≠pb) (hr:aT W (pb+1) (.slice none 0 0) (.slice none 0 0) (.slice none 0 0)) (hn:pb+1∉S):
  aS W1 pb ve vi vn/\∃S',Mb cb B pb A L c P w (W1.setCell ⟨pb,1,none⟩ v') ve v' vn { N with ids:=N.ids++[y] } S'/\Own (W1.setCell ⟨pb,1,none⟩ v') Bo uo xs/\aT (W1.setCell ⟨pb,1,none⟩ v') (pb+1) (.slice none 0 0) (.slice none 0 0) (.slice none 0 0)/\W.heap.size<=(W1.setCell ⟨pb,1,none⟩ v').heap.size/\pb+1∉S'/\og∉S':=by
 obtain⟨aZ,S',fG,th⟩:=h.aas ho eK hT hb hp hB;have Mg:=h.aal.2;have Rh:=(World.ownsRow.lt Cx og GK).2
 refine⟨aZ,S',fG,aB Cx (fun j hj=>?_),?_,by rw[jf];exact eK.size,fun hj=>?_,fun hj=>?_⟩
 ·have nP:j=og:=by rw[GK]at hj;simpa[eq_comm]using hj
  subst nP;rw[Below.heap_setCell _ _ _ _ (by exact Rg.2)];exact eK.block _ Rh (fun hm=>Rg.1 (Mg _ hm))
 ·show(W1.setCell _ _).heap[pb+1]?=_
  rw[Below.heap_setCell _ _ _ _ (by show pb+1≠pb;omega),eK.block _ hr.lt (fun hm=>hn (Mg _ hm))]
  exact hr
 ·rcases th _ hj with h1 | h1
  ·exact hn h1
  ·have:=hr.lt;omega
 ·rcases th _ hj with h1 | h1
  ·exact Rg.1 h1
  ·omega
theorem Mb.ret {cb B pb rb:Nat} {A:Option Addr} {L c P:Nat} {w W:World} {ve vi vn:Value} {N:am} {S:List Nat} (h:Mb cb B pb A L c P w W ve vi vn N S) (hr:rb∉S) (hB:B<=rb) (jw:cb<B):
  ao (aag W rb ve vi vn) B ve vi vn N S/\cW (aag W rb ve vi vn) cb A L c P/\CB cb B w (aag W rb ve vi vn):=by
 refine⟨h.own.aac (fun k hk=>bU _ _ _ _ _ (fun e=>hr (e ▸ hk))),h.cur.aab (fun k hk=>bU _ _ _ _ _ (by omega)),?_⟩
 exact((h.far.setCell (p:=⟨rb,0,none⟩) (.inl hB) _).setCell (p:=⟨rb,1,none⟩) (.inl hB) _).setCell (p:=⟨rb,2,none⟩) (.inl hB) _
theorem rj (cb:Nat) (A:Option Addr) (L c P R M:Nat) (ve vi vn:Value) (n:am) (w:World) (hc:cW w cb A L c P) (hP:P<=4500000000000000000) (h:aI w ve vi vn n) (hg:Gd R M n) (hR:R<=100) (hM:M<=100):
  Calls Tryz.prog 116 #[.pointer (some ⟨cb,0,none⟩),.agg #[ve,vi,vn]] w (tO cb w.heap.size A L c (P+1000) w (fun N=>N.ends=n.ends/\N.aaa=n.aaa/\N.ids.length=n.ends.length)):=by
 have jw:=hc.lt;obtain⟨A1,c1,rfl,-,tb,-⟩:=id h.1;obtain⟨AI,cI,rfl,-,-,-⟩:=id h.2.1;obtain⟨AN,cN,rfl,-,-,-⟩:=id h.2.2;obtain⟨pb,dy⟩:∃z,z=w.heap.size:=⟨_,rfl⟩
 obtain⟨w0,au⟩:∃z,z=w.alloc (.cells #[.slice A1 n.ends.length c1,.slice AI n.ids.length cI,.slice AN n.aaa.length cN] 27):=⟨_,rfl⟩
 obtain⟨wa,f7⟩:∃z,z=w0.alloc (.cells #[.slice none 0 0,.slice none 0 0,.slice none 0 0] 27):=⟨_,rfl⟩
 have aX:aa w w0:=by rw[au];exact ae _ (ab _)
 have bu:aa w0 wa:=by rw[f7];exact ae _ (ab _)
 have jB:w0.heap.size=w.heap.size+1:=by rw[au];simp
 have bO:aS w0 pb (.slice A1 n.ends.length c1) (.slice AI n.ids.length cI) (.slice AN n.aaa.length cN):=by rw[au,dy];exact aS.new _ _ _ _ _
 have Eu:=bO.below bu (by rw[jB,dy];omega)
 have j1:aT wa (pb+1) (.slice none 0 0) (.slice none 0 0) (.slice none 0 0):=by
  rw[f7,dy,<- jB];show(w0.heap.push _)[w0.heap.size]?=_
  rw[Array.getElem?_push_size]
 have qI:aa w wa:=aX.after bu
 have cA:Hid (cb<pb/\pb+2=wa.heap.size/\pb=w.heap.size):=⟨by omega,by rw[dy,f7];simp;omega,dy⟩
 have LS:=zh qI;have mI:=zh j1;have Mh:=zh Eu;have Ri:=zh (hc.since qI);have Rj:=zh (h.aab qI.below);have Hg:=zh hg;have bM:=zh au;have tj:=zh f7;have dx:=Eu.cells
 have If:n.ends.length<=100:=by have:=hg.ends;omega
 clear hc h aX bu bO j1 qI Eu hg au f7 dy jB
 go_enter Tryz.func116,Tryz.ntmps116
 go_upto_region 1 with(fail);rw[<- bM.out,<- tj.out,<- cA.out.2.2];obtain⟨x0,x1,x2,f0,f1,f2⟩:=dx;go_wp2_with fail
 refine(gD _ _ _ n wa Rj.out (by omega) (fun k es he=>by have:=Hg.out.row k es he;omega) (Hg.out.small hR hM).sz).mono ?_
 rintro e w1 ⟨ue,ui,un,S0,rfl,ho,aJ⟩;have bu:aa wa w1:=aJ;obtain⟨E1,e1,rfl,-,-,-⟩:=id ho.read.1;obtain⟨EI,eI,rfl,-,-,-⟩:=id ho.read.2.1;obtain⟨EN,eN,rfl,-,-,-⟩:=id ho.read.2.2;clear x0 x1 x2 f0 f1 f2;have wP:=Mh.out.below bu Mh.out.lt;obtain⟨x0,x1,x2,f0,f1,f2⟩:=wP.cells
 have nV:pb∉S0:=fun hj=>by have h1:=(ho.range _ hj).1;have h2:=cA.out;omega
 have fe:Mb cb w.heap.size pb A L c P w (aag w1 pb (.slice E1 n.ends.length e1) (.slice EI n.ids.length eI) (.slice EN n.aaa.length eN)) (.slice E1 n.ends.length e1) (.slice EI n.ids.length eI) (.slice EN n.aaa.length eN) n S0:=by
  have h0:=cA.out
  refine⟨(ho.aac (fun k hk=>bU _ _ _ _ _ (fun e=>nV (by have e':k=pb:=e;exact e' ▸ hk)))).mono (by omega),wP.aag _ _ _,nV,((Ri.out.since bu).aab (fun k hk=>bU _ _ _ _ _ (by omega))),?_⟩
  exact((((CB.of (LS.out.after bu).below).mono (Nat.le_refl _)).setCell (p:=⟨pb,0,none⟩) (.inl (by show _<=pb;omega)) _).setCell (p:=⟨pb,1,none⟩) (.inl (by show _<=pb;omega)) _).setCell (p:=⟨pb,2,none⟩) (.inl (by show _<=pb;omega)) _
 have Mi:aT (aag w1 pb (.slice E1 n.ends.length e1) (.slice EI n.ids.length eI) (.slice EN n.aaa.length eN)) (pb+1) (.slice none 0 0) (.slice none 0 0) (.slice none 0 0):=(bU _ _ _ _ _ (by omega)).trans (mI.out.since bu)
 have cj:wa.heap.size<=(aag w1 pb (.slice E1 n.ends.length e1) (.slice EI n.ids.length eI) (.slice EN n.aaa.length eN)).heap.size:=by rw[ep];exact bu.below.size
 have jz:pb+1∉S0:=fun hj=>by have h1:=(ho.range _ hj).1;have h2:=cA.out;omega
 have mH:=zh fe;have Mj:=zh Mi;have D8:=zh cj;have rc:=zh jz;have Rk:=zh (And.intro f0 (And.intro f1 f2));clear fe Mi cj jz ho aJ bu wP nV;go_upto_region 2 with(fail);obtain⟨w2,eY⟩:∃z,z=((w1.setCell ⟨pb,0,none⟩ (.slice E1 n.ends.length e1)).setCell ⟨pb,1,none⟩ (.slice EI n.ids.length eI)).setCell ⟨pb,2,none⟩ (.slice EN n.aaa.length eN):=⟨_,rfl⟩
 rw[<- eY]
 have gX:Hid (Mb cb w.heap.size pb A L c P w w2 (.slice E1 n.ends.length e1) (.slice EI n.ids.length eI) (.slice EN n.aaa.length eN) n S0):=by show Mb _ _ _ _ _ _ _ _ _ _ _ _ _ _;rw[eY];exact mH.out
 have Od:Hid (aT w2 (pb+1) (.slice none 0 0) (.slice none 0 0) (.slice none 0 0)):=by show aT _ _ _ _ _;rw[eY];exact Mj.out
 have Mk:Hid (wa.heap.size<=w2.heap.size):=by show _<=_;rw[eY];exact D8.out
 clear eY mH Mj D8 Rk x0 x1 x2 f0 f1 f2
 have zF:w.heap.size<=w2.heap.size:=by have h1:=Mk.out;have h2:=cA.out;omega
 have zL:w.heap.size<=pb:=by have h2:=cA.out;omega
 obtain⟨aZ,S1,fG,L0⟩:=gX.out.aas (v':=.slice none 0 0) (ids':=[]) (gH _ _) (aL.refl _ _) (fun j hj=>by simp at hj) jw zL zF
 obtain⟨-,x1,-,-,f1,-⟩:=gX.out.box.cells;have wQ:=zh fG
 have Rl:Hid (aT (w2.setCell ⟨pb,1,none⟩ (.slice none 0 0)) (pb+1) (.slice none 0 0) (.slice none 0 0) (.slice none 0 0)):=Od.out.other (by show pb+1≠pb;omega)
 have Yv:Hid (pb+1∉S1):=fun hj=>by
  rcases L0 _ hj with h1 | h1
  ·exact rc.out h1
  ·have h2:=Mk.out;have h3:=cA.out;omega
 have Rm:Hid (wa.heap.size<=(w2.setCell ⟨pb,1,none⟩ (.slice none 0 0)).heap.size):=by show _<=_;rw[jf];exact Mk.out
 clear aZ fG L0 zF;go_upto_region 3 with(fail);obtain⟨w3,h_⟩:∃z,z=w2.setCell ⟨pb,1,none⟩ (.slice none 0 0):=⟨_,rfl⟩
 rw[<- h_]at wQ Rl Rm ⊢;clear h_ x1 f1;go_wp2_with fail;refine(re cb A L c P 2 w3 wQ.out.cur (by omega) (by omega)).mono ?_;rintro e w4 ⟨small,rfl,pG,np⟩
 have JD:w.heap.size<=w3.heap.size:=by have h1:=Rm.out;have h2:=cA.out;omega
 have zJ:=zh (wQ.out.seen np pG jw zL JD)
 have Rn:Hid (aT w4 (pb+1) (.slice none 0 0) (.slice none 0 0) (.slice none 0 0)):=(np.block _ Rl.out.lt (by have:=cA.out;omega)).trans Rl.out
 have N7:Hid (wa.heap.size<=w4.heap.size):=Nat.le_trans Rm.out np.size;clear pG np JD;obtain⟨y0,-,-,-,-,-⟩:=zJ.out.box.cells;go_wp2_with fail;refine(BW cb A L c (P+2) n.ends.length w4 zJ.out.cur (by omega) If).mono ?_;rintro e w5 ⟨og,xs,rfl,yb,Ml,rY,zM⟩
 have U0:w.heap.size<=w4.heap.size:=by have h1:=N7.out;have h2:=cA.out;omega
 have gh:=zh (zJ.out.seen zM rY jw zL U0)
 have Yw:Hid (aT w5 (pb+1) (.slice none 0 0) (.slice none 0 0) (.slice none 0 0)):=(zM.block _ Rn.out.lt (by have:=cA.out;omega)).trans Rn.out
 have Rf:Hid (wa.heap.size<=w5.heap.size):=Nat.le_trans N7.out zM.size;have NV:=zh yb;have QF:=zh Ml;have BV:xs.length=n.ends.length:=yb.len.symm ▸ rfl
 have Oe:Hid (og∉S1/\og≠pb/\og≠pb+1/\cb<og/\og<w5.heap.size):=by
  have h1:=(World.ownsRow.lt yb og (by simp[Value.ownBlock]));have h2:=zJ.out.box.lt;have h3:=Rn.out.lt
  exact⟨fun hj=>by have:=(zJ.out.own.range _ hj).2;omega,by omega,by omega,by omega,h1.2⟩
 clear yb Ml rY zM U0 y0;have tF:=zh BV;clear BV;go_upto_region 6 with(fail)
 have gz:pb≠cb:=by have:=cA.out;omega
 go_loopw [21] (fun i wr=>∃(k:Nat) (vi:Value) (N:am) (S:List Nat),k<=n.ends.length/\i=.int .i64 k/\Mb cb w.heap.size pb A L c (P+202+2*k) w wr (.slice E1 n.ends.length e1) vi (.slice EN n.aaa.length eN) N S/\N.ends=n.ends/\N.aaa=n.aaa/\N.ids.length=k/\Own wr w4.heap.size (.slice (some ⟨og,0,none⟩) n.ends.length n.ends.length) xs/\aT wr (pb+1) (.slice none 0 0) (.slice none 0 0) (.slice none 0 0)/\wa.heap.size<=wr.heap.size/\pb+1∉S/\og∉S) (fun i _=>n.ends.length-(intOf i).toNat)
 case atStart=>exact⟨0,_,{ n with ids:=[] },S1,Nat.zero_le _,rfl,⟨gh.out.own,gh.out.box,gh.out.nb,gh.out.cur.mono (by omega),gh.out.far⟩,rfl,rfl,rfl,NV.out,Yw.out,Rf.out,Yv.out,Oe.out.1⟩
 case round=>
  obtain⟨k,vi,N,S,hk,rfl,hm,U2,Mm,qh,Cx,hr,hz,jz,kL⟩:=hrel;obtain⟨lX,lY,rfl,-,-,-⟩:=id hm.own.read.2.1
  have Ng:Mb cb w.heap.size pb A L c (P+202+2*k) w wr (.slice E1 n.ends.length e1) (.slice lX k lY) (.slice EN n.aaa.length eN) N S:=by rw[qh]at hm;exact hm
  have Hm:=zh Ng;have Hf:=zh (And.intro U2 (And.intro Mm qh));have Ev:=zh Cx;have Hr:=zh hr;have Hz:=zh hz;have rc:=zh jz;have qH:=zh kL
  have Of:Hid (w.heap.size<=wr.heap.size):=by show _<=_;have h1:=cA.out;omega
  clear hm Ng U2 Mm qh Cx hr hz jz kL
  by_cases aH:k<n.ends.length
  ·obtain⟨x,hx⟩:=ax xs k (by rw[tF.out];exact aH)
   have GZ:=QF.out x (List.mem_of_getElem? hx);have c0:=Ev.out.cell hx;have m3:IntKind.i64.wrap ((k:Int)+1)=(k:Int)+1:=aR _ (by omega) (by omega)
   have Hl:Hid (N.ids.length+[x+1].length<=17592186044416):=by show _<=_;have:=Hf.out.2.2;simp;omega
   cases small
   ·obtain⟨y,hy⟩:∃z,z=1+x*20000:=⟨_,rfl⟩
    have m1:IntKind.i64.wrap (x*20000)=x*20000:=aR _ (by omega) (by omega)
    have m2:IntKind.i64.wrap (1+x*20000)=y:=by rw[hy];exact aR _ (by omega) (by omega)
    have U3:Hid (0<=y/\y<=100000000):=by show _/\_;omega
    obtain⟨wo,rfl⟩:∃z,z=wr:=⟨_,rfl⟩
    have rP:=zh (show wo.cell? ⟨pb,1,none⟩=some (.slice lX k lY)from Hm.out.box.cells.2.1);clear GZ hx hy;go_upto_region 10 with(fail);refine ar (fun W=>W.cell? ⟨pb,1,none⟩=some (.slice lX k lY)) 10 [false,false,false,false,false,false,true,true,true,true] (by kernel_rfl) (by kernel_rfl) (show(World.drew wo).cell? ⟨pb,1,none⟩=some (.slice lX k lY)from rP.out) ?_
    simp only[df,b8,zT]
    iterate 6 (apply aU rfl;(intro W hW;(have k0:=hW);go_simp;with_reducible rfl);simp only[zA])
    obtain⟨W,bB⟩:∃W,W=World.drew wo:=⟨_,rfl⟩
    rw[<- bB];have hW:=(show(World.drew wo).cell? ⟨pb,1,none⟩=some (.slice lX k lY)from rP.out);rw[<- bB]at hW;have dX:=zh bB;clear bB;refine Or.inl ⟨rfl,?_⟩
    go_simp
    (with_reducible refine(dG cb A L c (P+202+2*k) 20000 W (by rw[dX.out];exact Hm.out.cur.since (ah (ab _))) (by omega) (by omega)).mono ?_)
    rintro e W' ⟨a,rfl,ha,gW,hC⟩;refine⟨_,rfl,ap hW gz _ hC,?_⟩
    replace hW:=ap hW gz _ hC
    have jA:aa wo W:=(by rw[dX.out];exact ah (ab _))
    have kW:=((fR.refl cb wo).after jA).trans hC;have Yx:=zh (Hm.out.seen kW gW jw zL Of.out)
    have Ro:=zh (aB Ev.out (fun j hj=>(show j=og by simpa[Value.ownBlock,eq_comm]using hj) ▸ kW.block og (World.ownsRow.lt Ev.out og rfl).2 (by have:=Oe.out;omega)))
    have Yy:Hid (aT W' (pb+1) (.slice none 0 0) (.slice none 0 0) (.slice none 0 0)):=(kW.block _ Hr.out.lt (by have:=cA.out;omega)).trans Hr.out
    have Yz:Hid (wa.heap.size<=W'.heap.size):=Nat.le_trans Hz.out kW.size;have Mn:Hid (w.heap.size<=W'.heap.size):=Nat.le_trans Of.out kW.size
    have m4:IntKind.i64.wrap (y+(a:Int))=y+(a:Int):=aR _ (by have:=U3.out;omega) (by have:=U3.out;omega)
    clear hC gW jA ha kW
    (try simp only[zA])
    refine fP (v:=?_) rfl ?_ hW ?_;rotate_left;(go_simp;with_reducible rfl)
    simp only[zA]
    refine bD (v:=?_) (ob:=?_) rfl ?_ ?_ ?_;rotate_left 2
    (go_simp;first | with_reducible rfl | (refine⟨?_,?_⟩ <;> with_reducible rfl))
    exact bc (aj _ _) hW;intro w8 f6 gP
    replace hW:=gP
    clear gP
    have pH:aa W' w8:=(by rw[f6];exact ae _ (ab _))
    have U4:=zh (Yx.out.since pH jw zL Mn.out);have pg:=zh (Own.since Ro.out pH);have YA:=zh (Yy.out.since pH);have YB:Hid (wa.heap.size<=w8.heap.size):=Nat.le_trans Yz.out pH.below.size;have Mo:Hid (w.heap.size<=w8.heap.size):=Nat.le_trans Mn.out pH.below.size
    have YC:Hid (aG w8 (.slice (some ⟨W'.heap.size,0,none⟩) 1 1) [y+(a:Int)]):=(by show aG _ _ _;rw[f6];exact n_ _ _)
    have Mp:=zh U4.out.aal.1.1;have Rp:Hid (N.ids.length+[y+(a:Int)].length<=17592186044416):=Hl.out;clear f6 pH
    (try simp only[zA])
    refine ci (fun Q' HQ=>?_)
    (refine fd (base:=w.heap.size) (v:=.slice lX k lY) (xs:=N.ids) rfl _ _ rfl rfl Mp.out rfl YC.out Rp.out Mo.out ?_);intro v' w9 T fg ee Dm;obtain⟨V,mV,cV,rfl⟩:=dF.one fg;obtain⟨j5,S9,Mq,Cy,I3,Mr,Ms,Cz⟩:=U4.out.aaz fg ee Dm jw zL Mo.out pg.out rfl ⟨qH.out,Oe.out.2.1⟩ YA.out rc.out;refine HQ _ _ j5.cells.2.1 ?_;clear fg ee Dm;have CA:=zh Mq;have Bi:=zh Cy;have Rq:=zh I3;have qm:=zh Mr;have L9:=zh Ms;have It:=zh Cz;clear Mq Cy I3 Mr Ms Cz;obtain⟨x0,x1,x2,f0,f1,f2⟩:=j5.cells;clear j5
    (try simp only[zA])
    simp only[aQ];go_wp2;go_roundw
    case rel=>exact⟨k+1,_,_,S9,by omega,by first | rfl | go_num,⟨CA.out.own,CA.out.box,CA.out.nb,CA.out.cur.mono (by omega),CA.out.far⟩,Hf.out.1,Hf.out.2.1,by have:=Hf.out.2.2;simp;omega,Bi.out,Rq.out,Nat.le_trans YB.out qm.out,L9.out,It.out⟩
    case measure=>simp[intOf];omega
   ·have m1:IntKind.i64.wrap (x+1)=x+1:=aR _ (by omega) (by omega);have pH:aa wr (wr.alloc (.cells #[.int .i64 (x+1)] 3)):=ae _ (ab _);have U5:=zh (Hm.out.since pH jw zL Of.out);have YD:=zh (Ev.out.since pH);have YE:=zh (Hr.out.since pH);have YF:Hid (wa.heap.size<=(wr.alloc (.cells #[.int .i64 (x+1)] 3)).heap.size):=Nat.le_trans Hz.out pH.below.size;have Mt:Hid (w.heap.size<=(wr.alloc (.cells #[.int .i64 (x+1)] 3)).heap.size):=Nat.le_trans Of.out pH.below.size;obtain⟨x0,x1,x2,f0,f1,f2⟩:=Hm.out.box.cells;have bh:=U5.out.aal.1.1;have Ht:=zh bh;clear pH GZ hx bh
    go_wp2_with (at_builtin;refine fd (base:=w.heap.size) rfl _ _ rfl rfl Ht.out rfl (n_ _ _) Hl.out Mt.out ?_;intro v' w9 T fg ee Dm;obtain⟨V,mV,cV,rfl⟩:=dF.one fg;obtain⟨j5,S9,Mq,Cy,I3,Mr,Ms,Cz⟩:=U5.out.aaz fg ee Dm jw zL Mt.out YD.out rfl ⟨qH.out,Oe.out.2.1⟩ YE.out rc.out;clear x0 x1 x2 f0 f1 f2 fg ee Dm;have CA:=zh Mq;have Bi:=zh Cy;have Rq:=zh I3;have qm:=zh Mr;have L9:=zh Ms;have It:=zh Cz;clear Mq Cy I3 Mr Ms Cz;obtain⟨x0,x1,x2,f0,f1,f2⟩:=j5.cells;clear j5)
    go_roundw
    case rel=>exact⟨k+1,_,_,S9,by omega,by first | rfl | go_num,⟨CA.out.own,CA.out.box,CA.out.nb,CA.out.cur.mono (by omega),CA.out.far⟩,Hf.out.1,Hf.out.2.1,by have:=Hf.out.2.2;simp;omega,Bi.out,Rq.out,Nat.le_trans YF.out qm.out,L9.out,It.out⟩
    case measure=>simp[intOf];omega
  ·obtain rfl:k=n.ends.length:=by omega
   clear aH hk;obtain⟨k0,k1,k2,-,-,-⟩:=Hm.out.box.cells;obtain⟨e0,za,e2,f0,f1,f2⟩:=Hr.out.box.cells;have cw:=zh (Hm.out.ret (rb:=pb+1) rc.out (by omega) jw);go_wp2;refine bodyPost_ret (v:=.agg #[.slice E1 n.ends.length e1,.slice lX n.ends.length lY,.slice EN n.aaa.length eN]) (by simp[results,Tryz.results116,go_sem, *]) rfl ?_;obtain⟨r1,r2,r3⟩:=cw.out;exact⟨_,_,_,N,S,rfl,r1,Hf.out,r2.mono (by omega),r3⟩
theorem pI {w:World} {g i:Nat} {v:Value} (h:w.cell? ⟨g,i,none⟩=some v) (k:Nat):(w.setCell ⟨g,i,none⟩ v).heap[k]?=w.heap[k]?:=by
 by_cases e:k=g
 ·subst e
  unfold World.cell? at h
  cases hb:w.heap[k]? with
  | none=>rw[show w.heap[(⟨k,i,none⟩:Addr).block]?=none from hb]at h;simp at h
  | some o=>
   rw[show w.heap[(⟨k,i,none⟩:Addr).block]?=some o from hb]at h
   cases o with
   | cells cs t fr=>
    have hc:cs[i]?=some v:=by simpa using h
    have he:cs.setIfInBounds i v=cs:=by
     apply Array.ext_getElem?
     intro j;rw[Array.getElem?_setIfInBounds]
     by_cases hj:i=j
     ·subst hj;rw[if_pos rfl,if_pos (Array.getElem?_eq_some_iff.1 hc).1,hc]
     ·rw[if_neg hj]
    simp[World.setCell,Array.getElem?_modify,hb,he]
   | _=>simp at h
 ·exact Below.heap_setCell _ _ _ _ e
theorem Ew {w:World} {g i:Nat} {v:Value} (h:w.cell? ⟨g,i,none⟩=some v) (p:Addr) (u:Value) (k:Nat):((w.setCell ⟨g,i,none⟩ v).setCell p u).heap[k]?=(w.setCell p u).heap[k]?:=by
 by_cases e:k=p.block
 ·have h1:=pI h p.block;subst e
  rw[show((w.setCell ⟨g,i,none⟩ v).setCell p u).heap[p.block]?=_ from by unfold World.setCell;exact Array.getElem?_modify ..]
  rw[show(w.setCell p u).heap[p.block]?=_ from by unfold World.setCell;exact Array.getElem?_modify ..]
  rw[if_pos rfl,if_pos rfl];exact congrArg _ h1
 ·rw[Below.heap_setCell _ _ _ _ e,Below.heap_setCell _ _ _ _ e,pI h]
theorem CC {w:World} {g i j:Nat} (Gk:i≠j) (u:Value):(w.setCell ⟨g,i,none⟩ u).cell? ⟨g,j,none⟩=w.cell? ⟨g,j,none⟩:=by
 unfold World.cell? World.setCell
 simp only[Array.getElem?_modify,if_true]
 cases w.heap[g]? with
 | none=>rfl
 | some o=>cases o <;> simp[Gk]
theorem ao.setPort {w:World} {base g c n:Nat} {vi vn:Value} {N:am} {S:List Nat} (h:ao w base (.slice (some ⟨g,0,none⟩) n c) vi vn N S) {k:Nat} {es:List (Int×Int)} (hx:N.ends[k]?=some es) (hj:0<es.length):
  ∃gr cr,w.cell? ⟨g,k,none⟩=some (.slice (some ⟨gr,0,none⟩) es.length cr)/\gr∈S/\w.frozen? ⟨gr,0,none⟩=false/\w.frozen? ⟨gr,1,none⟩=false/\(∃z,w.cell? ⟨gr,0,none⟩=some z)/\(∃z,w.cell? ⟨gr,1,none⟩=some z) /\
   (∀x:Int,∃y,ao (w.setCell ⟨gr,0,none⟩ (.int .i64 x)) base (.slice (some ⟨g,0,none⟩) n c) vi vn { N with ends:=N.ends.set k (es.set 0 y) } S) /\
   (∀x:Int,∃y,ao (w.setCell ⟨gr,1,none⟩ (.int .i64 x)) base (.slice (some ⟨g,0,none⟩) n c) vi vn { N with ends:=N.ends.set k (es.set 0 y) } S):=by
 obtain⟨gr,cr,h1,-,-,-,h2,-,⟨f0,f1⟩,c0,c1,bF⟩:=h.aan hx hj;simp only[Nat.zero_mul,Nat.zero_add]at f0 f1 c0 c1 bF;obtain⟨e,he⟩:=ax es 0 hj;obtain⟨u,T,hu,-,hR,-,-,-⟩:=h.aah hx;rw[h1]at hu;have hu:=Option.some.inj hu;subst hu;obtain⟨d0,d1,-⟩:=co.cells hR he;simp only[Nat.zero_mul,Nat.zero_add]at d0 d1;refine⟨gr,cr,h1,h2,f0,f1,c0,c1,fun x=>⟨(x,e.2),?_⟩,fun x=>⟨(e.1,x),?_⟩⟩
 ·refine(bF (x,e.2)).aac (fun q _=>?_)
  exact(pI (show(w.setCell ⟨gr,0,none⟩ (.int .i64 x)).cell? ⟨gr,1,none⟩=some (.int .i64 e.2)by rw[CC (by omega)];exact d1) q).symm
 ·exact(bF (e.1,x)).aac (fun q _=>(Ew d0 _ _ q).symm)
structure Br (cb pb:Nat) (A:Option Addr) (L c P:Nat) (w W:World) (ve vi vn:Value) (N:am) (S:List Nat):Prop where
 mb:Mb cb w.heap.size pb A L c P w W ve vi vn N S
 rb:aT W (pb+1) (.slice none 0 0) (.slice none 0 0) (.slice none 0 0)
 rn:pb+1∉S
 pe:pb=w.heap.size
 cbp:cb<pb
section
variable {cb pb : Nat} {A : Option Addr} {L c P : Nat} {w W : World} {ve vi vn : Value} {N : am} {S : List Nat}
theorem Br.sz (h:Br cb pb A L c P w W ve vi vn N S):w.heap.size<=W.heap.size:=by have:=h.rb.lt;have:=h.pe;omega
theorem Br.seen {W':World} {P':Nat} (h:Br cb pb A L c P w W ve vi vn N S) (hs:fR cb W W') (wI:cW W' cb A L c P'):Br cb pb A L c P' w W' ve vi vn N S:=
 ⟨h.mb.seen hs wI (by have:=h.pe;have:=h.cbp;omega) (by have:=h.pe;omega) h.sz,(hs.block _ h.rb.lt (by have:=h.cbp;omega)).trans h.rb,h.rn,h.pe,h.cbp⟩
theorem Br.since {W':World} (h:Br cb pb A L c P w W ve vi vn N S) (hs:aa W W'):Br cb pb A L c P w W' ve vi vn N S:=h.seen (CB.of hs) (h.mb.cur.since hs)
theorem Br.up {P':Nat} (h:Br cb pb A L c P w W ve vi vn N S) (hP:P<=P'):Br cb pb A L c P' w W ve vi vn N S:=⟨⟨h.mb.own,h.mb.box,h.mb.nb,h.mb.cur.mono hP,h.mb.far⟩,h.rb,h.rn,h.pe,h.cbp⟩
theorem Br.only {W':World} {N':am} {S':List Nat} {YG vi' N_:Value} (h:Br cb pb A L c P w W ve vi vn N S) (ho:ao W' w.heap.size YG vi' N_ N' S') (hS:∀j∈S',j∈S\/W.heap.size<=j) (eK:aL S W W'):
  aS W' pb ve vi vn/\pb∉S'/\pb+1∉S'/\aT W' (pb+1) (.slice none 0 0) (.slice none 0 0) (.slice none 0 0)/\cW W' cb A L c P/\CB cb w.heap.size w W':=by
 have hp:=h.pe;have hc:=h.cbp;have h1:=h.rb.lt;have jI:Below w.heap.size W W':=eK.below _ h.sz (fun k hk=>(h.mb.own.range k hk).1)
 refine⟨h.mb.box.blk (eK.block _ h.mb.box.lt h.mb.nb),fun hj=>?_,fun hj=>?_,(eK.block _ h1 h.rn).trans h.rb,h.mb.cur.aab (fun k hk=>jI.block k (by omega)),h.mb.far.trans (CB.of jI)⟩
 ·rcases hS _ hj with h2 | h2
  ·exact h.mb.nb h2
  ·omega
 ·rcases hS _ hj with h2 | h2
  ·exact h.rn h2
  ·omega
theorem Br.own {W':World} {N':am} {S':List Nat} (h:Br cb pb A L c P w W ve vi vn N S) (ho:ao W' w.heap.size ve vi vn N' S') (hS:∀j∈S',j∈S\/W.heap.size<=j) (eK:aL S W W'):Br cb pb A L c P w W' ve vi vn N' S':=by
 obtain⟨a1,a2,a3,a4,a5,a6⟩:=h.only ho hS eK;exact⟨⟨ho,a1,a2,a5,a6⟩,a4,a3,h.pe,h.cbp⟩
theorem Br.aat {W':World} {N':am} {S':List Nat} {v':Value} (h:Br cb pb A L c P w W ve vi vn N S) (ho:ao W' w.heap.size v' vi vn N' S') (hS:∀j∈S',j∈S\/W.heap.size<=j) (eK:aL S W W'):
  aS W' pb ve vi vn/\Br cb pb A L c P w (W'.setCell ⟨pb,0,none⟩ v') v' vi vn N' S':=by
 obtain⟨a1,a2,a3,a4,a5,a6⟩:=h.only ho hS eK;have hp:=h.pe;have hc:=h.cbp
 refine⟨a1,⟨⟨ho.aac (fun k hk=>Below.heap_setCell _ _ _ _ (fun e=>a2 (by have e':k=pb:=e;exact e' ▸ hk))),a1.aat,a2,a5.aab (fun k hk=>Below.heap_setCell _ _ _ _ (by show k≠pb;omega)),a6.setCell (p:=⟨pb,0,none⟩) (.inl (by show _<=pb;omega)) _⟩,a4.other (by show pb+1≠pb;omega),a3,h.pe,h.cbp⟩⟩
theorem Br.aau {W':World} {N':am} {S':List Nat} {v':Value} (h:Br cb pb A L c P w W ve vi vn N S) (ho:ao W' w.heap.size ve v' vn N' S') (hS:∀j∈S',j∈S\/W.heap.size<=j) (eK:aL S W W'):
  aS W' pb ve vi vn/\Br cb pb A L c P w (W'.setCell ⟨pb,1,none⟩ v') ve v' vn N' S':=by
 obtain⟨a1,a2,a3,a4,a5,a6⟩:=h.only ho hS eK;have hp:=h.pe;have hc:=h.cbp
 refine⟨a1,⟨⟨ho.aac (fun k hk=>Below.heap_setCell _ _ _ _ (fun e=>a2 (by have e':k=pb:=e;exact e' ▸ hk))),a1.aau,a2,a5.aab (fun k hk=>Below.heap_setCell _ _ _ _ (by show k≠pb;omega)),a6.setCell (p:=⟨pb,1,none⟩) (.inl (by show _<=pb;omega)) _⟩,a4.other (by show pb+1≠pb;omega),a3,h.pe,h.cbp⟩⟩
theorem Br.aav {W':World} {N':am} {S':List Nat} {v':Value} (h:Br cb pb A L c P w W ve vi vn N S) (ho:ao W' w.heap.size ve vi v' N' S') (hS:∀j∈S',j∈S\/W.heap.size<=j) (eK:aL S W W'):
  aS W' pb ve vi vn/\Br cb pb A L c P w (W'.setCell ⟨pb,2,none⟩ v') ve vi v' N' S':=by
 obtain⟨a1,a2,a3,a4,a5,a6⟩:=h.only ho hS eK;have hp:=h.pe;have hc:=h.cbp
 refine⟨a1,⟨⟨ho.aac (fun k hk=>Below.heap_setCell _ _ _ _ (fun e=>a2 (by have e':k=pb:=e;exact e' ▸ hk))),a1.aav,a2,a5.aab (fun k hk=>Below.heap_setCell _ _ _ _ (by show k≠pb;omega)),a6.setCell (p:=⟨pb,2,none⟩) (.inl (by show _<=pb;omega)) _⟩,a4.other (by show pb+1≠pb;omega),a3,h.pe,h.cbp⟩⟩
theorem Br.aas {W':World} {T:List Nat} {v':Value} {ids':List Int} (h:Br cb pb A L c P w W ve vi vn N S) (ho:it W' w.heap.size v' ids' T) (eK:aL vi.ownBlock.toList W W') (hT:∀j∈T,j∈vi.ownBlock.toList\/W.heap.size<=j):
  aS W' pb ve vi vn/\∃S',Br cb pb A L c P w (W'.setCell ⟨pb,1,none⟩ v') ve v' vn { N with ids:=ids' } S':=by
 obtain⟨S',Cu,th⟩:=h.mb.own.aar ho eK hT;obtain⟨b1,b2⟩:=h.aau Cu th (eK.mono (h.mb.aal.2));exact⟨b1,S',b2⟩
theorem Br.aaG {W':World} {T:List Nat} {v':Value} {LY:List Int} (h:Br cb pb A L c P w W ve vi vn N S) (ho:it W' w.heap.size v' LY T) (eK:aL vn.ownBlock.toList W W') (hT:∀j∈T,j∈vn.ownBlock.toList\/W.heap.size<=j):
  aS W' pb ve vi vn/\∃S',Br cb pb A L c P w (W'.setCell ⟨pb,2,none⟩ v') ve vi v' { N with aaa:=LY } S':=by
 obtain⟨S',Cu,th⟩:=h.mb.own.aaE ho eK hT;obtain⟨b1,b2⟩:=h.aav Cu th (eK.mono (h.mb.aaC.2));exact⟨b1,S',b2⟩
theorem Br.assign {W1:World} {P':Nat} {a b d:Value} {N':am} {S':List Nat} (h:Br cb pb A L c P w W ve vi vn N S) (hs:fR cb W W1) (wI:cW W1 cb A L c P') (ho:ao W1 W.heap.size a b d N' S'):
  Br cb pb A L c P' w (aag W1 pb a b d) a b d N' S':=by
 have hp:=h.pe;have hc:=h.cbp;have h1:=h.rb.lt;refine⟨h.mb.assign hs wI ho (by omega) (by omega) (by omega) h.sz,(bU _ _ _ _ _ (by omega)).trans ((hs.block _ h.rb.lt (by omega)).trans h.rb),fun hj=>?_,h.pe,h.cbp⟩
 have:=(ho.range _ hj).1
 omega
theorem Br.ret (h:Br cb pb A L c P w W ve vi vn N S):ao (aag W (pb+1) ve vi vn) w.heap.size ve vi vn N S/\cW (aag W (pb+1) ve vi vn) cb A L c P/\CB cb w.heap.size w (aag W (pb+1) ve vi vn):=h.mb.ret h.rn (by have:=h.pe;omega) (by have:=h.pe;have:=h.cbp;omega)
end
structure Bd (N:am):Prop where
 ends:N.ends.length<=100
 row:∀(k:Nat) (es:List (Int×Int)),N.ends[k]?=some es->es.length<=200
 ids:N.ids.length<=200
 aaa:N.aaa.length<=200
theorem Bd.small {n:am} (h:Bd n):kY n:=by
 refine⟨by have:=h.ends;omega,fun k es he=>by have:=h.row k es he;omega,?_⟩
 have h1:kC n.ends<=2*200*n.ends.length:=Cb (fun es he=>by
  obtain⟨k,hk⟩:=List.getElem?_of_mem he
  exact h.row k es hk)
 have h2:=xX n.ends
 have h3:2*200*n.ends.length<=2*200*100:=Nat.mul_le_mul (by omega) (by have:=h.ends;omega)
 have:=h.ends
 have:=h.ids
 have:=h.aaa
 unfold ij;omega
theorem Gd.bd {R M:Nat} {n:am} (h:Gd R M n) (hR:R<=200) (hM:M<=100):Bd n:=
 ⟨by have:=h.ends;omega,fun k es he=>by have:=h.row k es he;omega,by have:=h.ids;omega,by have:=h.aaa;have:=h.ends;omega⟩
theorem Bd.setRow {n:am} (h:Bd n) (k:Nat) {es:List (Int×Int)} (he:es.length<=200):Bd { n with ends:=n.ends.set k es }:=by
 refine⟨by simp;exact h.ends,fun j fs hf=>?_,h.ids,h.aaa⟩
 rw[List.getElem?_set]at hf
 split at hf
 ·split at hf
  ·cases hf;exact he
  ·cases hf
 ·exact h.row j fs hf
end Go.Proofs.YtgjggeapebbcbaaGreat
