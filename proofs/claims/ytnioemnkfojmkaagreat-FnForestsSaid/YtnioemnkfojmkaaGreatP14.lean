/- Parts of the proof: walks of functions and plain laws. -/
import Derived.Test.YtnioemnkfojmkaaGreatP13
set_option maxRecDepth 100000
set_option maxHeartbeats 16000000
namespace Go.Proofs.YtnioemnkfojmkaaGreat
open Go Go.RowKit
def Fk (cb B:Nat) (A:Option Addr) (L c P:Nat) (w:World) (T:ao->Prop) (e:Ending) (w':World):Prop:=
 ∃ve vi vn N S,e=.returned (.agg #[ve,vi,vn])/\aw w' B ve vi vn N S/\T N/\dj w' cb A L c P/\CB cb B w w'
theorem aw.ahp {w:World} {base k c:Nat} {A:Option Addr} {ve vi:Value} {N:ao} {S:List Nat} (h:aw w base ve vi (.slice A k c) N S) (h0:0<N.agT.length):∃g,A=some ⟨g,0,none⟩:=by
 obtain⟨S1,S2,S3,_,_,h3,_⟩:=h;rcases h3.1.cases with⟨-,h2⟩ | ⟨g,c',hv,_⟩
 ·rw[h2]at h0;simp at h0
 ·cases hv;exact⟨g,rfl⟩
theorem aw.ahr {w:World} {base g k c j:Nat} {ve vi:Value} {N:ao} {S:List Nat} (h:aw w base ve vi (.slice (some ⟨g,0,none⟩) k c) N S) (hj:j<N.agT.length):∃z,w.cell? ⟨g,j,none⟩=some z:=by
 obtain⟨S1,S2,S3,_,_,h3,_⟩:=h;obtain⟨x,hx⟩:=au N.agT j hj;exact⟨_,h3.1.cell hx⟩
theorem yO (cb:Nat) (A:Option Addr) (L c P B R M:Nat) (ve vi vn:Value) (n:ao) (S:List Nat) (w:World) (hc:dj w cb A L c P) (hP:P<=4611686018426000000) (h:aw w B ve vi vn n S) (jW:cb<B) (NO:B<=w.heap.size) (hg:Gd R M n) (hR:R<=100) (hM:M<=100) (PV:0<n.ends.length):
  Calls Tryz.prog 130 #[.pointer (some ⟨cb,0,none⟩),.agg #[ve,vi,vn]] w (Fk cb B A L c (P+100000) w (fun N=>Qb n N/\Gd R M N)):=by
 obtain⟨A1,c1,rfl,-,qQ,-⟩:=id h.read.1;obtain⟨AI,cI,rfl,-,-,-⟩:=id h.read.2.1;obtain⟨AN,cN,rfl,-,-,-⟩:=id h.read.2.2;obtain⟨pb,dV⟩:=J_ w.heap.size
 obtain⟨w0,bj⟩:=J_ (w.alloc (.cells #[.slice A1 n.ends.length c1,.slice AI n.ids.length cI,.slice AN n.agT.length cN] 30))
 obtain⟨wa,mF⟩:=J_ (w0.alloc (.cells #[.slice none 0 0,.slice none 0 0,.slice none 0 0] 30))
 have aK:ab w w0:=by rw[bj];exact ad _ (aa _)
 have dw:ab w0 wa:=by rw[mF];exact ad _ (aa _)
 have pL:w0.heap.size=w.heap.size+1:=by rw[bj];simp
 have ks:bB w0 pb (.slice A1 n.ends.length c1) (.slice AI n.ids.length cI) (.slice AN n.agT.length cN):=by rw[bj,dV];exact bB.new _ _ _ _ _
 have gh:bD wa (w.heap.size+1) (.slice none 0 0) (.slice none 0 0) (.slice none 0 0):=by
  rw[mF,<- pL];show(w0.heap.push _)[w0.heap.size]?=_
  rw[Zbc]
 have tD:ab w wa:=aK.after dw
 have vX:Mb cb B pb A L c P w wa (.slice A1 n.ends.length c1) (.slice AI n.ids.length cI) (.slice AN n.agT.length cN) n S:=
  ⟨h.agU tD.below,ks.below dw (by rw[pL,dV];omega),fun hj=>zX ((h.range _ hj).2),hc.since tD,CB.mono (CB.of tD) NO⟩
 have dG:Hid (B<=pb/\pb+2=wa.heap.size/\pb=w.heap.size):=⟨zO,by rw[dV,mF];simp;omega,dV⟩
 have Ys:Hid (∀j∈S,j<pb):=fun j hj=>zX ((h.range j hj).2)
 obtain⟨fX,Cy,Hg,cD,Kr⟩:=D_ gh vX hg bj mF;have dK:=vX.box.cells
 have aaj:n.ends.length<=100:=zX hg.ends
 clear hc h aK dw ks gh tD vX hg bj mF dV pL
 go_enter Tryz.func130,Tryz.ntmps130
 go_upto_region 1 with(fail);rw[<- cD.out,<- Kr.out,<- dG.out.2.2];obtain⟨x0,x1,x2,-,-,-⟩:=dK;clear NO;go_wp2
 go_loopw [10] (fun i wr=>∃(k:Nat) (ve vi vn:Value) (N:ao) (S:List Nat),k<=n.ends.length/\i=.int .i64 k/\Mb cb B pb A L c (P+202*k) w wr ve vi vn N S/\Qb n N/\Gd R M N/\bD wr (pb+1) (.slice none 0 0) (.slice none 0 0) (.slice none 0 0)/\pb+1∉S/\wa.heap.size<=wr.heap.size) (fun i _=>n.ends.length-(intOf i).toNat)
 case atStart=>exact⟨0,_,_,_,n,S,Zac _,rfl,by simpa using Cy.out,Qb.refl _,Hg.out,by rw[dG.out.2.2];exact fX.out,fun hj=>zX (Ys.out _ hj),Zaj _⟩
 case round=>
  obtain⟨k,ve,vi,vn,N,S2,hk,rfl,hm,iR,gT,gh,ME,fD⟩:=hrel;clear x0 x1 x2;obtain⟨JU,l8,rfl,-,Wy,-⟩:=id hm.own.read.1;obtain⟨ts,tt,rfl,-,-,-⟩:=id hm.own.read.2.1;obtain⟨Bj,wQ,rfl,-,-,-⟩:=id hm.own.read.2.2;have pA:=iR.len;obtain⟨g,rfl,-⟩:=hm.own.head zO;obtain⟨Hm,wH,kw,Wz,Hrn,kR,iF⟩:=F_ hm iR gT gh ME fD pA
  have HBr:Hid (B<=wr.heap.size):=by show _<=_;have:=dG.out;omega
  have hP2:=hm.cur;clear hm iR gT gh ME fD pA
  by_cases aA:k<n.ends.length
  ·have m4:=zw k;have Jw:=zh hP2;clear hP2;go_wp2_with fail;refine(xV cb A L c (P+202*k) 2 wr Jw zO zO).mono ?_;rintro e w2 ⟨b,rfl,lh,sY⟩;have mN:=zh (Hm.out.seen sY lh jW dG.out.1 HBr.out)
   have OR:Hid (bD w2 (pb+1) (.slice none 0 0) (.slice none 0 0) (.slice none 0 0)):=(sY.block _ Wz.out.lt (zX dG.out)).trans Wz.out
   have nu:Hid (wa.heap.size<=w2.heap.size):=Zak kR sY.size;have Im:=zh lh;clear lh sY;cases b
   ·go_wp2;go_roundw
    exact⟨k+1,_,_,_,N,S2,zO,zN,⟨mN.own,mN.box,mN.nb,Im.mono zO,mN.far⟩,wH,kw,OR,Hrn,nu⟩
    simp[intOf];omega
   ·obtain⟨xv,lK⟩:=J_ (bZ N k)
    have xW:=df (n:=N) (v:=k) (zX iF.out)
    rw[<- lK]at xW;have Co:=zh lK
    have md:Hid (xv.length<=100):=by show _<=_;have:=kw.row _ _ xW;omega
    obtain⟨u,T,hu,-,hR,-,-,zr⟩:=mN.own.ag0 xW;obtain⟨AU,cU,rfl,-,-,-⟩:=id hR.read
    have MF:g≠cb:=fun e=>zX ((mN.out.own.range g zr).1)
    have jg:pb≠cb:=zX dG.out
    have Hxv:=zh xW;obtain⟨b0,b1,b2,-,-,-⟩:=mN.box.cells;have lF:=zh (And.intro b0 (And.intro b1 (And.intro b2 hu)))
    have HkN:Hid (k<N.ends.length):=by show _<_;have:=iF.out;omega
    clear lK xW hR zr b0 b1 b2 hu;go_upto_region 5 with(fail);have WA:=HkN.out;refine az (fun W=>W.cell? ⟨pb,0,none⟩=some (.slice (some ⟨g,0,none⟩) N.ends.length l8)/\W.cell? ⟨pb,1,none⟩=some (.slice ts N.ids.length tt)/\W.cell? ⟨pb,2,none⟩=some (.slice Bj N.agT.length wQ)/\W.cell? ⟨g,k,none⟩=some (.slice AU xv.length cU)) 11 [false,false,false,false,false,false,false,false,false,true,true] zK zK (show(World.drew w2).cell? ⟨pb,0,none⟩=some (.slice (some ⟨g,0,none⟩) N.ends.length l8)/\(World.drew w2).cell? ⟨pb,1,none⟩=some (.slice ts N.ids.length tt)/\(World.drew w2).cell? ⟨pb,2,none⟩=some (.slice Bj N.agT.length wQ)/\(World.drew w2).cell? ⟨g,k,none⟩=some (.slice AU xv.length cU)from lF) ?_
    simp only[ew,dM,zT]
    iterate 9 (apply bC rfl;(intro W hW;(obtain⟨k0,k1,k2,k3⟩:=hW);go_simp;with_reducible rfl);simp only[zA])
    obtain⟨W,dh⟩:=J_ (World.drew w2)
    rw[<- dh];have hW:=(show(World.drew w2).cell? ⟨pb,0,none⟩=some (.slice (some ⟨g,0,none⟩) N.ends.length l8)/\(World.drew w2).cell? ⟨pb,1,none⟩=some (.slice ts N.ids.length tt)/\(World.drew w2).cell? ⟨pb,2,none⟩=some (.slice Bj N.agT.length wQ)/\(World.drew w2).cell? ⟨g,k,none⟩=some (.slice AU xv.length cU)from lF);rw[<- dh]at hW;have fK:=zh dh;clear dh;refine Or.inl ⟨rfl,?_⟩
    go_simp
    (with_reducible refine(Sc cb A L c (P+202*k+2) xv.length W (by rw[fK.out];exact Im.out.since (aj (aa _))) zO md.out).mono ?_)
    rintro e W' ⟨gp,xs,rfl,yh,dV,f8,hC⟩;refine⟨_,rfl,And.intro (ay hW.1 jg _ hC) (And.intro (ay hW.2.1 jg _ hC) (And.intro (ay hW.2.2.1 jg _ hC) (ay hW.2.2.2 MF _ hC))),?_⟩
    replace hW:=And.intro (ay hW.1 jg _ hC) (And.intro (ay hW.2.1 jg _ hC) (And.intro (ay hW.2.2.1 jg _ hC) (ay hW.2.2.2 MF _ hC)))
    have nq:ab w2 W:=(by rw[fK.out];exact aj (aa _))
    have sY:bO cb w2 W':=((bO.refl cb w2).after nq).trans hC;obtain⟨Hop,HpB,kn,xU⟩:=C_ yh dV f8 sY;clear yh dV f8 hC sY nq;obtain⟨wp,rfl⟩:=J_ W'
    (try simp only[zA])
    refine Or.inl ⟨rfl,?_⟩
    go_simp
    (with_reducible refine(Ik _ _ _ _ N k xs _ (mN.out.own.seen xU.out jW).read HkN.out (kw.out.small hR hM) kw.out.wf Hop.out.ints (by rw[<- Co.out];exact Hop.out.len) (by rw[<- Co.out];exact HpB.out)).mono ?_)
    rintro e W' ⟨N2,fH,ip,ve2,vi2,vn2,S3,rfl,dD,aS⟩;refine⟨_,rfl,And.intro (bc aS hW.1) (And.intro (bc aS hW.2.1) (And.intro (bc aS hW.2.2.1) (bc aS hW.2.2.2))),?_⟩
    replace hW:=And.intro (bc aS hW.1) (And.intro (bc aS hW.2.1) (And.intro (bc aS hW.2.2.1) (bc aS hW.2.2.2)))
    skip
    (try simp only[zA])
    simp only[bP];obtain⟨D0,d0,rfl,-,-,-⟩:=id dD.read.1;obtain⟨D1,d1,rfl,-,-,-⟩:=id dD.read.2.1;obtain⟨D2,d2,rfl,-,-,-⟩:=id dD.read.2.2;have oa:bO cb w2 W':=xU.after aS;have VU:pb<wp.heap.size:=Zal mN.box.lt xU.size
    have Io:=mN.out.assign oa (kn.out.since aS) dD VU jW dG.out.1 (by have h1:=nu.out;have h2:=dG.out;omega)
    have yP:bB W' pb (.slice (some ⟨g,0,none⟩) N.ends.length l8) (.slice ts N.ids.length tt) (.slice Bj N.agT.length wQ):=mN.box.blk (oa.block pb mN.box.lt jg)
    have acp:bD (agX W' pb (.slice D0 N2.ends.length d0) (.slice D1 N2.ids.length d1) (.slice D2 N2.agT.length d2)) (pb+1) (.slice none 0 0) (.slice none 0 0) (.slice none 0 0):=(dC W' pb _ _ _ zO).trans ((oa.block _ OR.out.lt (zX dG.out)).trans OR.out)
    have acq:pb+1∉S3:=fun hj=>by have h1:=(dD.range _ hj).1;have h2:=xU.size;have h3:=nu.out;have h4:=dG.out;omega
    have rE:wa.heap.size<=(agX W' pb (.slice D0 N2.ends.length d0) (.slice D1 N2.ids.length d1) (.slice D2 N2.agT.length d2)).heap.size:=by rw[ix];exact Zak nu oa.size
    obtain⟨-,-,-,f0,f1,f2⟩:=yP.cells;obtain⟨k0,k1,k2,k3⟩:=hW;obtain⟨sC,aey,aez,Bk,eU,GZ⟩:=E_ Io acp acq rE (wH.out.trans fH.shp) (kw.out.sh fH.shp ip);clear Io yP acp acq rE oa dD aS fH ip WA VU;go_wp2;go_roundw
    exact⟨k+1,_,_,_,N2,S3,zO,zN,⟨sC.own,sC.box,sC.nb,sC.cur.mono zO,sC.far⟩,eU,GZ,aey,aez,Bk⟩
    simp[intOf];omega
  ·obtain rfl:k=n.ends.length:=zO
   have Jw:=zh hP2;clear hP2;obtain⟨wo,rfl⟩:=J_ wr
   go_wp2_with fail;refine(xV cb A L c (P+202*n.ends.length) 3 wo Jw zO zO).mono ?_;rintro e w2 ⟨b,rfl,lh,sY⟩;have mN:=zh (Hm.out.seen sY lh jW dG.out.1 HBr.out)
   have OR:Hid (bD w2 (pb+1) (.slice none 0 0) (.slice none 0 0) (.slice none 0 0)):=(sY.block _ Wz.out.lt (zX dG.out)).trans Wz.out
   have nu:Hid (wa.heap.size<=w2.heap.size):=Zak kR sY.size;clear lh sY;cases b
   ·have OS:=mN;have Hrz:=OR;have Sw:=wH;have V9:=kw;obtain⟨NZ,hNZ⟩:=J_ N
    rw[<- hNZ]at Sw V9
    have acr:Hid (Mb cb B pb A L c (P+202*n.ends.length+2) w w2 (.slice (some ⟨g,0,none⟩) N.ends.length l8) (.slice ts N.ids.length tt) (.slice Bj N.agT.length wQ) NZ S2):=by rw[hNZ];exact OS
    clear OS hNZ;have OS:=acr;clear acr;have yP:=OS.box.cells;obtain⟨k0,k1,k2,-,-,-⟩:=yP;have F7:=Hrz.box.cells;obtain⟨e0,e1,e2,f0,f1,f2⟩:=F7;go_wp2;refine bodyPost_ret (v:=.agg #[.slice (some ⟨g,0,none⟩) N.ends.length l8,.slice ts N.ids.length tt,.slice Bj N.agT.length wQ]) (by simp[results,Tryz.results130,go_sem, *]) rfl ?_;refine⟨_,_,_,NZ,S2,rfl,OS.own.agV (fun q hq=>?_),⟨Sw,V9⟩,OS.cur.mono zO |>.agU (fun q hq=>?_),?_⟩
    ·have th:q≠pb+1:=fun e=>Hrn.out (e ▸ hq)
     rw[Zan _ _ _ q (by exact th),Zan _ _ _ q (by exact th),Zan _ _ _ q (by exact th)]
    ·have th:q≠pb+1:=zX dG.out
     rw[Zan _ _ _ q (by exact th),Zan _ _ _ q (by exact th),Zan _ _ _ q (by exact th)]
    ·have fG:B<=pb+1:=zX dG.out
     exact((OS.out.far.setCell (p:=⟨pb+1,0,none⟩) (.inl fG) _).setCell (p:=⟨pb+1,1,none⟩) (.inl fG) _).setCell (p:=⟨pb+1,2,none⟩) (.inl fG) _
   ·have jg:pb≠cb:=zX dG.out
    have yP:=mN.box.cells;have k2:=yP.2.2.1
    have Ao:Hid (N.agT.length<=100):=by show _<=_;have:=kw.agT;have:=kw.ends;omega
    clear yP;go_upto_region 9 with(fail);clear k2;obtain⟨Q,hQ⟩:=J_ (P+202*n.ends.length+2)
    have MG:=zh hQ;rw[<- hQ]at mN;clear hQ
    go_loopw [32] (fun i wr=>∃(j:Nat) (ys:List Int),j<=N.agT.length/\i=.int .i64 j/\ys.length=N.agT.length/\Mb cb B pb A L c (Q+2*j) w wr (.slice (some ⟨g,0,none⟩) N.ends.length l8) (.slice ts N.ids.length tt) (.slice Bj N.agT.length wQ) { N with agT:=ys } S2/\bD wr (pb+1) (.slice none 0 0) (.slice none 0 0) (.slice none 0 0)/\wa.heap.size<=wr.heap.size) (fun i _=>N.agT.length-(intOf i).toNat)
    case atStart=>exact⟨0,N.agT,Zac _,rfl,rfl,mN,OR,nu⟩
    case round=>
     obtain⟨j,ys,hj,rfl,Qc,hm,gh,fD⟩:=hrel;obtain⟨Hmj,aak,Kg,Lh⟩:=C_ hm gh fD Qc;clear hm gh fD Qc
     have HBj:Hid (B<=wr.heap.size):=by show _<=_;have h1:=Kg.out;have h2:=dG.out;omega
     by_cases FR:j<N.agT.length
     ·obtain⟨gi,rfl⟩:=Hmj.out.own.ahp (by show 0<ys.length;have:=Lh.out;omega)
      have k2:=Hmj.box.cells.2.2.1;have OT:=zh k2
      have m5:IntKind.i64.wrap ((j:Int)+1)=(j:Int)+1:=bU _ zO (zX Ao.out)
      clear k2;go_upto_region 11 with(fail);refine az (fun W=>W.cell? ⟨pb,2,none⟩=some (.slice (some ⟨gi,0,none⟩) N.agT.length wQ)) 5 [false,false,false,false,true] zK zK (show(World.drew wr).cell? ⟨pb,2,none⟩=some (.slice (some ⟨gi,0,none⟩) N.agT.length wQ)from OT) ?_
      simp only[ew,dM,zT]
      iterate 4 (apply bC rfl;(intro W hW;(have k2:=hW);go_simp;with_reducible rfl);simp only[zA])
      obtain⟨W,dh⟩:=J_ (World.drew wr)
      rw[<- dh];have hW:=(show(World.drew wr).cell? ⟨pb,2,none⟩=some (.slice (some ⟨gi,0,none⟩) N.agT.length wQ)from OT);rw[<- dh]at hW;have fK:=zh dh;clear dh;refine Or.inl ⟨rfl,?_⟩
      go_simp
      (with_reducible refine(dF cb A L c (Q+2*j) 3 W (by rw[fK.out];exact Hmj.out.cur.since (aj (aa _))) (zY MG.out Ao.out) zO).mono ?_)
      rintro e W' ⟨x,rfl,hx,f8,hC⟩;refine⟨_,rfl,ay hW jg _ hC,?_⟩
      replace hW:=ay hW jg _ hC
      have nq:ab wr W:=(by rw[fK.out];exact aj (aa _))
      have pz:bO cb wr W':=((bO.refl cb wr).after nq).trans hC;have Yt:=zh (Hmj.out.seen pz f8 jW dG.out.1 HBj.out)
      have Hrw:Hid (bD W' (pb+1) (.slice none 0 0) (.slice none 0 0) (.slice none 0 0)):=(pz.block _ aak.out.lt (zX dG.out)).trans aak.out
      have Fg:Hid (wa.heap.size<=W'.heap.size):=Zak Kg pz.size;clear hC f8 pz nq
      (try simp only[zA])
      simp only[bP]
      obtain⟨q1,q2,q3⟩:=Yt.out.own.ahm (k:=j) (x:Int) (by show j<ys.length;have:=Lh.out;omega)
      obtain⟨z0,q4⟩:=Yt.out.own.ahr (j:=j) (by show j<ys.length;have:=Lh.out;omega)
      have Yu:gi≠pb:=fun e=>Yt.out.nb (e ▸ q1)
      have yi:gi≠pb+1:=fun e=>Hrn.out (e ▸ q1)
      have hgB:=(Yt.own.range gi q1).1
      have hmf:Mb cb B pb A L c (Q+2*(j+1)) w (W'.setCell ⟨gi,j,none⟩ (.int .i64 (x:Int))) (.slice (some ⟨g,0,none⟩) N.ends.length l8) (.slice ts N.ids.length tt) (.slice (some ⟨gi,0,none⟩) N.agT.length wQ) { N with agT:=ys.set j (x:Int) } S2:=
       ⟨q3,Yt.out.box.set Yu,Yt.out.nb,(Yt.out.cur.mono zO).agU (fun q hq=>Zan _ _ _ _ (by show q≠gi;omega)),Yt.out.far.setCell (p:=⟨gi,j,none⟩) (.inl hgB) _⟩
      have Hmf:=zh hmf;have Hrf:Hid (bD (W'.setCell ⟨gi,j,none⟩ (.int .i64 (x:Int))) (pb+1) (.slice none 0 0) (.slice none 0 0) (.slice none 0 0)):=Hrw.out.other (Ne.symm yi)
      have Hsf:Hid (wa.heap.size<=(W'.setCell ⟨gi,j,none⟩ (.int .i64 (x:Int))).heap.size):=by show _<=_;rw[iC];exact Fg
      clear q1 q3 Yu yi hgB hmf hx;go_wp2;go_roundw
      exact⟨j+1,_,zO,zN,by rw[Zau];exact Lh,Hmf,Hrf,Hsf⟩
      simp[intOf];omega
     ·obtain rfl:j=N.agT.length:=zO
      have OS:=Hmj;have Hrz:=aak;have Jy:=MG.out;have aal:Qb N { N with agT:=ys }:=⟨rfl,Lh,rfl,fun k es he=>⟨es,he,rfl⟩⟩
      have Sw:=zh (wH.out.trans aal)
      have V9:=zh (kw.out.sh aal (fun k es he e hm=>by
       obtain⟨a,b,fs,h1,h2,h3⟩:=kw.wf k es he e hm
       exact⟨a,b,fs,h1,h2,h3⟩))
      obtain⟨NZ,hNZ⟩:=J_ ({ N with agT:=ys }:ao)
      rw[<- hNZ]at Sw V9 OS;have acs:=zh Ao.out;clear hNZ aal Hmj FR hj
      have OU:Hid (Q+2*N.agT.length<=P+100000):=by show _<=_;have:=Ao.out;omega
      clear Jy;have yP:=OS.box.cells;obtain⟨k0,k1,k2,-,-,-⟩:=yP;have F7:=Hrz.box.cells;obtain⟨e0,e1,e2,f0,f1,f2⟩:=F7;go_wp2;refine bodyPost_ret (v:=.agg #[.slice (some ⟨g,0,none⟩) N.ends.length l8,.slice ts N.ids.length tt,.slice Bj N.agT.length wQ]) (by simp[results,Tryz.results130,go_sem, *]) rfl ?_;refine⟨_,_,_,NZ,S2,rfl,OS.own.agV (fun q hq=>?_),⟨Sw,V9⟩,OS.cur.mono OU |>.agU (fun q hq=>?_),?_⟩
      ·have th:q≠pb+1:=fun e=>Hrn.out (e ▸ hq)
       rw[Zan _ _ _ q (by exact th),Zan _ _ _ q (by exact th),Zan _ _ _ q (by exact th)]
      ·have th:q≠pb+1:=zX dG.out
       rw[Zan _ _ _ q (by exact th),Zan _ _ _ q (by exact th),Zan _ _ _ q (by exact th)]
      ·have fG:B<=pb+1:=zX dG.out
       exact((OS.out.far.setCell (p:=⟨pb+1,0,none⟩) (.inl fG) _).setCell (p:=⟨pb+1,1,none⟩) (.inl fG) _).setCell (p:=⟨pb+1,2,none⟩) (.inl fG) _
theorem kT {n:ao} {v:Nat} (hv:v<n.ends.length) (e:Int×Int) (k:Nat):bZ (tP n v e) k=if k=v then bZ n v++[e] else bZ n k:=by
 unfold bZ tP
 simp only[zDd]
 by_cases h:k=v
 ·subst h;rw[if_pos rfl,Zav hv];rfl
 ·rw[if_neg h,Zaw (Ne.symm h)]
theorem rF {n:ao} {k:Nat} {es:List (Int×Int)} (h:n.ends[k]?=some es):bZ n k=es:=by
 unfold bZ;rw[zDd,h];rfl
theorem Ij.add {n:ao} {v:Nat} (hv:v<n.ends.length) (e:Int×Int) {x:Int×Int} (h:Ij n x):Ij (tP n v e) x:=by
 obtain⟨a,b,fs,h1,h2,h3⟩:=h
 have ha:a<(tP n v e).ends.length:=by rw[jv];exact ah h2
 refine⟨a,b,_,h1,df ha,?_⟩;rw[kT hv,rF h2]
 split
 ·rename_i h;subst h;rw[rF h2,Zay];omega
 ·exact h3
theorem rD.add {m n:ao} {v:Nat} (h:rD m n) (hv:v<n.ends.length) {e:Int×Int} (he:Ij m e):rD m (tP n v e):=fun k es hk x hx=>by
 have h1:=rF hk;rw[kT hv]at h1
 have oV:k<n.ends.length:=by have:=ah hk;rwa [jv]at this
 split at h1
 ·rw[<- h1]at hx;rcases Zar.1 hx with h2 | h2
  ·exact h v _ (df hv) x h2
  ·rw[Zbm.1 h2];exact he
 ·rw[<- h1]at hx;exact h k _ (df oV) x hx
theorem yQ {n:ao} {v u:Nat} (h:Vg n) (hv:v<n.ends.length) (hu:u<n.ends.length):Vg (dR n v u):=by
 have hu1:u<(tP n v ((u:Int),if v=u then ((bZ n u).length:Int)+1 else ((bZ n u).length:Int))).ends.length:=by rw[jv];exact hu
 have hl:(dR n v u).ends.length=n.ends.length:=by unfold dR;rw[jv,jv]
 have aG:∀k,bZ (dR n v u) k=if k=u then (if u=v then bZ n v++[((u:Int),if v=u then ((bZ n u).length:Int)+1 else ((bZ n u).length:Int))] else bZ n u)++[((v:Int),((bZ n v).length:Int))] else if k=v then bZ n v++[((u:Int),if v=u then ((bZ n u).length:Int)+1 else ((bZ n u).length:Int))] else bZ n k:=fun k=>by
  unfold dR;rw[kT hu1,kT hv,kT hv]
 have h0:rD (dR n v u) n:=fun k es hk x hx=>((h k es hk x hx).add hv _).add hu1 _
 have e1:Ij (dR n v u) ((v:Int),((bZ n v).length:Int)):=by
  refine⟨v,(bZ n v).length,_,rfl,df zO,?_⟩;rw[aG]
  by_cases e:v=u
  ·subst e;simp
  ·rw[if_neg e,if_pos rfl];simp
 have e2:Ij (dR n v u) ((u:Int),if v=u then ((bZ n u).length:Int)+1 else ((bZ n u).length:Int)):=by
  by_cases e:v=u
  ·subst e;refine⟨v,(bZ n v).length+1,_,zS,df zO,?_⟩
   rw[aG];simp
  ·refine⟨u,(bZ n u).length,_,by rw[if_neg e],df zO,?_⟩
   rw[aG,if_pos rfl,if_neg (Ne.symm e)];simp
 exact(h0.add hv e2).add hu1 e1
theorem li {n:ao} {v u:Nat} (hv:v<n.ends.length) (hu:u<n.ends.length) (k:Nat):(bZ (dR n v u) k).length=(bZ n k).length+(if k=u then 1 else 0)+(if k=v then 1 else 0):=by
 have hu1:u<(tP n v ((u:Int),if v=u then ((bZ n u).length:Int)+1 else ((bZ n u).length:Int))).ends.length:=by rw[jv];exact hu
 unfold dR;rw[kT hu1,kT hv,kT hv]
 by_cases a:k=u
 ·subst a
  by_cases b:k=v
  ·subst b;simp
  ·simp[b]
 ·by_cases b:k=v
  ·subst b;simp[a]
  ·simp[a,b]
theorem ey (n:ao) (v u:Nat):(dR n v u).ends.length=n.ends.length:=by unfold dR;rw[jv,jv]
theorem Gd.join {R M:Nat} {n:ao} {v u:Nat} (h:Gd R M n) (hv:v<n.ends.length) (hu:u<n.ends.length):Gd (R+2) M (dR n v u):=by
 refine⟨by rw[ey];exact h.ends,fun k es hk=>?_,h.ids,by rw[ey];exact h.agT,yQ h.wf hv hu⟩
 have h1:=rF hk
 have oV:k<n.ends.length:=by have:=ah hk;rwa [ey]at this
 rw[<- h1,li hv hu]
 have:=h.row k _ (df oV)
 split <;> split <;> omega
theorem Gd.mono {R R' M M':Nat} {n:ao} (h:Gd R M n) (hR:R<=R') (hM:M<=M'):Gd R' M' n:=⟨zX h.ends,fun k es hk=>zX (h.row k es hk),zX h.ids,h.agT,h.wf⟩
theorem Gd.empty {M m:Nat} (hm:m<=M):Gd 0 M (dQ m):=⟨by simp[dQ];omega,fun k es hk=>by
 have:=Zaq hk
 simp[dQ]at this
 rw[this.2];simp,by simp[dQ],by simp[dQ],fun k es hk e he=>by
 have:=Zaq hk
 simp[dQ]at this
 rw[this.2]at he
 simp at he⟩
theorem WB {n:ao} {v:Nat} (h:Vg n) (hv:v<n.ends.length):Vg (mK n v):=by
 have h0:rD (mK n v) n:=fun k es hk x hx=>(h k es hk x hx).add hv _
 have hl:(mK n v).ends.length=n.ends.length:=jv _ _ _;refine h0.add hv ⟨v,(bZ n v).length,_,rfl,df zO,?_⟩;unfold mK;rw[kT hv,if_pos rfl];simp
theorem Sx {n:ao} {v:Nat} (hv:v<n.ends.length) (k:Nat):(bZ (mK n v) k).length=(bZ n k).length+(if k=v then 1 else 0):=by
 unfold mK;rw[kT hv]
 by_cases b:k=v
 ·subst b;simp
 ·simp[b]
theorem vz (n:ao) (v:Nat):(mK n v).ends.length=n.ends.length:=jv _ _ _
theorem CB.ag3 {cb B b:Nat} {w w':World} {x y z:Value} (h:CB cb B w w') (hx:bD w b x y z) (hb:b<B) (hn:b≠cb):bD w' b x y z:=(h.block b hb hn).trans hx
theorem eP {cb P:Nat} {A:Option Addr} {L c:Nat} {w w0 W:World} {ve vi vn:Value} {N:ao} {S:List Nat} (h0:ab w w0) (ho:aw W (w.heap.size+1) ve vi vn N S) (hc:dj W cb A L c P) (hf:CB cb (w.heap.size+1) w0 W) (jW:cb<w.heap.size):
  aw (agX W w.heap.size ve vi vn) w.heap.size ve vi vn N S/\dj (agX W w.heap.size ve vi vn) cb A L c P/\CB cb w.heap.size w (agX W w.heap.size ve vi vn):=by
 refine⟨(ho.agV (fun k hk=>dC _ _ _ _ _ (zX ((ho.range k hk).1)))).mono zO,hc.agU (fun k hk=>dC _ _ _ _ _ zO),?_⟩
 have h1:CB cb w.heap.size w W:=(CB.of h0.below).trans (hf.mono zO);exact((h1.setCell (p:=⟨w.heap.size,0,none⟩) (.inl (Zaj _)) _).setCell (p:=⟨w.heap.size,1,none⟩) (.inl (Zaj _)) _).setCell (p:=⟨w.heap.size,2,none⟩) (.inl (Zaj _)) _
def TN (R M:Nat) (N:ao):Prop:=Gd R M N/\0<N.ends.length
theorem Li (cb:Nat) (A:Option Addr) (L c P most M:Nat) (w:World) (hc:dj w cb A L c P) (hP:P<=4611686018425000000) (wI:1<=most) (pV:most<=M) (hM:M<=40):
  Calls Tryz.prog 123 #[.pointer (some ⟨cb,0,none⟩),.int .i64 most] w (Fk cb w.heap.size A L c (P+200000) w (TN 100 M)):=by
 have jW:=hc.lt;obtain⟨B,Bl⟩:=J_ (w.heap.size+1)
 obtain⟨w0,bj⟩:=J_ (w.alloc (.cells #[.slice none 0 0,.slice none 0 0,.slice none 0 0] 30))
 have aK:ab w w0:=by rw[bj];exact ad _ (aa _)
 have e_:w0.heap.size=B:=by rw[bj,Bl];simp
 have gh:bD w0 w.heap.size (.slice none 0 0) (.slice none 0 0) (.slice none 0 0):=by
  rw[bj];show(w.heap.push _)[w.heap.size]?=_
  rw[Zbc]
 obtain⟨fX,ic,cD,iA,iS,C6⟩:=E_ gh aK bj Bl e_ (hc.since aK);clear gh aK bj hc Bl e_
 go_enter Tryz.func123,Tryz.ntmps123
 go_upto_region 1 with(fail);rw[<- cD.out];go_wp2_with fail;refine(dF cb A L c P most w0 C6 zO zO).mono ?_;rintro e w1 ⟨x,rfl,hx,j_,mc⟩;obtain⟨m,hm⟩:=J_ (x+1:Nat)
 have m1:IntKind.i64.wrap (1+(x:Int))=(m:Int):=by rw[bU _ zO zO];omega
 have hmM:m<=M:=zO
 have vU:0<m:=zO
 obtain⟨jw,oz⟩:=A_ j_ mc;clear j_ mc hx;have Hm:=zh hm;clear hm;go_wp2_with fail;refine(nL m zO w1).mono ?_;rintro e w2 ⟨ve0,vi0,vn0,S0,rfl,ho,aS⟩;obtain⟨N0,vY⟩:=J_ (dQ m)
 rw[<- vY]at ho
 have pA:N0.ends.length=m:=by rw[vY];simp[dQ]
 have F8:Gd 0 M N0:=by rw[vY];exact Gd.empty hmM
 obtain⟨A1,c1,rfl,-,qQ,-⟩:=id ho.read.1;obtain⟨AI,cI,rfl,-,-,-⟩:=id ho.read.2.1;obtain⟨AN,cN,rfl,-,-,-⟩:=id ho.read.2.2;obtain⟨w3,ib⟩:=J_ (w2.alloc (.cells #[.slice A1 N0.ends.length c1,.slice AI N0.ids.length cI,.slice AN N0.agT.length cN] 30))
 obtain⟨pb,dV⟩:=J_ w2.heap.size
 have MH:ab w2 w3:=by rw[ib];exact ad _ (aa _)
 have fG:B<=w1.heap.size:=by rw[<- iS.out];exact oz.size
 have vX:Mb cb B pb A L c (P+2) w0 w3 (.slice A1 N0.ends.length c1) (.slice AI N0.ids.length cI) (.slice AN N0.agT.length cN) N0 S0:=
  ⟨(ho.agU MH.below).mono fG,by rw[ib,dV];exact bB.new _ _ _ _ _,fun hj=>zX ((ho.range _ hj).2),(jw.out.since aS).since MH,(oz.out.mono (zX iS.out)).trans ((CB.of (Zbw aS (MH.below.mono aS.size))).mono fG)⟩
 have Cy:=zh vX
 have dG:Hid (B<=pb/\pb<w3.heap.size):=⟨by rw[dV];exact Zak fG aS.size,by rw[ib,dV];simp⟩
 obtain⟨yI,wU,K0,iF⟩:=C_ ib dV F8 pA;have dK:=vX.box.cells.1
 have qw:cb<B:=zX iA.out
 clear vX ib dV F8 pA ho aS MH vY fG;go_upto_region 2 with(fail);rw[<- yI.out,<- wU.out];rw[iF.out]at dK;have aeA:=iF.out;go_wp2;clear dK aeA
 go_loopw [15] (fun i wr=>∃(k:Nat) (ve vi vn:Value) (N:ao) (S:List Nat),k<=m/\i=.int .i64 k/\Mb cb B pb A L c (P+2) w0 wr ve vi vn N S/\Gd (2*k) M N/\N.ends.length=m/\B<=wr.heap.size) (fun i _=>m-(intOf i).toNat)
 case atStart=>exact⟨0,_,_,_,N0,S0,Zac _,rfl,Cy.out,K0.out,iF.out,zX dG.out⟩
 case round=>
  obtain⟨k,ve,vi,vn,N,S2,hk,rfl,hm,gT,pA,fD⟩:=hrel;obtain⟨JU,l8,rfl,-,Wy,-⟩:=id hm.own.read.1;obtain⟨ts,tt,rfl,-,-,-⟩:=id hm.own.read.2.1;obtain⟨Bj,wQ,rfl,-,-,-⟩:=id hm.own.read.2.2;obtain⟨Hm,kw,iF,kR⟩:=C_ hm gT pA fD;clear hm gT pA fD
  by_cases aA:k<m
  ·have m4:=zw k;obtain⟨q,hq⟩:=J_ ((k+1)%m:Nat)
   have hqm:q<m:=by rw[hq];exact Nat.mod_lt _ vU
   have m5:((k:Int)+1).tmod (m:Int)=(q:Int):=by rw[hq,Int.tmod_eq_emod_of_nonneg zO];simp
   have m6:((k:Int)+1)%(m:Int)=(q:Int):=by rw[hq];simp
   have m7:IntKind.i64.wrap (q:Int)=(q:Int):=bU _ zO zO
   have m8:((m:Int)=0)=False:=by simp;omega
   have m9:(m=0)=False:=by simp;omega
   have jg:pb≠cb:=zX dG.out
   have lF:=zh (show wr.cell? ⟨pb,0,none⟩=some (.slice JU m l8)/\wr.cell? ⟨pb,1,none⟩=some (.slice ts N.ids.length tt)/\wr.cell? ⟨pb,2,none⟩=some (.slice Bj N.agT.length wQ)from by obtain⟨a,b,d,-⟩:=Hm.out.box.cells;rw[iF.out]at a;exact⟨a,b,d⟩)
   clear hq;go_upto_region 5 with(fail);refine az (fun W=>W.cell? ⟨pb,0,none⟩=some (.slice JU m l8)/\W.cell? ⟨pb,1,none⟩=some (.slice ts N.ids.length tt)/\W.cell? ⟨pb,2,none⟩=some (.slice Bj N.agT.length wQ)) 9 [false,false,false,false,false,false,false,false,true] zK zK (show(World.drew wr).cell? ⟨pb,0,none⟩=some (.slice JU m l8)/\(World.drew wr).cell? ⟨pb,1,none⟩=some (.slice ts N.ids.length tt)/\(World.drew wr).cell? ⟨pb,2,none⟩=some (.slice Bj N.agT.length wQ)from lF) ?_
   simp only[ew,dM,zT]
   iterate 8 (apply bC rfl;(intro W hW;(obtain⟨k0,k1,k2⟩:=hW);go_simp;with_reducible rfl);simp only[zA])
   obtain⟨W,dh⟩:=J_ (World.drew wr)
   rw[<- dh];have hW:=(show(World.drew wr).cell? ⟨pb,0,none⟩=some (.slice JU m l8)/\(World.drew wr).cell? ⟨pb,1,none⟩=some (.slice ts N.ids.length tt)/\(World.drew wr).cell? ⟨pb,2,none⟩=some (.slice Bj N.agT.length wQ)from lF);rw[<- dh]at hW;have fK:=zh dh;clear dh;refine Or.inl ⟨rfl,?_⟩
   go_simp
   (with_reducible refine(mM _ _ _ N k q W (by rw[fK.out];have h9:=(Hm.out.own.agU (aj (aa _)).below).read;rw[iF.out]at h9;exact h9) (by rw[iF.out];exact aA) (by rw[iF.out];exact hqm) ((kw.out.mono (R':=80) (M':=40) zO hM).small zO zO)).mono ?_)
   rintro e W' ⟨ve2,vi2,vn2,S3,rfl,dD,aS⟩;refine⟨_,rfl,And.intro (bc aS hW.1) (And.intro (bc aS hW.2.1) (bc aS hW.2.2)),?_⟩
   replace hW:=And.intro (bc aS hW.1) (And.intro (bc aS hW.2.1) (bc aS hW.2.2))
   have nq:ab wr W:=(by rw[fK.out];exact aj (aa _))
   have Cq:=nq.after aS;have Hlw:Hid (pb<W.heap.size):=Zal Hm.box.lt nq.below.size;clear nq
   (try simp only[zA])
   simp only[bP];obtain⟨D0,d0,rfl,-,-,-⟩:=id dD.read.1;obtain⟨D1,d1,rfl,-,-,-⟩:=id dD.read.2.1;obtain⟨D2,d2,rfl,-,-,-⟩:=id dD.read.2.2;have Io:=Hm.assign (CB.of Cq) (Hm.cur.since Cq) dD Hlw qw dG.1 kR;obtain⟨-,-,-,f0,f1,f2⟩:=(Hm.box.below Cq Hm.box.lt).cells;obtain⟨k0,k1,k2⟩:=hW;have sC:=zh Io
   have rE:B<=(agX W' pb (.slice D0 (dR N k q).ends.length d0) (.slice D1 (dR N k q).ids.length d1) (.slice D2 (dR N k q).agT.length d2)).heap.size:=by rw[ix];exact Zak kR Cq.below.size
   obtain⟨Bk,GZ,Sy⟩:=B_ rE (kw.out.join (v:=k) (u:=q) (by rw[iF.out];exact aA) (by rw[iF.out];exact hqm)) ((ey N k q).trans iF);clear Io dD aS Cq rE;go_wp2;go_roundw
   exact⟨k+1,_,_,_,dR N k q,S3,zO,zN,sC,GZ.mono zO (Zaj _),Sy,Bk⟩
   simp[intOf];omega
  ·obtain rfl:k=m:=zO
   obtain⟨wo,rfl⟩:=J_ wr
   have f8:=Hm.cur;have Jw:=zh f8;clear f8;go_wp2_with fail;refine(xV cb A L c (P+2) 2 wo Jw zO zO).mono ?_;rintro e w5 ⟨b,rfl,lh,sY⟩;have mN:=zh (Hm.out.seen sY lh qw dG.out.1 kR.out);have nu:Hid (B<=w5.heap.size):=Zak kR sY.size;have OV:Hid (Gd 80 M N):=kw.mono zO (Zaj _);clear lh sY;obtain⟨k0,k1,k2,-,-,-⟩:=mN.box.cells
   have gP:=mN.out.far.ag3 fX.out (zX iA.out) zO
   obtain⟨-,-,-,f0,f1,f2⟩:=gP.box.cells;obtain⟨e0,e1,e2,-,-,-⟩:=gP.box.cells;clear gP;cases b
   ·clear f0 f1 f2 e0 e1 e2;go_wp2_with fail
    refine(yO cb A L c (P+2+2) B 80 M _ _ _ N S2 w5 mN.out.cur zO mN.out.own qw nu.out OV.out zO zO (zX iF.out)).mono ?_
    rintro e w6 ⟨Jz,JA,JB,N6,S6,rfl,dJ,⟨Bm,ml⟩,ee,jC⟩;obtain⟨D0,d0,rfl,-,-,-⟩:=id dJ.read.1;obtain⟨D1,d1,rfl,-,-,-⟩:=id dJ.read.2.1;obtain⟨D2,d2,rfl,-,-,-⟩:=id dJ.read.2.2;have bH:=(mN.far.mono (Zaj B)).trans jC
    have gP:=bH.ag3 fX.out (zX iA.out) zO
    obtain⟨e0,e1,e2,f0,f1,f2⟩:=gP.box.cells;have aI:=dJ;rw[iA.out]at aI bH;obtain⟨dL,Lj,F9⟩:=B_ (eP ic.out aI ee bH jW) Bm ml;clear bH gP aI Bm ml ee jC dJ k0 k1 k2;go_wp2;refine bodyPost_ret (v:=.agg #[.slice D0 N6.ends.length d0,.slice D1 N6.ids.length d1,.slice D2 N6.agT.length d2]) (by simp[results,Tryz.results123,go_sem, *]) rfl ?_;obtain⟨r1,r2,r3⟩:=dL.out
    exact⟨_,_,_,N6,S6,rfl,r1,⟨F9.out.mono zO (Zaj _),zY iF.out Lj.out.len⟩,r2.mono zO,r3⟩
   ·go_wp2;refine bodyPost_ret (v:=.agg #[.slice JU N.ends.length l8,.slice ts N.ids.length tt,.slice Bj N.agT.length wQ]) (by simp[results,Tryz.results123,go_sem, *]) rfl ?_;have aI:=mN.own;rw[iA.out]at aI;have bH:=mN.far;rw[iA.out]at bH;obtain⟨r1,r2,r3⟩:=eP ic aI mN.cur bH jW
    exact⟨_,_,_,N,S2,rfl,r1,⟨OV.out.mono zO (Zaj _),zX iF.out⟩,r2.mono zO,r3⟩
theorem Sz (f:Nat->Nat) (x:Nat):FY f 0 x=x:=rfl
theorem Ip (Q:Nat->Prop):∀t,Q t->∃m,Q m/\m<=t/\∀k,k<m->¬Q k
 | t,h=>by
  rcases Classical.em (∃k,k<t/\Q k)with⟨k,hk,hq⟩ | hn
  ·obtain⟨m,h1,h2,h3⟩:=Ip Q k hq;exact⟨m,h1,zO,h3⟩
  ·exact⟨t,h,Zaj _,fun k hk hq=>hn ⟨k,hk,hq⟩⟩
termination_by t=>t
open Classical in
noncomputable def SA (Q:Nat->Prop):Nat:=if h:∃m,Q m/\∀k,k<m->¬Q k then Classical.choose h else 0
theorem vA {Q:Nat->Prop} {t:Nat} (h:Q t):Q (SA Q)/\SA Q<=t:=by
 obtain⟨m,h1,h2,h3⟩:=Ip Q t h;have he:∃m,Q m/\∀k,k<m->¬Q k:=⟨m,h1,h3⟩;unfold SA;rw[dif_pos he];obtain⟨h4,h5⟩:=Classical.choose_spec he;refine⟨h4,?_⟩;rcases Zbi t (Classical.choose he)with hl | hl
 ·exact absurd h (h5 t hl)
 ·exact hl
def vB (v t0 s t:Nat):Prop:=byteOf (FY (fun s=>nx s 0) t (nx s 0))%v=t0
open Classical in
noncomputable def x_ (L v t0 p s:Nat):Nat:=if p<L then (L-p)+281474976710656+1 else SA (vB v t0 s)
theorem SB {v t0 s:Nat} (h:vB v t0 s 0):byteOf (nx s 0)%v=t0:=by
 unfold vB at h;rw[Sz]at h;exact h
theorem fuel_lt {L v t0 p s:Nat} (h:p<L):x_ L v t0 p s=(L-p)+281474976710656+1:=if_pos h
theorem yR {L v t0 p s:Nat} (h:L<=p):x_ L v t0 p s=SA (vB v t0 s):=if_neg zO
theorem Ll {v t0:Nat} (s:Nat) (hv:v<=200) (ht:t0<v):∃t,t<281474976710656/\vB v t0 s t:=by
 obtain⟨t,h1,h2⟩:=R_ (nx s 0) t0 (MB _ _) zO
 exact⟨t,h1,by unfold vB;rw[h2,Nat.mod_eq_of_lt ht]⟩
theorem WC {L v t0:Nat} (p s:Nat) (hL:L<=1048576) (hv:v<=200) (ht:t0<v):x_ L v t0 p s<=281474977759233:=by
 rcases Zbi p L with hp | hp
 ·rw[fuel_lt hp];omega
 ·rw[yR hp];obtain⟨t,h1,h2⟩:=Ll s hv ht;have h3:=(vA h2).2
  generalize SA (vB v t0 s)=m at *
  omega
theorem D4 {L v t0 p s s' x:Nat} (hL:L<=1048576) (hv:v<=200) (ht:t0<v) (hx:x≠t0) (h:L<=p->s'=nx s 0/\x=byteOf s'%v):x_ L v t0 (p+1) s'<x_ L v t0 p s:=by
 have EB:SA (vB v t0 s')<281474976710656:=by
  obtain⟨t,h1,h2⟩:=Ll s' hv ht;have h3:=(vA h2).2
  generalize SA (vB v t0 s')=m at *
  omega
 rcases Zbi p L with hp | hp
 ·rw[fuel_lt hp];rcases Zbi (p+1) L with h2 | h2
  ·rw[fuel_lt h2];omega
  ·rw[yR h2]
   generalize SA (vB v t0 s')=m at *
   omega
 ·rw[yR hp,yR zO];obtain⟨hs,lK⟩:=h hp;rw[hs]at lK EB ⊢;clear hs;obtain⟨t,h1,h2⟩:=Ll s hv ht;obtain⟨h3,h4⟩:=vA h2
  generalize SA (vB v t0 s)=m at *
  cases m with
  | zero=>
   exfalso
   exact hx (lK.trans (SB h3))
  | succ m=>
   have h5:vB v t0 (nx s 0) m:=by
    unfold vB at h3 ⊢
    rw[Ba]at h3;exact h3
   have h6:=(vA h5).2
   generalize SA (vB v t0 (nx s 0))=q at *
   omega
def tu (N:ao):Nat->Nat
 | 0=>0
 | k+1=>tu N k+(bZ N k).length
theorem SC {N:ao}:∀v,tu N v<4*v->∃t,t<v/\(bZ N t).length<4
 | 0,h=>by simp at h
 | v+1,h=>by
  by_cases h1:(bZ N v).length<4
  ·exact⟨v,zO,h1⟩
  ·obtain⟨t,h2,h3⟩:=SC (N:=N) v (by simp only[tu]at h;omega)
   exact⟨t,zO,h3⟩
theorem Iq {N:ao} {u v:Nat} (hu:u<N.ends.length) (hv:v<N.ends.length):∀k,k<=v->tu (dR N u v) k=tu N k+(if u<k then 1 else 0)
 | 0,_=>by simp[tu]
 | k+1,hk=>by
  simp only[tu];rw[Iq hu hv k zO,li hu hv];have h1:k≠v:=zO
  rw[if_neg h1]
  by_cases h2:k=u
  ·subst h2;simp;omega
  ·rw[if_neg h2]
   by_cases h3:u<k
   ·rw[if_pos h3,if_pos zO];omega
   ·rw[if_neg h3,if_neg zO];omega
structure C7 (M v:Nat) (N:ao):Prop where
 gd:Gd 4 M N
 tot:tu N v+2=2*v
 zero:∀k,v<=k->(bZ N k).length=0
theorem C7.low {M v:Nat} {N:ao} (h:C7 M v N) (hv:1<=v):∃t,t<v/\(bZ N t).length<4:=SC v (zX h.tot)
theorem C7.step {M v u:Nat} {N:ao} (h:C7 M v N) (hu:u<v) (hv:v<N.ends.length) (hr:(bZ N u).length<4):C7 M (v+1) (dR N u v):=by
 have P8:u<N.ends.length:=zO
 refine⟨⟨by rw[ey];exact h.gd.ends,fun k es hk=>?_,h.gd.ids,by rw[ey];exact h.gd.agT,yQ h.gd.wf P8 hv⟩,?_,fun k hk=>?_⟩
 ·have h1:=rF hk
  have oV:k<N.ends.length:=by have:=ah hk;rwa [ey]at this
  rw[<- h1,li P8 hv];have h2:=h.gd.row k _ (df oV)
  by_cases a:k=v
  ·subst a
   have:=h.zero k (Zaj _)
   rw[if_pos rfl,if_neg zO];omega
  ·rw[if_neg a]
   by_cases b:k=u
   ·subst b;rw[if_pos rfl];omega
   ·rw[if_neg b];omega
 ·simp only[tu];rw[Iq P8 hv v (Zaj _),if_pos hu,li P8 hv,if_pos rfl,if_neg zO,h.zero v (Zaj _)]
  have:=h.tot
  omega
 ·rw[li P8 hv,if_neg zO,if_neg zO,h.zero k zO]
theorem C7.empty {M m:Nat} (hm:m<=M):C7 M 1 (dQ m):=by
 have hz:∀k,(bZ (dQ m) k).length=0:=fun k=>by
  unfold bZ dQ
  simp only[zDd,Zch]
  split <;> simp
 exact⟨(Gd.empty hm).mono zO (Zaj _),by simp[tu,hz],fun k _=>hz k⟩
def pOf (cb:Nat) (W:World):Nat:=(intOf ((W.cell? ⟨cb,1,none⟩).getD undef)).toNat
def sOf (cb:Nat) (W:World):Nat:=(intOf ((W.cell? ⟨cb,2,none⟩).getD undef)).toNat
theorem FZ.pOf {W:World} {cb:Nat} {A:Option Addr} {L c p s:Nat} (h:FZ W cb A L c p s):pOf cb W=p/\sOf cb W=s:=by
 obtain⟨-,h1,h2⟩:=h.cellsOf
 unfold Go.Proofs.YtnioemnkfojmkaaGreat.pOf sOf
 rw[h1,h2];simp[intOf]
open Classical in
noncomputable def SD (L v t0 cb:Nat) (x:Value) (W:World):Nat:=if intOf x=(t0:Int) then 0 else 1+x_ L v t0 (pOf cb W) (sOf cb W)
theorem SE {L v t0 cb:Nat} {x:Value} {W:World} (h:intOf x=(t0:Int)):SD L v t0 cb x W=0:=if_pos h
theorem Ir {L v t0 cb:Nat} {x:Value} {W:World} (h:¬intOf x=(t0:Int)):SD L v t0 cb x W=1+x_ L v t0 (pOf cb W) (sOf cb W):=if_neg h
theorem wV (cb:Nat) (A:Option Addr) (L c P most M:Nat) (w:World) (hc:dj w cb A L c P) (hP:P<=4400000000000000000) (wI:1<=most) (pV:most<=M) (hM:M<=40):
  Calls Tryz.prog 102 #[.pointer (some ⟨cb,0,none⟩),.int .i64 most] w (Fk cb w.heap.size A L c (P+72057594037927936) w (TN 100 M)):=by
 have jW:=hc.lt;obtain⟨B,Bl⟩:=J_ (w.heap.size+1)
 obtain⟨w0,bj⟩:=J_ (w.alloc (.cells #[.slice none 0 0,.slice none 0 0,.slice none 0 0] 30))
 have aK:ab w w0:=by rw[bj];exact ad _ (aa _)
 have e_:w0.heap.size=B:=by rw[bj,Bl];simp
 have gh:bD w0 w.heap.size (.slice none 0 0) (.slice none 0 0) (.slice none 0 0):=by
  rw[bj];show(w.heap.push _)[w.heap.size]?=_
  rw[Zbc]
 obtain⟨fX,ic,cD,iA,iS,C6⟩:=E_ gh aK bj Bl e_ (hc.since aK);clear gh aK bj hc Bl e_
 go_enter Tryz.func102,Tryz.ntmps102
 go_upto_region 1 with(fail);rw[<- cD.out];go_wp2_with fail;refine(dF cb A L c P most w0 C6 zO zO).mono ?_;rintro e w1 ⟨x,rfl,hx,j_,mc⟩;obtain⟨m,hm⟩:=J_ (x+1:Nat)
 have m1:IntKind.i64.wrap (1+(x:Int))=(m:Int):=by rw[bU _ zO zO];omega
 have hmM:m<=M:=zO
 have vU:0<m:=zO
 obtain⟨jw,oz⟩:=A_ j_ mc;clear j_ mc hx;clear hm;go_wp2_with fail;refine(nL m zO w1).mono ?_;rintro e w2 ⟨ve0,vi0,vn0,S0,rfl,ho,aS⟩;obtain⟨N0,vY⟩:=J_ (dQ m)
 rw[<- vY]at ho
 have pA:N0.ends.length=m:=by rw[vY];simp[dQ]
 have F8:C7 M 1 N0:=by rw[vY];exact C7.empty hmM
 obtain⟨A1,c1,rfl,-,qQ,-⟩:=id ho.read.1;obtain⟨AI,cI,rfl,-,-,-⟩:=id ho.read.2.1;obtain⟨AN,cN,rfl,-,-,-⟩:=id ho.read.2.2;obtain⟨w3,ib⟩:=J_ (w2.alloc (.cells #[.slice A1 N0.ends.length c1,.slice AI N0.ids.length cI,.slice AN N0.agT.length cN] 30))
 obtain⟨pb,dV⟩:=J_ w2.heap.size
 have MH:ab w2 w3:=by rw[ib];exact ad _ (aa _)
 have fG:B<=w1.heap.size:=by rw[<- iS.out];exact oz.size
 have vX:Mb cb B pb A L c (P+2) w0 w3 (.slice A1 N0.ends.length c1) (.slice AI N0.ids.length cI) (.slice AN N0.agT.length cN) N0 S0:=
  ⟨(ho.agU MH.below).mono fG,by rw[ib,dV];exact bB.new _ _ _ _ _,fun hj=>zX ((ho.range _ hj).2),(jw.out.since aS).since MH,(oz.out.mono (zX iS.out)).trans ((CB.of (Zbw aS (MH.below.mono aS.size))).mono fG)⟩
 have Cy:=zh vX
 have dG:Hid (B<=pb/\pb<w3.heap.size):=⟨by rw[dV];exact Zak fG aS.size,by rw[ib,dV];simp⟩
 obtain⟨yI,wU,K0,iF⟩:=C_ ib dV F8 pA;have dK:=vX.box.cells.1
 have qw:cb<B:=zX iA.out
 clear vX ib dV F8 pA ho aS MH vY fG;go_upto_region 3 with(fail);rw[<- yI.out,<- wU.out];clear dK
 go_loopw [6] (fun i wr=>∃(v:Nat) (ve vi vn:Value) (N:ao) (S:List Nat),1<=v/\v<=m/\i=.int .i64 v/\Mb cb B pb A L c (P+2+v*1125899906842624) w0 wr ve vi vn N S/\C7 M v N/\N.ends.length=m/\B<=wr.heap.size) (fun i _=>m-(intOf i).toNat)
 case atStart=>exact⟨1,_,_,_,N0,S0,Zaj _,vU,rfl,⟨Cy.out.own,Cy.out.box,Cy.out.nb,Cy.out.cur.mono zO,Cy.out.far⟩,K0.out,iF.out,zX dG.out⟩
 case round=>
  obtain⟨v,ve,vi,vn,N,S2,hv1,hk,rfl,hm,gT,pA,fD⟩:=hrel;obtain⟨JU,l8,rfl,-,Wy,-⟩:=id hm.own.read.1;obtain⟨ts,tt,rfl,-,-,-⟩:=id hm.own.read.2.1;obtain⟨Bj,wQ,rfl,-,-,-⟩:=id hm.own.read.2.2;obtain⟨g,rfl,-⟩:=hm.own.head zO;obtain⟨Hm,kw,iF,kR⟩:=C_ hm gT pA fD
  have jg:pb≠cb:=zX dG.out
  have nG:wr.cell? ⟨pb,0,none⟩=some (.slice (some ⟨g,0,none⟩) m l8):=by have:=Hm.box.cells.1;rwa [iF.out]at this
  clear hm gT pA fD;obtain⟨wo,rfl⟩:=J_ wr
  by_cases aA:v<m
  ·have m4:=zw v;obtain⟨t0,ht0,tv⟩:=kw.low hv1;have SF:=zh tv;clear tv;obtain⟨Q,hQ⟩:=J_ (P+2+v*1125899906842624)
   have HQ:Hid (Q=P+2+v*1125899906842624):=hQ
   have Jy:Hid (Q<=4500000000000000000):=by show _<=_;omega
   rw[<- hQ]at Hm;clear hQ;obtain⟨p0,s0,xL,hp0⟩:=Hm.cur;obtain⟨Yo,U5⟩:=A_ xL hp0;have hLs:=xL.len;clear xL hp0;go_wp2_with fail
   refine(Bb cb A L c p0 s0 v wo Yo.out (zY Jy.out U5.out) zO).mono ?_
   rintro e w5 ⟨u0,p1,s1,rfl,Lc,Me,vP,dk,-,mc⟩;have yj:=ay nG jg w5 mc
   have lG:=zh (Hm.out.seen (P':=Q+2) mc ⟨p1,s1,dk,zX U5.out⟩ qw dG.out.1 kR.out)
   have wW:Hid (B<=w5.heap.size):=Zak kR mc.size;have U0:=zh dk
   have Hp1:Hid (p1<=Q+2):=by show _<=_;have:=U5.out;omega
   clear mc dk nG Me vP;go_upto_region 6 with(fail);clear yj
   go_loopw [7] (fun x wr=>∃(u p s:Nat),x=.int .i64 u/\u<v/\FZ wr cb A L c p s/\p<=Q+281474977759236/\(u≠t0->p+x_ L v t0 p s<=Q+281474977759235)/\Mb cb B pb A L c (Q+281474977759236) w0 wr (.slice (some ⟨g,0,none⟩) N.ends.length l8) (.slice ts N.ids.length tt) (.slice Bj N.agT.length wQ) N S2/\B<=wr.heap.size) (fun x wr=>SD L v t0 cb x wr)
   case atStart=>
    refine⟨u0,p1,s1,rfl,zO,U0.out,zX Hp1.out,fun _=>?_,⟨lG.out.own,lG.out.box,lG.out.nb,lG.out.cur.mono zO,lG.out.far⟩,wW.out⟩
    have h1:=WC (L:=L) (v:=v) (t0:=t0) p1 s1 hLs zO ht0;have h2:=Hp1.out;omega
   case round=>
    obtain⟨u,p,s,rfl,huv,hcq,hpq,Yv,Yw,xS⟩:=hrel;have Hpq:=zh hpq;clear hpq;obtain⟨Hcq,Hfu,SG,oy⟩:=C_ hcq Yv Yw xS;clear hcq Yv xS;obtain⟨xu,lK⟩:=J_ (bZ N u)
    have Yq:=df (n:=N) (v:=u) (zX iF.out)
    rw[<- lK]at Yq;obtain⟨uu,T,f8,-,hR,-,-,zr⟩:=Yw.own.ag0 Yq;obtain⟨AU,cU,rfl,-,-,-⟩:=id hR.read
    have yj:wr.cell? ⟨pb,0,none⟩=some (.slice (some ⟨g,0,none⟩) m l8):=by have:=Yw.box.cells.1;rwa [iF.out]at this
    have Co:=zh lK;have hum:u<m:=zO
    clear Yw hR lK Yq zr
    by_cases h4:4<=xu.length
    ·have hut:u≠t0:=fun e=>by have h5:=SF.out;rw[<- e,<- Co.out]at h5;omega
     have Mn:2<=v:=zO
     have e4:((4:Int)<=(xu.length:Int))=True:=by simp;omega
     go_wp2_with fail
     refine(Bb cb A L c p s v wr Hcq.out (zY Jy.out Hpq.out) zO).mono ?_
     rintro e w6 ⟨x,p',s',rfl,hx,ags,agt,XN,WD,jC⟩;obtain⟨rfl,hl7⟩:=WD Mn zO;obtain⟨Hl7,R3,HC6⟩:=B_ hl7 XN jC;clear WD hl7 XN jC yj f8;go_wp2;go_roundw
     case rel=>
      have h3:=Hfu hut;have h4:p+1<=Q+281474977759236:=zO
      refine⟨x,p+1,s',rfl,zO,R3,h4,fun hxt=>?_,SG.seen HC6 ⟨p+1,s',R3,h4⟩ qw dG.1 oy,Zak oy HC6.size⟩
      have h2:=D4 (L:=L) (v:=v) (t0:=t0) (p:=p) (s:=s) (s':=s') (x:=x) hLs zO ht0 hxt Hl7;omega
     case measure=>
      obtain⟨q1,q2⟩:=Hcq.pOf;obtain⟨q3,q4⟩:=R3.pOf;rw[Ir (x:=.int .i64 (u:Int)) (show ¬((u:Int)=(t0:Int))by omega),q1,q2]
      by_cases hxt:x=t0
      ·rw[SE (x:=.int .i64 (x:Int)) (show(x:Int)=(t0:Int)by omega)];omega
      ·rw[Ir (x:=.int .i64 (x:Int)) (show ¬((x:Int)=(t0:Int))by omega),q3,q4]
       have h2:=D4 (L:=L) (v:=v) (t0:=t0) (p:=p) (s:=s) (s':=s') (x:=x) hLs zO ht0 hxt Hl7;omega
    ·have e4:((4:Int)<=(xu.length:Int))=False:=by simp;omega
     have aeB:Hid ((bZ N u).length<4):=by show _<_;rw[<- Co.out];omega
     go_upto_region 8 with(fail);clear yj f8;obtain⟨k0,k1,k2,f0,f1,f2⟩:=SG.box.cells;obtain⟨wq,rfl⟩:=J_ wr
     clear f0 f1 f2;go_wp2_with fail
     refine(mM _ _ _ N u v wq SG.own.read (by rw[iF.out];exact hum) (by rw[iF.out];exact aA) ((kw.gd.mono (R':=80) (M':=40) zO hM).small zO zO)).mono ?_
     rintro e w8 ⟨ve2,vi2,vn2,S3,rfl,dD,aS⟩;have kK:ab wq w8:=aS;obtain⟨D0,d0,rfl,-,-,-⟩:=id dD.read.1;obtain⟨D1,d1,rfl,-,-,-⟩:=id dD.read.2.1;obtain⟨D2,d2,rfl,-,-,-⟩:=id dD.read.2.2;have Io:=SG.assign (CB.of kK) (SG.cur.since kK) dD SG.box.lt qw dG.1 oy;obtain⟨k0,k1,k2,f0,f1,f2⟩:=(SG.box.below kK SG.box.lt).cells;have sC:=zh Io
     have rE:B<=(agX w8 pb (.slice D0 (dR N u v).ends.length d0) (.slice D1 (dR N u v).ids.length d1) (.slice D2 (dR N u v).agT.length d2)).heap.size:=by rw[ix];exact Zak oy kK.below.size
     obtain⟨Bk,GZ,Sy⟩:=B_ rE (kw.out.step huv (by rw[iF.out];exact aA) aeB) ((ey N u v).trans iF);clear Io dD aS kK rE;go_wp2;go_roundw
     exact⟨v+1,_,_,_,dR N u v,S3,zO,zO,zN,⟨sC.out.own,sC.out.box,sC.out.nb,sC.out.cur.mono (zX HQ.out),sC.out.far⟩,GZ.out,Sy.out,Bk.out⟩
     simp[intOf];omega
  ·obtain rfl:v=m:=zO
   clear nG;obtain⟨k0,k1,k2,-,-,-⟩:=Hm.box.cells;have hNN:(N.ends.length:Int)=(v:Int):=by rw[iF.out]
   have OV:Hid (Gd 80 M N):=kw.gd.mono zO (Zaj _);have mN:=Hm;have nu:=kR;obtain⟨w5,rfl⟩:=J_ wo
   go_upto_region 9 with(fail);clear hNN;go_wp2_with fail
   refine(yO cb A L c _ B 80 M _ _ _ N S2 w5 mN.out.cur zO mN.out.own qw nu.out OV.out zO zO (zX iF.out)).mono ?_
   rintro e w6 ⟨Jz,JA,JB,N6,S6,rfl,dJ,⟨Bm,ml⟩,ee,jC⟩;obtain⟨D0,d0,rfl,-,-,-⟩:=id dJ.read.1;obtain⟨D1,d1,rfl,-,-,-⟩:=id dJ.read.2.1;obtain⟨D2,d2,rfl,-,-,-⟩:=id dJ.read.2.2;have bH:=(mN.far.mono (Zaj B)).trans jC
   have gP:=bH.ag3 fX.out (zX iA.out) zO
   obtain⟨e0,e1,e2,f0,f1,f2⟩:=gP.box.cells;have aI:=dJ;rw[iA.out]at aI bH;obtain⟨dL,Lj,F9⟩:=B_ (eP ic.out aI ee bH jW) Bm ml;clear bH gP aI Bm ml ee jC dJ k0 k1 k2;go_wp2;refine bodyPost_ret (v:=.agg #[.slice D0 N6.ends.length d0,.slice D1 N6.ids.length d1,.slice D2 N6.agT.length d2]) (by simp[results,Tryz.results102,go_sem, *]) rfl ?_;obtain⟨r1,r2,r3⟩:=dL.out
   exact⟨_,_,_,N6,S6,rfl,r1,⟨F9.out.mono zO (Zaj _),zY iF.out Lj.out.len⟩,r2.mono zO,r3⟩
theorem Gd.ahj {R M:Nat} {n:ao} {v u:Nat} (h:Gd R M n) (hv:v<n.ends.length) (hu:u<n.ends.length) (hvu:v≠u) (h1:(bZ n v).length<5) (h2:(bZ n u).length<5) (hR:5<=R):Gd R M (dR n v u):=by
 refine⟨by rw[ey];exact h.ends,fun k es hk=>?_,h.ids,by rw[ey];exact h.agT,yQ h.wf hv hu⟩
 have h3:=rF hk
 have oV:k<n.ends.length:=by have:=ah hk;rwa [ey]at this
 rw[<- h3,li hv hu];have h4:=h.row k _ (df oV)
 by_cases a:k=u
 ·subst a
  rw[if_pos rfl,if_neg (Ne.symm hvu)];omega
 ·rw[if_neg a]
  by_cases b:k=v
  ·subst b;rw[if_pos rfl];omega
  ·rw[if_neg b];omega
theorem rG (cb:Nat) (A:Option Addr) (L c P most M:Nat) (w:World) (hc:dj w cb A L c P) (hP:P<=4300000000000000000) (wI:1<=most) (pV:most<=M) (hM:M<=40):
  Calls Tryz.prog 122 #[.pointer (some ⟨cb,0,none⟩),.int .i64 most] w (Fk cb w.heap.size A L c (P+80000000000000000) w (TN 100 M)):=by
 have jW:=hc.lt;obtain⟨B,Bl⟩:=J_ (w.heap.size+1)
 obtain⟨w0,bj⟩:=J_ (w.alloc (.cells #[.slice none 0 0,.slice none 0 0,.slice none 0 0] 30))
 have aK:ab w w0:=by rw[bj];exact ad _ (aa _)
 have e_:w0.heap.size=B:=by rw[bj,Bl];simp
 have gh:bD w0 w.heap.size (.slice none 0 0) (.slice none 0 0) (.slice none 0 0):=by
  rw[bj];show(w.heap.push _)[w.heap.size]?=_
  rw[Zbc]
 obtain⟨fX,ic,cD,iA,iS,C6⟩:=E_ gh aK bj Bl e_ (hc.since aK);clear gh aK bj hc Bl e_
 go_enter Tryz.func122,Tryz.ntmps122
 go_upto_region 1 with(fail);rw[<- cD.out];go_wp2_with fail;refine(wV cb A L c P most M w0 C6 zO wI pV hM).mono ?_;rintro e w1 ⟨ve0,vi0,vn0,N0,S0,rfl,ho,⟨F8,vY⟩,j_,mc⟩;rw[iS.out]at ho mc;obtain⟨m,pA⟩:=K_ N0.ends.length
 have hmM:m<=M:=by rw[<- pA];exact F8.ends
 have vU:0<m:=zO
 obtain⟨A1,c1,rfl,-,qQ,-⟩:=id ho.read.1;obtain⟨AI,cI,rfl,-,-,-⟩:=id ho.read.2.1;obtain⟨AN,cN,rfl,-,-,-⟩:=id ho.read.2.2;obtain⟨w3,ib⟩:=J_ (w1.alloc (.cells #[.slice A1 N0.ends.length c1,.slice AI N0.ids.length cI,.slice AN N0.agT.length cN] 30))
 obtain⟨pb,dV⟩:=J_ w1.heap.size
 have MH:ab w1 w3:=by rw[ib];exact ad _ (aa _)
 have fG:B<=w1.heap.size:=by rw[<- iS.out];exact mc.size
 have vX:Mb cb B pb A L c (P+72057594037927936) w0 w3 (.slice A1 N0.ends.length c1) (.slice AI N0.ids.length cI) (.slice AN N0.agT.length cN) N0 S0:=
  ⟨ho.agU MH.below,by rw[ib,dV];exact bB.new _ _ _ _ _,fun hj=>zX ((ho.range _ hj).2),j_.since MH,mc.trans ((CB.of MH).mono fG)⟩
 have Cy:=zh vX
 have dG:Hid (B<=pb/\pb<w3.heap.size):=⟨by rw[dV];exact fG,by rw[ib,dV];simp⟩
 obtain⟨yI,wU,K0,aam⟩:=C_ ib dV F8 pA;have dK:=vX.box.cells.1
 have qw:cb<B:=zX iA.out
 have jg:pb≠cb:=zX dG.out
 rw[pA]at dK;have m0:IntKind.i64.wrap (1+(m:Int))=1+(m:Int):=bU _ zO zO;clear vX ib dV F8 pA ho MH vY fG j_ mc;go_upto_region 2 with(fail);rw[<- yI.out,<- wU.out];go_wp2_with fail;refine(dF cb A L c _ (1+(m:Int)) w3 Cy.cur zO zO).mono ?_;rintro e w4 ⟨x4,rfl,hx4,mO,oa⟩;have hx5:x4<=m:=zO
 have Qd:=zh (Cy.out.seen oa mO qw dG.out.1 (zX dG.out))
 have SH:Hid (B<=w4.heap.size):=by show _<=_;have:=dG.out;have:=oa.size;omega
 clear mO oa dK hx4;go_upto_region 3 with(fail);obtain⟨Q,hQ⟩:=J_ (P+72057594037927936+2)
 have HQ:Hid (Q=P+72057594037927936+2):=hQ;rw[<- hQ]at Qd;clear hQ
 go_loopw [6] (fun i wr=>∃(k:Nat) (ve vi vn:Value) (N:ao) (S:List Nat),k<=m/\i=.int .i64 k/\Mb cb B pb A L c (Q+4*(m-k)) w0 wr ve vi vn N S/\Gd 100 M N/\N.ends.length=m/\B<=wr.heap.size) (fun i _=>(intOf i).toNat)
 case atStart=>exact⟨x4,_,_,_,N0,S0,hx5,rfl,⟨Qd.own,Qd.box,Qd.nb,Qd.cur.mono zO,Qd.far⟩,K0,aam,SH⟩
 case round=>
  obtain⟨k,ve,vi,vn,N,S2,hk,rfl,hm,gT,pA,fD⟩:=hrel;obtain⟨JU,l8,rfl,-,Wy,-⟩:=id hm.own.read.1;obtain⟨ts,tt,rfl,-,-,-⟩:=id hm.own.read.2.1;obtain⟨Bj,wQ,rfl,-,-,-⟩:=id hm.own.read.2.2;obtain⟨g,rfl,-⟩:=hm.own.head zO;obtain⟨Hm,kw,iF,kR⟩:=C_ hm gT pA fD;clear hm gT pA fD
  by_cases aA:0<k
  ·have e0:((0:Int)<(k:Int))=True:=by simp;omega
   have m4:IntKind.i64.wrap ((k:Int)-1)=(k:Int)-1:=bU _ zO zO
   have lF:=zh (show wr.cell? ⟨pb,0,none⟩=some (.slice (some ⟨g,0,none⟩) m l8)from by obtain⟨a,-⟩:=Hm.out.box.cells;rw[iF.out]at a;exact a)
   obtain⟨wo,rfl⟩:=J_ wr
   go_upto_region 5 with(fail);refine az (fun W=>W.cell? ⟨pb,0,none⟩=some (.slice (some ⟨g,0,none⟩) m l8)) 10 [false,false,false,false,true,false,false,false,false,true] zK zK (show(World.drew wo).cell? ⟨pb,0,none⟩=some (.slice (some ⟨g,0,none⟩) m l8)from lF) ?_
   simp only[ew,dM,zT]
   iterate 8 (apply bC rfl;(intro W hW;(have k0:=hW);go_simp;with_reducible rfl);simp only[zA])
   obtain⟨W,dh⟩:=J_ (World.drew wo)
   rw[<- dh];have hW:=(show(World.drew wo).cell? ⟨pb,0,none⟩=some (.slice (some ⟨g,0,none⟩) m l8)from lF);rw[<- dh]at hW;have fK:=zh dh;clear dh;refine Or.inl ⟨rfl,?_⟩
   go_simp
   (with_reducible refine(dF cb A L c (Q+4*(m-k)) (m:Int) W (by rw[fK.out];exact Hm.out.cur.since (aj (aa _))) (zX HQ.out) zO).mono ?_)
   rintro e W' ⟨a,rfl,ha,f8,hC⟩;refine⟨_,rfl,ay hW jg _ hC,?_⟩
   replace hW:=ay hW jg _ hC
   have nq:ab wo W:=(by rw[fK.out];exact aj (aa _))
   obtain⟨xU,kn,Ha⟩:=B_ (((bO.refl cb wo).after nq).trans hC) f8 ha;clear hC f8 nq ha;obtain⟨wp,rfl⟩:=J_ W'
   (try simp only[zA])
   refine Or.inl ⟨rfl,?_⟩
   go_simp
   (with_reducible refine(dF cb A L c (Q+4*(m-k)+2) (m:Int) _ kn.out (zX HQ.out) zO).mono ?_)
   rintro e W' ⟨b,rfl,hb,f8,hC⟩;refine⟨_,rfl,ay hW jg _ hC,?_⟩
   replace hW:=ay hW jg _ hC
   have lG:=zh (Hm.out.seen (xU.out.trans hC) f8 qw dG.out.1 kR.out);have wW:Hid (B<=W'.heap.size):=Zak kR (xU.trans hC).size;clear hC f8
   (try simp only[zA])
   simp only[bP]
   have WE:a<m:=zX Ha.out
   have ZE:b<m:=zO
   clear hb;obtain⟨w5,rfl⟩:=J_ W'
   have Nu:=zh hW;clear hW;obtain⟨xa,Lm⟩:=J_ (bZ N a)
   obtain⟨xb,Ln⟩:=J_ (bZ N b)
   have Mc:=df (n:=N) (v:=a) (zX iF.out)
   have CS:=df (n:=N) (v:=b) (zX iF.out)
   rw[<- Lm]at Mc;rw[<- Ln]at CS;have CZ:xa.length<=100:=kw.row _ _ Mc;have eK:xb.length<=100:=kw.row _ _ CS;obtain⟨ua,Ta,Vh,-,SI,-,-,-⟩:=lG.own.ag0 Mc;obtain⟨AUa,cUa,rfl,-,-,-⟩:=id SI.read;obtain⟨ub,Tb,SJ,-,X3,-,-,-⟩:=lG.own.ag0 CS;obtain⟨AUb,cUb,rfl,-,-,-⟩:=id X3.read;obtain⟨WF,aan,Hxa⟩:=B_ Lm Ln Mc;have pa:=ae Vh;have pq:=ae SJ;have p0:=ae Nu;have p1:=ae lG.box.cells.2.1;have p2:=ae lG.box.cells.2.2.1
   have N3:Hid (aR w5 (.slice (some ⟨g,0,none⟩) m l8) (.slice ts N.ids.length tt) (.slice Bj N.agT.length wQ) N):=by show aR _ _ _ _ _;have h9:=lG.own.read;rw[iF.out]at h9;exact h9
   clear Lm Ln Mc CS SI X3 Vh SJ
   by_cases oe:a=b
   ·have e1:((a:Int)=(b:Int))=True:=by simp;omega
    have q0:=p0 w5 (aa _);clear p0 p1 p2 pa pq;go_wp2;go_roundw
    exact⟨k-1,_,_,_,N,S2,zO,by rw[show((k-1:Nat):Int)=(k:Int)-1 by omega],(⟨lG.out.own,lG.out.box,lG.out.nb,lG.out.cur.mono zO,lG.out.far⟩),kw.out,iF.out,wW.out⟩
    simp[intOf];omega
   ·have e1:((a:Int)=(b:Int))=False:=by simp;omega
    have q0:=p0 w5 (aa _);have q1:=p1 w5 (aa _);have q2:=p2 w5 (aa _);go_wp2_with fail;refine(zz _ _ _ N a xa w5 N3 Hxa zO).mono ?_;rintro e w6 ⟨u6,rfl,dJ,tw⟩;have yq:ab w5 w6:=tw;have sD:=zh (lG.out.since yq qw dG.out.1 wW.out);have C8:Hid (B<=w6.heap.size):=Zak wW yq.below.size;obtain⟨A6,c6,rfl,-,-,-⟩:=id dJ.ints;have MJ:=zh dJ;clear dJ q0 q1 q2;go_wp2_with fail
    refine(sc _ (xa.map (·.1)) (b:Int) w6 (by have h9:=MJ.ints;rw[List.length_map]at h9;exact h9)).mono ?_
    rintro e w7 ⟨rfl,sE⟩;subst sE;have q0:=p0 w6 yq;have q1:=p1 w6 yq;have q2:=p2 w6 yq;have qa:=pa w6 yq;have qb:=pq w6 yq;clear p0 p1 p2 pa pq yq tw;cases hh:nj (xa.map (·.1)) (b:Int)
    ·by_cases h5:xa.length<5
     ·have e5:((xa.length:Int)<5)=True:=by simp;omega
      by_cases h6:xb.length<5
      ·have e6:((xb.length:Int)<5)=True:=by simp;omega
       go_wp2_with fail
       refine(mM _ _ _ N a b w6 (by have h9:=sD.own.read;rw[iF.out]at h9;exact h9) (by rw[iF.out];exact WE) (by rw[iF.out];exact ZE) ((kw.mono (R':=100) (M':=40) zO hM).small zO zO)).mono ?_
       rintro e w8 ⟨ve2,vi2,vn2,S3,rfl,dD,aS⟩;have kK:ab w6 w8:=aS;obtain⟨D0,d0,rfl,-,-,-⟩:=id dD.read.1;obtain⟨D1,d1,rfl,-,-,-⟩:=id dD.read.2.1;obtain⟨D2,d2,rfl,-,-,-⟩:=id dD.read.2.2;have Io:=sD.assign (CB.of kK) (sD.cur.since kK) dD sD.box.lt qw dG.1 C8;clear q0 q1 q2 qa qb;obtain⟨k0,k1,k2,f0,f1,f2⟩:=(sD.box.below kK sD.box.lt).cells;have sC:=zh Io
       have rE:B<=(agX w8 pb (.slice D0 (dR N a b).ends.length d0) (.slice D1 (dR N a b).ids.length d1) (.slice D2 (dR N a b).agT.length d2)).heap.size:=by rw[ix];exact Zak C8 kK.below.size
       obtain⟨Bk,GZ,Sy⟩:=B_ rE (kw.out.ahj (v:=a) (u:=b) (by rw[iF.out];exact WE) (by rw[iF.out];exact ZE) oe (by rw[<- WF.out];omega) (by rw[<- aan.out];omega) zO) ((ey N a b).trans iF.out);clear Io dD aS kK rE;go_wp2;go_roundw
       exact⟨k-1,_,_,_,dR N a b,S3,zO,by rw[show((k-1:Nat):Int)=(k:Int)-1 by omega],⟨sC.out.own,sC.out.box,sC.out.nb,sC.out.cur.mono zO,sC.out.far⟩,GZ.out,Sy.out,Bk.out⟩
       simp[intOf];omega
      ·have e6:((xb.length:Int)<5)=False:=by simp;omega
       go_wp2;go_roundw
       exact⟨k-1,_,_,_,N,S2,zO,by rw[show((k-1:Nat):Int)=(k:Int)-1 by omega],(⟨sD.out.own,sD.out.box,sD.out.nb,sD.out.cur.mono zO,sD.out.far⟩),kw.out,iF.out,C8.out⟩
       simp[intOf];omega
     ·have e5:((xa.length:Int)<5)=False:=by simp;omega
      go_wp2;go_roundw
      exact⟨k-1,_,_,_,N,S2,zO,by rw[show((k-1:Nat):Int)=(k:Int)-1 by omega],(⟨sD.out.own,sD.out.box,sD.out.nb,sD.out.cur.mono zO,sD.out.far⟩),kw.out,iF.out,C8.out⟩
      simp[intOf];omega
    ·go_wp2;go_roundw
     exact⟨k-1,_,_,_,N,S2,zO,by rw[show((k-1:Nat):Int)=(k:Int)-1 by omega],(⟨sD.out.own,sD.out.box,sD.out.nb,sD.out.cur.mono zO,sD.out.far⟩),kw.out,iF.out,C8.out⟩
     simp[intOf];omega
  ·obtain rfl:k=0:=zO
   obtain⟨k0,k1,k2,-,-,-⟩:=Hm.box.cells;have OV:=kw;have mN:=Hm;have nu:=kR;obtain⟨w5,rfl⟩:=J_ wr
   go_upto_region 8 with(fail);go_wp2_with fail
   refine(yO cb A L c _ B 100 M _ _ _ N S2 w5 mN.out.cur (zX HQ.out) mN.out.own qw nu.out OV.out zO zO (zX iF.out)).mono ?_
   rintro e w6 ⟨Jz,JA,JB,N6,S6,rfl,dJ,⟨Bm,ml⟩,ee,jC⟩;obtain⟨D0,d0,rfl,-,-,-⟩:=id dJ.read.1;obtain⟨D1,d1,rfl,-,-,-⟩:=id dJ.read.2.1;obtain⟨D2,d2,rfl,-,-,-⟩:=id dJ.read.2.2;have bH:=(mN.far.mono (Zaj B)).trans jC
   have gP:=bH.ag3 fX.out (zX iA.out) zO
   obtain⟨e0,e1,e2,f0,f1,f2⟩:=gP.box.cells;have aI:=dJ;rw[iA.out]at aI bH;obtain⟨dL,Lj,F9⟩:=B_ (eP ic.out aI ee bH jW) Bm ml;clear bH gP aI Bm ml ee jC dJ k0 k1 k2;go_wp2;refine bodyPost_ret (v:=.agg #[.slice D0 N6.ends.length d0,.slice D1 N6.ids.length d1,.slice D2 N6.agT.length d2]) (by simp[results,Tryz.results122,go_sem, *]) rfl ?_;obtain⟨r1,r2,r3⟩:=dL.out
   exact⟨_,_,_,N6,S6,rfl,r1,⟨F9.out.mono zO (Zaj _),zY iF.out Lj.out.len⟩,r2.mono (zX HQ.out),r3⟩
theorem aw.ahd {w w':World} {base:Nat} {ve vi vn vi':Value} {N:ao} {S T:List Nat} {ids':List Int} (h:aw w base ve vi vn N S) (ho:mx w' base vi' ids' T) (eB:aV vi.ownBlock.toList w w') (hT:∀j∈T,j∈vi.ownBlock.toList\/w.heap.size<=j):
  ∃S',aw w' base ve vi' vn { N with ids:=ids' } S'/\∀j∈S',j∈S\/w.heap.size<=j:=by
 have JX:=h.range;obtain⟨S1,S2,S3,h1,h2,h3,h4,h5⟩:=h;have e2:S2=vi.ownBlock.toList:=h2.2;rw[<- e2]at eB hT;have uH:=h5;rw[h4,Zat,Zat]at h5;obtain⟨n1,⟨n2,n3,d23⟩,d1⟩:=h5
 have m1:∀j∈S1,j∈S:=fun j hj=>by rw[h4];exact Zax _ hj
 have m2:∀j∈S2,j∈S:=fun j hj=>by rw[h4];exact Zao _ (Zax _ hj)
 have m3:∀j∈S3,j∈S:=fun j hj=>by rw[h4];exact Zao _ (Zao _ hj)
 have x1:∀j∈S1,j∉S2:=fun j hj hk=>d1 j hj j (Zax _ hk) rfl
 have x3:∀j∈S3,j∉S2:=fun j hj hk=>d23 j hk j hj rfl
 have t1:∀j∈S1,j∉T:=fun j hj hk=>by
  rcases hT j hk with h | h
  ·exact x1 j hj h
  ·have:=(JX j (m1 j hj)).2;omega
 have t3:∀j∈S3,j∉T:=fun j hj hk=>by
  rcases hT j hk with h | h
  ·exact x3 j hj h
  ·have:=(JX j (m3 j hj)).2;omega
 refine⟨S1++(T++S3),⟨S1,T,S3,nA.only h1 eB x1,ho,fT.only h3 eB x3,rfl,?_⟩,?_⟩
 ·rw[Zat,Zat];refine⟨n1,⟨fT.nodup ho,n3,fun a ha b hb e=>t3 b hb (e ▸ ha)⟩,fun a ha b hb e=>?_⟩
  rcases Zar.1 hb with hb | hb
  ·exact t1 a ha (e ▸ hb)
  ·exact d1 a ha b (Zao _ hb) e
 ·intro j hj;rcases Zar.1 hj with hj | hj
  ·exact .inl (m1 j hj)
  ·rcases Zar.1 hj with hj | hj
   ·rcases hT j hj with h | h
    ·exact .inl (m2 j h)
    ·exact .inr h
   ·exact .inl (m3 j hj)
theorem aw.ahi {w w':World} {base:Nat} {ve vi vn WG:Value} {N:ao} {S T:List Nat} {Yx:List Int} (h:aw w base ve vi vn N S) (ho:mx w' base WG Yx T) (eB:aV vn.ownBlock.toList w w') (hT:∀j∈T,j∈vn.ownBlock.toList\/w.heap.size<=j):
  ∃S',aw w' base ve vi WG { N with agT:=Yx } S'/\∀j∈S',j∈S\/w.heap.size<=j:=by
 have JX:=h.range;obtain⟨S1,S2,S3,h1,h2,h3,h4,h5⟩:=h;have e3:S3=vn.ownBlock.toList:=h3.2;rw[<- e3]at eB hT;rw[h4,Zat,Zat]at h5;obtain⟨n1,⟨n2,n3,d23⟩,d1⟩:=h5
 have m1:∀j∈S1,j∈S:=fun j hj=>by rw[h4];exact Zax _ hj
 have m2:∀j∈S2,j∈S:=fun j hj=>by rw[h4];exact Zao _ (Zax _ hj)
 have m3:∀j∈S3,j∈S:=fun j hj=>by rw[h4];exact Zao _ (Zao _ hj)
 have x1:∀j∈S1,j∉S3:=fun j hj hk=>d1 j hj j (Zao _ hk) rfl
 have x2:∀j∈S2,j∉S3:=fun j hj hk=>d23 j hj j hk rfl
 have t1:∀j∈S1,j∉T:=fun j hj hk=>by
  rcases hT j hk with h | h
  ·exact x1 j hj h
  ·have:=(JX j (m1 j hj)).2;omega
 have t2:∀j∈S2,j∉T:=fun j hj hk=>by
  rcases hT j hk with h | h
  ·exact x2 j hj h
  ·have:=(JX j (m2 j hj)).2;omega
 refine⟨S1++(S2++T),⟨S1,S2,T,nA.only h1 eB x1,fT.only h2 eB x2,ho,rfl,?_⟩,?_⟩
 ·rw[Zat,Zat];refine⟨n1,⟨n2,fT.nodup ho,fun a ha b hb e=>t2 a ha (e ▸ hb)⟩,fun a ha b hb e=>?_⟩
  rcases Zar.1 hb with hb | hb
  ·exact d1 a ha b (Zax _ hb) e
  ·exact t1 a ha (e ▸ hb)
 ·intro j hj;rcases Zar.1 hj with hj | hj
  ·exact .inl (m1 j hj)
  ·rcases Zar.1 hj with hj | hj
   ·exact .inl (m2 j hj)
   ·rcases hT j hj with h | h
    ·exact .inl (m3 j h)
    ·exact .inr h
def iB (k:Nat) (e:Int×Int):Int×Int:=(e.1+(k:Int),e.2)
def iN (a b:ao):ao:=⟨a.ends++b.ends.map (List.map (iB a.ends.length)),a.ids++b.ids,a.agT++b.agT⟩
theorem Gd.union {R M M':Nat} {a b:ao} (ha:Gd R M a) (hb:Gd R M' b):Gd R (M+M') (iN a b):=by
 have hl:(iN a b).ends.length=a.ends.length+b.ends.length:=by simp[iN]
 have aG:∀(k:Nat) (es:List (Int×Int)),(iN a b).ends[k]?=some es->(k<a.ends.length/\a.ends[k]?=some es)\/(∃fs,b.ends[k-a.ends.length]?=some fs/\es=fs.map (iB a.ends.length)/\a.ends.length<=k):=fun k es h=>by
  unfold iN at h;rcases Zbi k a.ends.length with hk | hk
  ·left;exact⟨hk,by simpa[Zcb hk]using h⟩
  ·right
   simp only[Zca hk,Zbr]at h
   cases hf:b.ends[k-a.ends.length]? with
   | none=>rw[hf]at h;simp at h
   | some fs=>rw[hf]at h;simp at h;exact⟨fs,rfl,h.symm,hk⟩
 refine⟨zY ha.ends hb.ends,fun k es h=>?_,by simp only[iN,Zay];have:=ha.ids;have:=hb.ids;omega,by rw[hl];simp only[iN,Zay];rw[ha.agT,hb.agT],fun k es h e he=>?_⟩
 ·rcases aG k es h with⟨-,h1⟩ | ⟨fs,h1,rfl,-⟩
  ·exact ha.row k es h1
  ·rw[List.length_map];exact hb.row _ fs h1
 ·rcases aG k es h with⟨-,h1⟩ | ⟨fs,h1,rfl,-⟩
  ·obtain⟨x,y,gs,q1,q2,q3⟩:=ha.wf k es h1 e he;refine⟨x,y,gs,q1,?_,q3⟩;unfold iN;simp only[];rw[Zcb (ah q2)];exact q2
  ·obtain⟨e0,h2,rfl⟩:=List.mem_map.1 he;obtain⟨x,y,gs,rfl,q2,q3⟩:=hb.wf _ fs h1 e0 h2
   refine⟨x+a.ends.length,y,gs.map (iB a.ends.length),by simp[iB],?_,by rw[List.length_map];exact q3⟩
   unfold iN;simp only[];rw[Zca zO,Nat.add_sub_cancel,Zbr,q2];rfl
end Go.Proofs.YtnioemnkfojmkaaGreat
