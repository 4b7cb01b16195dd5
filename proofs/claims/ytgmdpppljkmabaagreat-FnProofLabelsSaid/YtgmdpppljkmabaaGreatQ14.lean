/- Parts of the proof: walks of functions and plain laws. -/
import Derived.Test.YtgmdpppljkmabaaGreatQ0
import Derived.Test.YtgmdpppljkmabaaGreatQ13
set_option maxRecDepth 100000
set_option maxHeartbeats 16000000
namespace Go.Proofs.YtgmdpppljkmabaaGreat
open Go Go.RowKit
def vB (cb B:Nat) (A:Option Addr) (L c P:Nat) (w:World) (T:ak->Prop) (e:Ending) (w':World):Prop:=
 ∃ve vi vn N S,e=.returned (.agg #[ve,vi,vn])/\az w' B ve vi vn N S/\T N/\dm w' cb A L c P/\CB cb B w w'
theorem az.aeG {w:World} {base k c:Nat} {A:Option Addr} {ve vi:Value} {N:ak} {S:List Nat} (h:az w base ve vi (.slice A k c) N S) (h0:0<N.aea.length):∃g,A=some ⟨g,0,none⟩:=by
 obtain⟨S1,S2,S3,_,_,h3,_⟩:=h;rcases h3.1.cases with⟨-,h2⟩ | ⟨g,c',hv,_⟩
 ·rw[h2]at h0;simp at h0
 ·cases hv;exact⟨g,rfl⟩
theorem az.aez {w:World} {base g k c j:Nat} {ve vi:Value} {N:ak} {S:List Nat} (h:az w base ve vi (.slice (some ⟨g,0,none⟩) k c) N S) (hj:j<N.aea.length):∃z,w.cell? ⟨g,j,none⟩=some z:=by
 obtain⟨S1,S2,S3,_,_,h3,_⟩:=h;obtain⟨x,hx⟩:=aM N.aea j hj;exact⟨_,h3.1.cell hx⟩
theorem vW (cb:Nat) (A:Option Addr) (L c P B R M:Nat) (ve vi vn:Value) (n:ak) (S:List Nat) (w:World) (hc:dm w cb A L c P) (hP:P<=4611686018426000000) (h:az w B ve vi vn n S) (ja:cb<B) (hBw:B<=w.heap.size) (hg:Gd R M n) (hR:R<=100) (hM:M<=100) (hn0:0<n.ends.length):
  Calls Tryz.prog 156 #[.pointer (some ⟨cb,0,none⟩),.agg #[ve,vi,vn]] w (vB cb B A L c (P+100000) w (fun N=>L8 n N/\Gd R M N)):=by
 obtain⟨A1,c1,rfl,-,rM,-⟩:=id h.read.1;obtain⟨AI,cI,rfl,-,-,-⟩:=id h.read.2.1;obtain⟨AN,cN,rfl,-,-,-⟩:=id h.read.2.2;obtain⟨pb,gG⟩:∃z,z=w.heap.size:=⟨_,rfl⟩
 obtain⟨w0,cG⟩:∃z,z=w.alloc (.cells #[.slice A1 n.ends.length c1,.slice AI n.ids.length cI,.slice AN n.aea.length cN] 27):=⟨_,rfl⟩
 obtain⟨wa,lj⟩:∃z,z=w0.alloc (.cells #[.slice none 0 0,.slice none 0 0,.slice none 0 0] 27):=⟨_,rfl⟩
 have bB:aa w w0:=by rw[cG];exact ag _ (ad _)
 have cY:aa w0 wa:=by rw[lj];exact ag _ (ad _)
 have nk:w0.heap.size=w.heap.size+1:=by rw[cG];simp
 have nu:bD w0 pb (.slice A1 n.ends.length c1) (.slice AI n.ids.length cI) (.slice AN n.aea.length cN):=by rw[cG,gG];exact bD.new _ _ _ _ _
 have gY:bx wa (w.heap.size+1) (.slice none 0 0) (.slice none 0 0) (.slice none 0 0):=by
  rw[lj,<- nk];show(w0.heap.push _)[w0.heap.size]?=_
  rw[Array.getElem?_push_size]
 have lK:aa w wa:=bB.after cY
 have hmb:Mb cb B pb A L c P w wa (.slice A1 n.ends.length c1) (.slice AI n.ids.length cI) (.slice AN n.aea.length cN) n S:=
  ⟨h.keep lK.below,nu.below cY (by rw[nk,gG];omega),fun hj=>by have:=(h.range _ hj).2;omega,hc.since lK,CB.mono (CB.of lK) hBw⟩
 have ft:Hid (B<=pb/\pb+2=wa.heap.size/\pb=w.heap.size):=⟨by omega,by rw[gG,lj];simp;omega,gG⟩
 have HSp:Hid (∀j∈S,j<pb):=fun j hj=>by have:=(h.range j hj).2;omega
 have iF:=zh gY;have sJ:=zh hmb;have Hg:=zh hg;have bK:=zh cG;have FK:=zh lj;have fe:=hmb.box.cells
 have KY:n.ends.length<=100:=by have:=hg.ends;omega
 clear hc h bB cY nu gY lK hmb hg cG lj gG nk
 go_enter Tryz.func156,Tryz.ntmps156
 go_upto_region 1 with(fail);rw[<- bK.out,<- FK.out,<- ft.out.2.2];obtain⟨x0,x1,x2,-,-,-⟩:=fe;clear hBw;go_wp2
 go_loopw [10] (fun i wr=>∃(k:Nat) (ve vi vn:Value) (N:ak) (S:List Nat),k<=n.ends.length/\i=.int .i64 k/\Mb cb B pb A L c (P+202*k) w wr ve vi vn N S/\L8 n N/\Gd R M N/\bx wr (pb+1) (.slice none 0 0) (.slice none 0 0) (.slice none 0 0)/\pb+1∉S/\wa.heap.size<=wr.heap.size) (fun i _=>n.ends.length-(intOf i).toNat)
 case atStart=>exact⟨0,_,_,_,n,S,Nat.zero_le _,rfl,by simpa using sJ.out,L8.refl _,Hg.out,by rw[ft.out.2.2];exact iF.out,fun hj=>by have:=HSp.out _ hj;omega,Nat.le_refl _⟩
 case round=>
  obtain⟨k,ve,vi,vn,N,S2,hk,rfl,hm,Xb,iY,gY,hrn,eP⟩:=hrel;clear x0 x1 x2;obtain⟨Mz,kB,rfl,-,zb,-⟩:=id hm.own.read.1;obtain⟨rQ,rR,rfl,-,-,-⟩:=id hm.own.read.2.1;obtain⟨Aw,vX,rfl,-,-,-⟩:=id hm.own.read.2.2;have n_:=Xb.len;obtain⟨g,rfl,-⟩:=hm.own.head (by omega);have Hm:=zh hm;have Ol:=zh Xb;have iL:=zh iY;have Rn:=zh gY;have Hrn:=zh hrn;have jF:=zh eP;have io:=zh n_
  have WX:Hid (B<=wr.heap.size):=by show _<=_;have:=ft.out;omega
  have To:=hm.cur;clear hm Xb iY gY hrn eP n_
  by_cases hlt:k<n.ends.length
  ·have m4:IntKind.i64.wrap ((k:Int)+1)=(k:Int)+1:=aF _ (by omega) (by omega);have CP:=zh To;clear To;go_wp2_with fail;refine(mT cb A L c (P+202*k) 2 wr CP.out (by omega) (by omega)).mono ?_;rintro e w2 ⟨b,rfl,mv,qp⟩;have kC:=zh (Hm.out.seen qp mv ja ft.out.1 WX.out)
   have KZ:Hid (bx w2 (pb+1) (.slice none 0 0) (.slice none 0 0) (.slice none 0 0)):=(qp.block _ Rn.out.lt (by have:=ft.out;omega)).trans Rn.out
   have rj:Hid (wa.heap.size<=w2.heap.size):=Nat.le_trans jF.out qp.size;have sK:=zh mv;clear mv qp;cases b
   ·go_wp2;go_roundw
    case rel=>exact⟨k+1,_,_,_,N,S2,by omega,by first | rfl | go_num,⟨kC.out.own,kC.out.box,kC.out.nb,sK.out.mono (by omega),kC.out.far⟩,Ol.out,iL.out,KZ.out,Hrn.out,rj.out⟩
    case measure=>simp[intOf];omega
   ·obtain⟨xv,rx⟩:∃z,z=dp N k:=⟨_,rfl⟩
    have qR:=dh (n:=N) (v:=k) (by have:=io.out;omega)
    rw[<- rx]at qR;have KW:=zh rx
    have zi:Hid (xv.length<=100):=by show _<=_;have:=iL.out.row _ _ qR;omega
    obtain⟨u,T,hu,-,hR,-,-,LJ⟩:=kC.out.own.aef qR;obtain⟨AU,cU,rfl,-,-,-⟩:=id hR.read
    have Ro:g≠cb:=fun e=>by have:=(kC.out.own.range g LJ).1;omega
    have iN:pb≠cb:=by have:=ft.out;omega
    have Hxv:=zh qR;obtain⟨b0,b1,b2,-,-,-⟩:=kC.out.box.cells;have lp:=zh (And.intro b0 (And.intro b1 (And.intro b2 hu)))
    have HkN:Hid (k<N.ends.length):=by show _<_;have:=io.out;omega
    clear rx qR hR LJ b0 b1 b2 hu;go_upto_region 5 with(fail);have hkN:=HkN.out;refine aL (fun W=>W.cell? ⟨pb,0,none⟩=some (.slice (some ⟨g,0,none⟩) N.ends.length kB)/\W.cell? ⟨pb,1,none⟩=some (.slice rQ N.ids.length rR)/\W.cell? ⟨pb,2,none⟩=some (.slice Aw N.aea.length vX)/\W.cell? ⟨g,k,none⟩=some (.slice AU xv.length cU)) 11 [false,false,false,false,false,false,false,false,false,true,true] (by kernel_rfl) (by kernel_rfl) (show(World.drew w2).cell? ⟨pb,0,none⟩=some (.slice (some ⟨g,0,none⟩) N.ends.length kB)/\(World.drew w2).cell? ⟨pb,1,none⟩=some (.slice rQ N.ids.length rR)/\(World.drew w2).cell? ⟨pb,2,none⟩=some (.slice Aw N.aea.length vX)/\(World.drew w2).cell? ⟨g,k,none⟩=some (.slice AU xv.length cU)from lp.out) ?_
    simp only[eE,ea,zT]
    iterate 9 (apply bV rfl;(intro W hW;(obtain⟨k0,k1,k2,k3⟩:=hW);go_simp;with_reducible rfl);simp only[zA])
    obtain⟨W,dE⟩:∃W,W=World.drew w2:=⟨_,rfl⟩
    rw[<- dE];have hW:=(show(World.drew w2).cell? ⟨pb,0,none⟩=some (.slice (some ⟨g,0,none⟩) N.ends.length kB)/\(World.drew w2).cell? ⟨pb,1,none⟩=some (.slice rQ N.ids.length rR)/\(World.drew w2).cell? ⟨pb,2,none⟩=some (.slice Aw N.aea.length vX)/\(World.drew w2).cell? ⟨g,k,none⟩=some (.slice AU xv.length cU)from lp.out);rw[<- dE]at hW;have gA:=zh dE;clear dE;refine Or.inl ⟨rfl,?_⟩
    go_simp
    (with_reducible refine(GF cb A L c (P+202*k+2) xv.length W (by rw[gA.out];exact sK.out.since (aj (ad _))) (by omega) zi.out).mono ?_)
    rintro e W' ⟨gp,xs,rfl,qv,gG,fh,hC⟩;refine⟨_,rfl,And.intro (aA hW.1 iN _ hC) (And.intro (aA hW.2.1 iN _ hC) (And.intro (aA hW.2.2.1 iN _ hC) (aA hW.2.2.2 Ro _ hC))),?_⟩
    replace hW:=And.intro (aA hW.1 iN _ hC) (And.intro (aA hW.2.1 iN _ hC) (And.intro (aA hW.2.2.1 iN _ hC) (aA hW.2.2.2 Ro _ hC)))
    have qg:aa w2 W:=(by rw[gA.out];exact aj (ad _))
    have qp:eF cb w2 W':=((eF.refl cb w2).after qg).trans hC;have Qf:=zh qv;have ZG:=zh gG;have GS:=zh fh;have xG:=zh qp;clear qv gG fh hC qp qg;obtain⟨wp,rfl⟩:∃z,z=W':=⟨_,rfl⟩
    (try simp only[zA])
    refine Or.inl ⟨rfl,?_⟩
    go_simp
    (with_reducible refine(D9 _ _ _ _ N k xs _ (kC.out.own.seen xG.out ja).read HkN.out (iL.out.small hR hM) iL.out.wf Qf.out.ints (by rw[<- KW.out];exact Qf.out.len) (by rw[<- KW.out];exact ZG.out)).mono ?_)
    rintro e W' ⟨N2,d_,gR,ZH,ZI,ZJ,S3,rfl,dl,bj⟩;refine⟨_,rfl,And.intro (bc bj hW.1) (And.intro (bc bj hW.2.1) (And.intro (bc bj hW.2.2.1) (bc bj hW.2.2.2))),?_⟩
    replace hW:=And.intro (bc bj hW.1) (And.intro (bc bj hW.2.1) (And.intro (bc bj hW.2.2.1) (bc bj hW.2.2.2)))
    skip
    (try simp only[zA])
    simp only[bz];obtain⟨D0,d0,rfl,-,-,-⟩:=id dl.read.1;obtain⟨D1,d1,rfl,-,-,-⟩:=id dl.read.2.1;obtain⟨D2,d2,rfl,-,-,-⟩:=id dl.read.2.2;have pY:eF cb w2 W':=xG.out.after bj;have qH:pb<wp.heap.size:=Nat.lt_of_lt_of_le kC.out.box.lt xG.out.size
    have D_:=kC.out.assign pY (GS.out.since bj) dl qH ja ft.out.1 (by have h1:=rj.out;have h2:=ft.out;omega)
    have td:bD W' pb (.slice (some ⟨g,0,none⟩) N.ends.length kB) (.slice rQ N.ids.length rR) (.slice Aw N.aea.length vX):=kC.out.box.blk (pY.block pb kC.out.box.lt iN)
    have ZK:bx (aed W' pb (.slice D0 N2.ends.length d0) (.slice D1 N2.ids.length d1) (.slice D2 N2.aea.length d2)) (pb+1) (.slice none 0 0) (.slice none 0 0) (.slice none 0 0):=(dZ W' pb _ _ _ (by omega)).trans ((pY.block _ KZ.out.lt (by have:=ft.out;omega)).trans KZ.out)
    have ZL:pb+1∉S3:=fun hj=>by have h1:=(dl.range _ hj).1;have h2:=xG.out.size;have h3:=rj.out;have h4:=ft.out;omega
    have pA:wa.heap.size<=(aed W' pb (.slice D0 N2.ends.length d0) (.slice D1 N2.ids.length d1) (.slice D2 N2.aea.length d2)).heap.size:=by rw[gQ];exact Nat.le_trans rj.out pY.size
    obtain⟨-,-,-,f0,f1,f2⟩:=td.cells;obtain⟨k0,k1,k2,k3⟩:=hW;have rA:=zh D_;have acf:=zh ZK;have acg:=zh ZL;have xO:=zh pA;have b_:=zh (Ol.out.trans d_.shp);have Bq:=zh (iL.out.sh d_.shp gR);clear D_ td ZK ZL pA pY dl bj d_ gR hkN qH;go_wp2;go_roundw
    case rel=>exact⟨k+1,_,_,_,N2,S3,by omega,by first | rfl | go_num,⟨rA.out.own,rA.out.box,rA.out.nb,rA.out.cur.mono (by omega),rA.out.far⟩,b_.out,Bq.out,acf.out,acg.out,xO.out⟩
    case measure=>simp[intOf];omega
  ·obtain rfl:k=n.ends.length:=by omega
   have CP:=zh To;clear To;obtain⟨wo,rfl⟩:∃z,z=wr:=⟨_,rfl⟩
   go_wp2_with fail;refine(mT cb A L c (P+202*n.ends.length) 3 wo CP.out (by omega) (by omega)).mono ?_;rintro e w2 ⟨b,rfl,mv,qp⟩;have kC:=zh (Hm.out.seen qp mv ja ft.out.1 WX.out)
   have KZ:Hid (bx w2 (pb+1) (.slice none 0 0) (.slice none 0 0) (.slice none 0 0)):=(qp.block _ Rn.out.lt (by have:=ft.out;omega)).trans Rn.out
   have rj:Hid (wa.heap.size<=w2.heap.size):=Nat.le_trans jF.out qp.size;clear mv qp;cases b
   ·have K0:=kC;have Hrz:=KZ;have Ou:=Ol;have M2:=iL;obtain⟨NZ,Xe⟩:∃z,z=N:=⟨_,rfl⟩
    rw[<- Xe]at Ou M2
    have ZM:Hid (Mb cb B pb A L c (P+202*n.ends.length+2) w w2 (.slice (some ⟨g,0,none⟩) N.ends.length kB) (.slice rQ N.ids.length rR) (.slice Aw N.aea.length vX) NZ S2):=by rw[Xe];exact K0
    clear K0 Xe;have K0:=ZM;clear ZM;have td:=K0.out.box.cells;obtain⟨k0,k1,k2,-,-,-⟩:=td;have hrr:=Hrz.out.box.cells;obtain⟨e0,e1,e2,f0,f1,f2⟩:=hrr;go_wp2;refine bodyPost_ret (v:=.agg #[.slice (some ⟨g,0,none⟩) N.ends.length kB,.slice rQ N.ids.length rR,.slice Aw N.aea.length vX]) (by simp[results,Tryz.results156,go_sem, *]) rfl ?_;refine⟨_,_,_,NZ,S2,rfl,K0.out.own.aeb (fun q hq=>?_),⟨Ou.out,M2.out⟩,K0.out.cur.mono (by omega) |>.keep (fun q hq=>?_),?_⟩
    ·have oC:q≠pb+1:=fun e=>Hrn.out (e ▸ hq)
     rw[Below.heap_setCell _ _ _ q (by exact oC),Below.heap_setCell _ _ _ q (by exact oC),Below.heap_setCell _ _ _ q (by exact oC)]
    ·have oC:q≠pb+1:=by have:=ft.out;omega
     rw[Below.heap_setCell _ _ _ q (by exact oC),Below.heap_setCell _ _ _ q (by exact oC),Below.heap_setCell _ _ _ q (by exact oC)]
    ·have iE:B<=pb+1:=by have:=ft.out;omega
     exact((K0.out.far.setCell (p:=⟨pb+1,0,none⟩) (.inl iE) _).setCell (p:=⟨pb+1,1,none⟩) (.inl iE) _).setCell (p:=⟨pb+1,2,none⟩) (.inl iE) _
   ·have iN:pb≠cb:=by have:=ft.out;omega
    have td:=kC.out.box.cells;have k2:=td.2.2.1
    have si:Hid (N.aea.length<=100):=by show _<=_;have:=iL.out.aea;have:=iL.out.ends;omega
    clear td;go_upto_region 9 with(fail);clear k2;obtain⟨Q,hQ⟩:∃z,z=P+202*n.ends.length+2:=⟨_,rfl⟩
    have HQ1:=zh hQ;rw[<- hQ]at kC;clear hQ
    go_loopw [32] (fun i wr=>∃(j:Nat) (ys:List Int),j<=N.aea.length/\i=.int .i64 j/\ys.length=N.aea.length/\Mb cb B pb A L c (Q+2*j) w wr (.slice (some ⟨g,0,none⟩) N.ends.length kB) (.slice rQ N.ids.length rR) (.slice Aw N.aea.length vX) { N with aea:=ys } S2/\bx wr (pb+1) (.slice none 0 0) (.slice none 0 0) (.slice none 0 0)/\wa.heap.size<=wr.heap.size) (fun i _=>N.aea.length-(intOf i).toNat)
    case atStart=>exact⟨0,N.aea,Nat.zero_le _,rfl,rfl,kC.out,KZ.out,rj.out⟩
    case round=>
     obtain⟨j,ys,hj,rfl,IN,hm,gY,eP⟩:=hrel;have Vg:=zh hm;have Vh:=zh gY;have ZN:=zh eP;have FI:=zh IN;clear hm gY eP IN
     have HBj:Hid (B<=wr.heap.size):=by show _<=_;have h1:=ZN.out;have h2:=ft.out;omega
     by_cases yF:j<N.aea.length
     ·obtain⟨gi,rfl⟩:=Vg.out.own.aeG (by show 0<ys.length;have:=FI.out;omega)
      have k2:=Vg.out.box.cells.2.2.1;have HK2:=zh k2
      have m5:IntKind.i64.wrap ((j:Int)+1)=(j:Int)+1:=aF _ (by omega) (by have:=si.out;omega)
      clear k2;go_upto_region 11 with(fail);refine aL (fun W=>W.cell? ⟨pb,2,none⟩=some (.slice (some ⟨gi,0,none⟩) N.aea.length vX)) 5 [false,false,false,false,true] (by kernel_rfl) (by kernel_rfl) (show(World.drew wr).cell? ⟨pb,2,none⟩=some (.slice (some ⟨gi,0,none⟩) N.aea.length vX)from HK2.out) ?_
      simp only[eE,ea,zT]
      iterate 4 (apply bV rfl;(intro W hW;(have k2:=hW);go_simp;with_reducible rfl);simp only[zA])
      obtain⟨W,dE⟩:∃W,W=World.drew wr:=⟨_,rfl⟩
      rw[<- dE];have hW:=(show(World.drew wr).cell? ⟨pb,2,none⟩=some (.slice (some ⟨gi,0,none⟩) N.aea.length vX)from HK2.out);rw[<- dE]at hW;have gA:=zh dE;clear dE;refine Or.inl ⟨rfl,?_⟩
      go_simp
      (with_reducible refine(dJ cb A L c (Q+2*j) 3 W (by rw[gA.out];exact Vg.out.cur.since (aj (ad _))) (by have:=HQ1.out;have:=si.out;omega) (by omega)).mono ?_)
      rintro e W' ⟨x,rfl,hx,fh,hC⟩;refine⟨_,rfl,aA hW iN _ hC,?_⟩
      replace hW:=aA hW iN _ hC
      have qg:aa wr W:=(by rw[gA.out];exact aj (ad _))
      have ly:eF cb wr W':=((eF.refl cb wr).after qg).trans hC;have Tp:=zh (Vg.out.seen ly fh ja ft.out.1 HBj.out)
      have Hrw:Hid (bx W' (pb+1) (.slice none 0 0) (.slice none 0 0) (.slice none 0 0)):=(ly.block _ Vh.out.lt (by have:=ft.out;omega)).trans Vh.out
      have Ap:Hid (wa.heap.size<=W'.heap.size):=Nat.le_trans ZN.out ly.size;clear hC fh ly qg
      (try simp only[zA])
      simp only[bz]
      obtain⟨q1,q2,q3⟩:=Tp.out.own.aen (k:=j) (x:Int) (by show j<ys.length;have:=FI.out;omega)
      obtain⟨z0,q4⟩:=Tp.out.own.aez (j:=j) (by show j<ys.length;have:=FI.out;omega)
      have Tq:gi≠pb:=fun e=>Tp.out.nb (e ▸ q1)
      have zF:gi≠pb+1:=fun e=>Hrn.out (e ▸ q1)
      have hgB:=(Tp.out.own.range gi q1).1
      have hmf:Mb cb B pb A L c (Q+2*(j+1)) w (W'.setCell ⟨gi,j,none⟩ (.int .i64 (x:Int))) (.slice (some ⟨g,0,none⟩) N.ends.length kB) (.slice rQ N.ids.length rR) (.slice (some ⟨gi,0,none⟩) N.aea.length vX) { N with aea:=ys.set j (x:Int) } S2:=
       ⟨q3,Tp.out.box.set Tq,Tp.out.nb,(Tp.out.cur.mono (by omega)).keep (fun q hq=>Below.heap_setCell _ _ _ _ (by show q≠gi;omega)),Tp.out.far.setCell (p:=⟨gi,j,none⟩) (.inl hgB) _⟩
      have Hmf:=zh hmf;have Hrf:Hid (bx (W'.setCell ⟨gi,j,none⟩ (.int .i64 (x:Int))) (pb+1) (.slice none 0 0) (.slice none 0 0) (.slice none 0 0)):=Hrw.out.other (Ne.symm zF)
      have Hsf:Hid (wa.heap.size<=(W'.setCell ⟨gi,j,none⟩ (.int .i64 (x:Int))).heap.size):=by show _<=_;rw[jC];exact Ap.out
      clear q1 q3 Tq zF hgB hmf hx;go_wp2;go_roundw
      case rel=>exact⟨j+1,_,by omega,by first | rfl | go_num,by rw[List.length_set];exact FI.out,Hmf.out,Hrf.out,Hsf.out⟩
      case measure=>simp[intOf];omega
     ·obtain rfl:j=N.aea.length:=by omega
      have K0:=Vg;have Hrz:=Vh;have HQ2:=HQ1.out;have Vi:L8 N { N with aea:=ys }:=⟨rfl,FI.out,rfl,fun k es he=>⟨es,he,rfl⟩⟩
      have Ou:=zh (Ol.out.trans Vi)
      have M2:=zh (iL.out.sh Vi (fun k es he e hm=>by
       obtain⟨a,b,fs,h1,h2,h3⟩:=iL.out.wf k es he e hm
       exact⟨a,b,fs,h1,h2,h3⟩))
      obtain⟨NZ,Xe⟩:∃z,z=({ N with aea:=ys }:ak):=⟨_,rfl⟩
      rw[<- Xe]at Ou M2 K0;have adU:=zh si.out;clear Xe Vi Vg yF hj
      have HQ3:Hid (Q+2*N.aea.length<=P+100000):=by show _<=_;have:=si.out;omega
      clear HQ2;have td:=K0.out.box.cells;obtain⟨k0,k1,k2,-,-,-⟩:=td;have hrr:=Hrz.out.box.cells;obtain⟨e0,e1,e2,f0,f1,f2⟩:=hrr;go_wp2;refine bodyPost_ret (v:=.agg #[.slice (some ⟨g,0,none⟩) N.ends.length kB,.slice rQ N.ids.length rR,.slice Aw N.aea.length vX]) (by simp[results,Tryz.results156,go_sem, *]) rfl ?_;refine⟨_,_,_,NZ,S2,rfl,K0.out.own.aeb (fun q hq=>?_),⟨Ou.out,M2.out⟩,K0.out.cur.mono HQ3.out |>.keep (fun q hq=>?_),?_⟩
      ·have oC:q≠pb+1:=fun e=>Hrn.out (e ▸ hq)
       rw[Below.heap_setCell _ _ _ q (by exact oC),Below.heap_setCell _ _ _ q (by exact oC),Below.heap_setCell _ _ _ q (by exact oC)]
      ·have oC:q≠pb+1:=by have:=ft.out;omega
       rw[Below.heap_setCell _ _ _ q (by exact oC),Below.heap_setCell _ _ _ q (by exact oC),Below.heap_setCell _ _ _ q (by exact oC)]
      ·have iE:B<=pb+1:=by have:=ft.out;omega
       exact((K0.out.far.setCell (p:=⟨pb+1,0,none⟩) (.inl iE) _).setCell (p:=⟨pb+1,1,none⟩) (.inl iE) _).setCell (p:=⟨pb+1,2,none⟩) (.inl iE) _
theorem j2 {n:ak} {v:Nat} (hv:v<n.ends.length) (e:Int×Int) (k:Nat):dp (rv n v e) k=if k=v then dp n v++[e] else dp n k:=by
 unfold dp rv
 simp only[zDd]
 by_cases h:k=v
 ·subst h;rw[if_pos rfl,List.getElem?_set_self hv];rfl
 ·rw[if_neg h,List.getElem?_set_ne (Ne.symm h)]
theorem pB {n:ak} {k:Nat} {es:List (Int×Int)} (h:n.ends[k]?=some es):dp n k=es:=by
 unfold dp;rw[zDd,h];rfl
theorem GP.add {n:ak} {v:Nat} (hv:v<n.ends.length) (e:Int×Int) {x:Int×Int} (h:GP n x):GP (rv n v e) x:=by
 obtain⟨a,b,fs,h1,h2,h3⟩:=h
 have ha:a<(rv n v e).ends.length:=by rw[iM];exact an h2
 refine⟨a,b,_,h1,dh ha,?_⟩;rw[j2 hv,pB h2]
 split
 ·rename_i h;subst h;rw[pB h2,List.length_append];omega
 ·exact h3
theorem pz.add {m n:ak} {v:Nat} (h:pz m n) (hv:v<n.ends.length) {e:Int×Int} (he:GP m e):pz m (rv n v e):=fun k es hk x hx=>by
 have h1:=pB hk;rw[j2 hv]at h1
 have mh:k<n.ends.length:=by have:=an hk;rwa [iM]at this
 split at h1
 ·rw[<- h1]at hx;rcases List.mem_append.1 hx with h2 | h2
  ·exact h v _ (dh hv) x h2
  ·rw[List.mem_singleton.1 h2];exact he
 ·rw[<- h1]at hx;exact h k _ (dh mh) x hx
theorem vY {n:ak} {v u:Nat} (h:Qe n) (hv:v<n.ends.length) (hu:u<n.ends.length):Qe (dK n v u):=by
 have ZO:u<(rv n v ((u:Int),if v=u then ((dp n u).length:Int)+1 else ((dp n u).length:Int))).ends.length:=by rw[iM];exact hu
 have hl:(dK n v u).ends.length=n.ends.length:=by unfold dK;rw[iM,iM]
 have dB:∀k,dp (dK n v u) k=if k=u then (if u=v then dp n v++[((u:Int),if v=u then ((dp n u).length:Int)+1 else ((dp n u).length:Int))] else dp n u)++[((v:Int),((dp n v).length:Int))] else if k=v then dp n v++[((u:Int),if v=u then ((dp n u).length:Int)+1 else ((dp n u).length:Int))] else dp n k:=fun k=>by
  unfold dK;rw[j2 ZO,j2 hv,j2 hv]
 have h0:pz (dK n v u) n:=fun k es hk x hx=>((h k es hk x hx).add hv _).add ZO _
 have e1:GP (dK n v u) ((v:Int),((dp n v).length:Int)):=by
  refine⟨v,(dp n v).length,_,rfl,dh (by omega),?_⟩;rw[dB]
  by_cases e:v=u
  ·subst e;simp
  ·rw[if_neg e,if_pos rfl];simp
 have e2:GP (dK n v u) ((u:Int),if v=u then ((dp n u).length:Int)+1 else ((dp n u).length:Int)):=by
  by_cases e:v=u
  ·subst e;refine⟨v,(dp n v).length+1,_,by simp,dh (by omega),?_⟩
   rw[dB];simp
  ·refine⟨u,(dp n u).length,_,by rw[if_neg e],dh (by omega),?_⟩
   rw[dB,if_pos rfl,if_neg (Ne.symm e)];simp
 exact(h0.add hv e2).add ZO e1
theorem lB {n:ak} {v u:Nat} (hv:v<n.ends.length) (hu:u<n.ends.length) (k:Nat):(dp (dK n v u) k).length=(dp n k).length+(if k=u then 1 else 0)+(if k=v then 1 else 0):=by
 have ZO:u<(rv n v ((u:Int),if v=u then ((dp n u).length:Int)+1 else ((dp n u).length:Int))).ends.length:=by rw[iM];exact hu
 unfold dK;rw[j2 ZO,j2 hv,j2 hv]
 by_cases a:k=u
 ·subst a
  by_cases b:k=v
  ·subst b;simp
  ·simp[b]
 ·by_cases b:k=v
  ·subst b;simp[a]
  ·simp[a,b]
theorem eG (n:ak) (v u:Nat):(dK n v u).ends.length=n.ends.length:=by unfold dK;rw[iM,iM]
theorem Gd.join {R M:Nat} {n:ak} {v u:Nat} (h:Gd R M n) (hv:v<n.ends.length) (hu:u<n.ends.length):Gd (R+2) M (dK n v u):=by
 refine⟨by rw[eG];exact h.ends,fun k es hk=>?_,h.ids,by rw[eG];exact h.aea,vY h.wf hv hu⟩
 have h1:=pB hk
 have mh:k<n.ends.length:=by have:=an hk;rwa [eG]at this
 rw[<- h1,lB hv hu]
 have:=h.row k _ (dh mh)
 split <;> split <;> omega
theorem Gd.mono {R R' M M':Nat} {n:ak} (h:Gd R M n) (hR:R<=R') (hM:M<=M'):Gd R' M' n:=⟨by have:=h.ends;omega,fun k es hk=>by have:=h.row k es hk;omega,by have:=h.ids;omega,h.aea,h.wf⟩
theorem Gd.empty {M m:Nat} (hm:m<=M):Gd 0 M (dW m):=⟨by simp[dW];omega,fun k es hk=>by
 have:=List.mem_of_getElem? hk
 simp[dW]at this
 rw[this.2];simp,by simp[dW],by simp[dW],fun k es hk e he=>by
 have:=List.mem_of_getElem? hk
 simp[dW]at this
 rw[this.2]at he
 simp at he⟩
theorem Rp {n:ak} {v:Nat} (h:Qe n) (hv:v<n.ends.length):Qe (lz n v):=by
 have h0:pz (lz n v) n:=fun k es hk x hx=>(h k es hk x hx).add hv _
 have hl:(lz n v).ends.length=n.ends.length:=iM _ _ _;refine h0.add hv ⟨v,(dp n v).length,_,rfl,dh (by omega),?_⟩;unfold lz;rw[j2 hv,if_pos rfl];simp
theorem Ov {n:ak} {v:Nat} (hv:v<n.ends.length) (k:Nat):(dp (lz n v) k).length=(dp n k).length+(if k=v then 1 else 0):=by
 unfold lz;rw[j2 hv]
 by_cases b:k=v
 ·subst b;simp
 ·simp[b]
theorem sL (n:ak) (v:Nat):(lz n v).ends.length=n.ends.length:=iM _ _ _
theorem CB.aeh {cb B b:Nat} {w w':World} {x y z:Value} (h:CB cb B w w') (hx:bx w b x y z) (hb:b<B) (hn:b≠cb):bx w' b x y z:=(h.block b hb hn).trans hx
theorem dq {cb P:Nat} {A:Option Addr} {L c:Nat} {w w0 W:World} {ve vi vn:Value} {N:ak} {S:List Nat} (h0:aa w w0) (ho:az W (w.heap.size+1) ve vi vn N S) (hc:dm W cb A L c P) (hf:CB cb (w.heap.size+1) w0 W) (ja:cb<w.heap.size):
  az (aed W w.heap.size ve vi vn) w.heap.size ve vi vn N S/\dm (aed W w.heap.size ve vi vn) cb A L c P/\CB cb w.heap.size w (aed W w.heap.size ve vi vn):=by
 refine⟨(ho.aeb (fun k hk=>dZ _ _ _ _ _ (by have:=(ho.range k hk).1;omega))).mono (by omega),hc.keep (fun k hk=>dZ _ _ _ _ _ (by omega)),?_⟩
 have h1:CB cb w.heap.size w W:=(CB.of h0.below).trans (hf.mono (by omega));exact((h1.setCell (p:=⟨w.heap.size,0,none⟩) (.inl (Nat.le_refl _)) _).setCell (p:=⟨w.heap.size,1,none⟩) (.inl (Nat.le_refl _)) _).setCell (p:=⟨w.heap.size,2,none⟩) (.inl (Nat.le_refl _)) _
def TN (R M:Nat) (N:ak):Prop:=Gd R M N/\0<N.ends.length
theorem GU (cb:Nat) (A:Option Addr) (L c P aU M:Nat) (w:World) (hc:dm w cb A L c P) (hP:P<=4611686018425000000) (yN:1<=aU) (nM:aU<=M) (hM:M<=40):
  Calls Tryz.prog 190 #[.pointer (some ⟨cb,0,none⟩),.int .i64 aU] w (vB cb w.heap.size A L c (P+200000) w (TN 100 M)):=by
 have ja:=hc.lt;obtain⟨B,tL⟩:∃z,z=w.heap.size+1:=⟨_,rfl⟩
 obtain⟨w0,cG⟩:∃z,z=w.alloc (.cells #[.slice none 0 0,.slice none 0 0,.slice none 0 0] 27):=⟨_,rfl⟩
 have bB:aa w w0:=by rw[cG];exact ag _ (ad _)
 have il:w0.heap.size=B:=by rw[cG,tL];simp
 have gY:bx w0 w.heap.size (.slice none 0 0) (.slice none 0 0) (.slice none 0 0):=by
  rw[cG];show(w.heap.push _)[w.heap.size]?=_
  rw[Array.getElem?_push_size]
 have iF:=zh gY;have lC:=zh bB;have bK:=zh cG;have eT:=zh tL;have mX:=zh il;have GV:=zh (hc.since bB);clear gY bB cG hc tL il
 go_enter Tryz.func190,Tryz.ntmps190
 go_upto_region 1 with(fail);rw[<- bK.out];go_wp2_with fail;refine(dJ cb A L c P aU w0 GV.out (by omega) (by omega)).mono ?_;rintro e w1 ⟨x,rfl,hx,mY,mS⟩;obtain⟨m,hm⟩:∃m:Nat,m=x+1:=⟨_,rfl⟩
 have m1:IntKind.i64.wrap (1+(x:Int))=(m:Int):=by rw[aF _ (by omega) (by omega)];omega
 have Xf:m<=M:=by omega
 have y5:0<m:=by omega
 have lD:=zh mY;have yO:=zh mS;clear mY mS hx;have Hm:=zh hm;clear hm;go_wp2_with fail;refine(py m (by omega) w1).mono ?_;rintro e w2 ⟨ZP,ZQ,ZR,S0,rfl,ho,bj⟩;obtain⟨N0,B6⟩:∃z,z=dW m:=⟨_,rfl⟩
 rw[<- B6]at ho
 have n_:N0.ends.length=m:=by rw[B6];simp[dW]
 have GW:Gd 0 M N0:=by rw[B6];exact Gd.empty Xf
 obtain⟨A1,c1,rfl,-,rM,-⟩:=id ho.read.1;obtain⟨AI,cI,rfl,-,-,-⟩:=id ho.read.2.1;obtain⟨AN,cN,rfl,-,-,-⟩:=id ho.read.2.2;obtain⟨w3,iR⟩:∃z,z=w2.alloc (.cells #[.slice A1 N0.ends.length c1,.slice AI N0.ids.length cI,.slice AN N0.aea.length cN] 27):=⟨_,rfl⟩
 obtain⟨pb,gG⟩:∃z,z=w2.heap.size:=⟨_,rfl⟩
 have n7:aa w2 w3:=by rw[iR];exact ag _ (ad _)
 have iE:B<=w1.heap.size:=by rw[<- mX.out];exact yO.out.size
 have hmb:Mb cb B pb A L c (P+2) w0 w3 (.slice A1 N0.ends.length c1) (.slice AI N0.ids.length cI) (.slice AN N0.aea.length cN) N0 S0:=
  ⟨(ho.keep n7.below).mono iE,by rw[iR,gG];exact bD.new _ _ _ _ _,fun hj=>by have:=(ho.range _ hj).2;omega,(lD.out.since bj).since n7,(yO.out.mono (by have:=mX.out;omega)).trans ((CB.of (Below.trans bj (n7.below.mono bj.size))).mono iE)⟩
 have sJ:=zh hmb
 have ft:Hid (B<=pb/\pb<w3.heap.size):=⟨by rw[gG];exact Nat.le_trans iE bj.size,by rw[iR,gG];simp⟩
 have xc:=zh iR;have sM:=zh gG;have Gz:=zh GW;have io:=zh n_;have fe:=hmb.box.cells.1
 have kD:cb<B:=by have:=eT.out;omega
 clear hmb iR gG GW n_ ho bj n7 B6 iE;go_upto_region 2 with(fail);rw[<- xc.out,<- sM.out];rw[io.out]at fe;have ach:=io.out;go_wp2;clear fe ach
 go_loopw [15] (fun i wr=>∃(k:Nat) (ve vi vn:Value) (N:ak) (S:List Nat),k<=m/\i=.int .i64 k/\Mb cb B pb A L c (P+2) w0 wr ve vi vn N S/\Gd (2*k) M N/\N.ends.length=m/\B<=wr.heap.size) (fun i _=>m-(intOf i).toNat)
 case atStart=>exact⟨0,_,_,_,N0,S0,Nat.zero_le _,rfl,sJ.out,Gz.out,io.out,by have:=ft.out;omega⟩
 case round=>
  obtain⟨k,ve,vi,vn,N,S2,hk,rfl,hm,iY,n_,eP⟩:=hrel;obtain⟨Mz,kB,rfl,-,zb,-⟩:=id hm.own.read.1;obtain⟨rQ,rR,rfl,-,-,-⟩:=id hm.own.read.2.1;obtain⟨Aw,vX,rfl,-,-,-⟩:=id hm.own.read.2.2;have Hm:=zh hm;have iL:=zh iY;have io:=zh n_;have jF:=zh eP;clear hm iY n_ eP
  by_cases hlt:k<m
  ·have m4:IntKind.i64.wrap ((k:Int)+1)=(k:Int)+1:=aF _ (by omega) (by omega);obtain⟨q,hq⟩:∃q:Nat,q=(k+1)%m:=⟨_,rfl⟩
   have hqm:q<m:=by rw[hq];exact Nat.mod_lt _ y5
   have m5:((k:Int)+1).tmod (m:Int)=(q:Int):=by rw[hq,Int.tmod_eq_emod_of_nonneg (by omega)];simp
   have m6:((k:Int)+1)%(m:Int)=(q:Int):=by rw[hq];simp
   have m7:IntKind.i64.wrap (q:Int)=(q:Int):=aF _ (by omega) (by omega)
   have m8:((m:Int)=0)=False:=by simp;omega
   have m9:(m=0)=False:=by simp;omega
   have iN:pb≠cb:=by have:=ft.out;omega
   have lp:=zh (show wr.cell? ⟨pb,0,none⟩=some (.slice Mz m kB)/\wr.cell? ⟨pb,1,none⟩=some (.slice rQ N.ids.length rR)/\wr.cell? ⟨pb,2,none⟩=some (.slice Aw N.aea.length vX)from by obtain⟨a,b,d,-⟩:=Hm.out.box.cells;rw[io.out]at a;exact⟨a,b,d⟩)
   clear hq;go_upto_region 5 with(fail);refine aL (fun W=>W.cell? ⟨pb,0,none⟩=some (.slice Mz m kB)/\W.cell? ⟨pb,1,none⟩=some (.slice rQ N.ids.length rR)/\W.cell? ⟨pb,2,none⟩=some (.slice Aw N.aea.length vX)) 9 [false,false,false,false,false,false,false,false,true] (by kernel_rfl) (by kernel_rfl) (show(World.drew wr).cell? ⟨pb,0,none⟩=some (.slice Mz m kB)/\(World.drew wr).cell? ⟨pb,1,none⟩=some (.slice rQ N.ids.length rR)/\(World.drew wr).cell? ⟨pb,2,none⟩=some (.slice Aw N.aea.length vX)from lp.out) ?_
   simp only[eE,ea,zT]
   iterate 8 (apply bV rfl;(intro W hW;(obtain⟨k0,k1,k2⟩:=hW);go_simp;with_reducible rfl);simp only[zA])
   obtain⟨W,dE⟩:∃W,W=World.drew wr:=⟨_,rfl⟩
   rw[<- dE];have hW:=(show(World.drew wr).cell? ⟨pb,0,none⟩=some (.slice Mz m kB)/\(World.drew wr).cell? ⟨pb,1,none⟩=some (.slice rQ N.ids.length rR)/\(World.drew wr).cell? ⟨pb,2,none⟩=some (.slice Aw N.aea.length vX)from lp.out);rw[<- dE]at hW;have gA:=zh dE;clear dE;refine Or.inl ⟨rfl,?_⟩
   go_simp
   (with_reducible refine(nL _ _ _ N k q W (by rw[gA.out];have h9:=(Hm.out.own.keep (aj (ad _)).below).read;rw[io.out]at h9;exact h9) (by rw[io.out];exact hlt) (by rw[io.out];exact hqm) ((iL.out.mono (R':=80) (M':=40) (by omega) hM).small (by omega) (by omega))).mono ?_)
   rintro e W' ⟨ZH,ZI,ZJ,S3,rfl,dl,bj⟩;refine⟨_,rfl,And.intro (bc bj hW.1) (And.intro (bc bj hW.2.1) (bc bj hW.2.2)),?_⟩
   replace hW:=And.intro (bc bj hW.1) (And.intro (bc bj hW.2.1) (bc bj hW.2.2))
   have qg:aa wr W:=(by rw[gA.out];exact aj (ad _))
   have Ts:=qg.after bj;have Uv:Hid (pb<W.heap.size):=Nat.lt_of_lt_of_le Hm.out.box.lt qg.below.size;clear qg
   (try simp only[zA])
   simp only[bz];obtain⟨D0,d0,rfl,-,-,-⟩:=id dl.read.1;obtain⟨D1,d1,rfl,-,-,-⟩:=id dl.read.2.1;obtain⟨D2,d2,rfl,-,-,-⟩:=id dl.read.2.2;have D_:=Hm.out.assign (CB.of Ts) (Hm.out.cur.since Ts) dl Uv.out kD ft.out.1 jF.out;obtain⟨-,-,-,f0,f1,f2⟩:=(Hm.out.box.below Ts Hm.out.box.lt).cells;obtain⟨k0,k1,k2⟩:=hW;have rA:=zh D_
   have pA:B<=(aed W' pb (.slice D0 (dK N k q).ends.length d0) (.slice D1 (dK N k q).ids.length d1) (.slice D2 (dK N k q).aea.length d2)).heap.size:=by rw[gQ];exact Nat.le_trans jF.out Ts.below.size
   have xO:=zh pA
   have Bq:=zh (iL.out.join (v:=k) (u:=q) (by rw[io.out];exact hlt) (by rw[io.out];exact hqm))
   have tH:=zh ((eG N k q).trans io.out);clear D_ dl bj Ts pA;go_wp2;go_roundw
   case rel=>exact⟨k+1,_,_,_,dK N k q,S3,by omega,by first | rfl | go_num,rA.out,Bq.out.mono (by omega) (Nat.le_refl _),tH.out,xO.out⟩
   case measure=>simp[intOf];omega
  ·obtain rfl:k=m:=by omega
   obtain⟨wo,rfl⟩:∃z,z=wr:=⟨_,rfl⟩
   have fh:=Hm.out.cur;have CP:=zh fh;clear fh;go_wp2_with fail;refine(mT cb A L c (P+2) 2 wo CP.out (by omega) (by omega)).mono ?_;rintro e w5 ⟨b,rfl,mv,qp⟩;have kC:=zh (Hm.out.seen qp mv kD ft.out.1 jF.out);have rj:Hid (B<=w5.heap.size):=Nat.le_trans jF.out qp.size;have K2:Hid (Gd 80 M N):=iL.out.mono (by omega) (Nat.le_refl _);clear mv qp;obtain⟨k0,k1,k2,-,-,-⟩:=kC.out.box.cells
   have ec:=kC.out.far.aeh iF.out (by have:=eT.out;omega) (by omega)
   obtain⟨-,-,-,f0,f1,f2⟩:=ec.box.cells;obtain⟨e0,e1,e2,-,-,-⟩:=ec.box.cells;clear ec;cases b
   ·clear f0 f1 f2 e0 e1 e2;go_wp2_with fail
    refine(vW cb A L c (P+2+2) B 80 M _ _ _ N S2 w5 kC.out.cur (by omega) kC.out.own kD rj.out K2.out (by omega) (by omega) (by have:=io.out;omega)).mono ?_
    rintro e w6 ⟨Fi,Fj,Fk,N6,S6,rfl,d6,⟨xP,mB⟩,d7,iU⟩;obtain⟨D0,d0,rfl,-,-,-⟩:=id d6.read.1;obtain⟨D1,d1,rfl,-,-,-⟩:=id d6.read.2.1;obtain⟨D2,d2,rfl,-,-,-⟩:=id d6.read.2.2;have aW:=(kC.out.far.mono (Nat.le_refl B)).trans iU
    have ec:=aW.aeh iF.out (by have:=eT.out;omega) (by omega)
    obtain⟨e0,e1,e2,f0,f1,f2⟩:=ec.box.cells;have aP:=d6;rw[eT.out]at aP aW;have c_:=zh (dq lC.out aP d7 aW ja);have GX:=zh xP;have CQ:=zh mB;clear aW ec aP xP mB d7 iU d6 k0 k1 k2;go_wp2;refine bodyPost_ret (v:=.agg #[.slice D0 N6.ends.length d0,.slice D1 N6.ids.length d1,.slice D2 N6.aea.length d2]) (by simp[results,Tryz.results190,go_sem, *]) rfl ?_;obtain⟨r1,r2,r3⟩:=c_.out
    exact⟨_,_,_,N6,S6,rfl,r1,⟨CQ.out.mono (by omega) (Nat.le_refl _),by have:=io.out;have:=GX.out.len;omega⟩,r2.mono (by omega),r3⟩
   ·go_wp2;refine bodyPost_ret (v:=.agg #[.slice Mz N.ends.length kB,.slice rQ N.ids.length rR,.slice Aw N.aea.length vX]) (by simp[results,Tryz.results190,go_sem, *]) rfl ?_;have aP:=kC.out.own;rw[eT.out]at aP;have aW:=kC.out.far;rw[eT.out]at aW;obtain⟨r1,r2,r3⟩:=dq lC.out aP kC.out.cur aW ja
    exact⟨_,_,_,N,S2,rfl,r1,⟨K2.out.mono (by omega) (Nat.le_refl _),by have:=io.out;omega⟩,r2.mono (by omega),r3⟩
theorem Ow (f:Nat->Nat) (x:Nat):CL f 0 x=x:=rfl
theorem Ea (Q:Nat->Prop):∀t,Q t->∃m,Q m/\m<=t/\∀k,k<m->¬Q k
 | t,h=>by
  rcases Classical.em (∃k,k<t/\Q k)with⟨k,hk,hq⟩ | hn
  ·obtain⟨m,h1,h2,h3⟩:=Ea Q k hq;exact⟨m,h1,by omega,h3⟩
  ·exact⟨t,h,Nat.le_refl _,fun k hk hq=>hn ⟨k,hk,hq⟩⟩
termination_by t=>t
open Classical in
noncomputable def Ox (Q:Nat->Prop):Nat:=if h:∃m,Q m/\∀k,k<m->¬Q k then Classical.choose h else 0
theorem sN {Q:Nat->Prop} {t:Nat} (h:Q t):Q (Ox Q)/\Ox Q<=t:=by
 obtain⟨m,h1,h2,h3⟩:=Ea Q t h;have he:∃m,Q m/\∀k,k<m->¬Q k:=⟨m,h1,h3⟩;unfold Ox;rw[dif_pos he];obtain⟨h4,h5⟩:=Classical.choose_spec he;refine⟨h4,?_⟩;rcases Nat.lt_or_ge t (Classical.choose he)with hl | hl
 ·exact absurd h (h5 t hl)
 ·exact hl
def sO (v t0 s t:Nat):Prop:=byteOf (CL (fun s=>nx s 0) t (nx s 0))%v=t0
open Classical in
noncomputable def uU (L v t0 p s:Nat):Nat:=if p<L then (L-p)+281474976710656+1 else Ox (sO v t0 s)
theorem Oy {v t0 s:Nat} (h:sO v t0 s 0):byteOf (nx s 0)%v=t0:=by
 unfold sO at h;rw[Ow]at h;exact h
theorem fuel_lt {L v t0 p s:Nat} (h:p<L):uU L v t0 p s=(L-p)+281474976710656+1:=if_pos h
theorem vZ {L v t0 p s:Nat} (h:L<=p):uU L v t0 p s=Ox (sO v t0 s):=if_neg (by omega)
theorem GY {v t0:Nat} (s:Nat) (hv:v<=200) (ht:t0<v):∃t,t<281474976710656/\sO v t0 s t:=by
 obtain⟨t,h1,h2⟩:=N_ (nx s 0) t0 (Jg _ _) (by omega)
 exact⟨t,h1,by unfold sO;rw[h2,Nat.mod_eq_of_lt ht]⟩
theorem Rq {L v t0:Nat} (p s:Nat) (hL:L<=1048576) (hv:v<=200) (ht:t0<v):uU L v t0 p s<=281474977759233:=by
 rcases Nat.lt_or_ge p L with hp | hp
 ·rw[fuel_lt hp];omega
 ·rw[vZ hp];obtain⟨t,h1,h2⟩:=GY s hv ht;have h3:=(sN h2).2
  generalize Ox (sO v t0 s)=m at *
  omega
theorem Ax {L v t0 p s s' x:Nat} (hL:L<=1048576) (hv:v<=200) (ht:t0<v) (hx:x≠t0) (h:L<=p->s'=nx s 0/\x=byteOf s'%v):uU L v t0 (p+1) s'<uU L v t0 p s:=by
 have rK:Ox (sO v t0 s')<281474976710656:=by
  obtain⟨t,h1,h2⟩:=GY s' hv ht;have h3:=(sN h2).2
  generalize Ox (sO v t0 s')=m at *
  omega
 rcases Nat.lt_or_ge p L with hp | hp
 ·rw[fuel_lt hp];rcases Nat.lt_or_ge (p+1) L with h2 | h2
  ·rw[fuel_lt h2];omega
  ·rw[vZ h2]
   generalize Ox (sO v t0 s')=m at *
   omega
 ·rw[vZ hp,vZ (by omega)];obtain⟨hs,rx⟩:=h hp;rw[hs]at rx rK ⊢;clear hs;obtain⟨t,h1,h2⟩:=GY s hv ht;obtain⟨h3,h4⟩:=sN h2
  generalize Ox (sO v t0 s)=m at *
  cases m with
  | zero=>
   exfalso
   exact hx (rx.trans (Oy h3))
  | succ m=>
   have h5:sO v t0 (nx s 0) m:=by
    unfold sO at h3 ⊢
    rw[xF]at h3;exact h3
   have h6:=(sN h5).2
   generalize Ox (sO v t0 (nx s 0))=q at *
   omega
def qS (N:ak):Nat->Nat
 | 0=>0
 | k+1=>qS N k+(dp N k).length
theorem Oz {N:ak}:∀v,qS N v<4*v->∃t,t<v/\(dp N t).length<4
 | 0,h=>by simp at h
 | v+1,h=>by
  by_cases h1:(dp N v).length<4
  ·exact⟨v,by omega,h1⟩
  ·obtain⟨t,h2,h3⟩:=Oz (N:=N) v (by simp only[qS]at h;omega)
   exact⟨t,by omega,h3⟩
theorem Eb {N:ak} {u v:Nat} (hu:u<N.ends.length) (hv:v<N.ends.length):∀k,k<=v->qS (dK N u v) k=qS N k+(if u<k then 1 else 0)
 | 0,_=>by simp[qS]
 | k+1,hk=>by
  simp only[qS];rw[Eb hu hv k (by omega),lB hu hv];have h1:k≠v:=by omega
  rw[if_neg h1]
  by_cases h2:k=u
  ·subst h2;simp;omega
  ·rw[if_neg h2]
   by_cases h3:u<k
   ·rw[if_pos h3,if_pos (by omega)];omega
   ·rw[if_neg h3,if_neg (by omega)];omega
structure zj (M v:Nat) (N:ak):Prop where
 gd:Gd 4 M N
 tot:qS N v+2=2*v
 zero:∀k,v<=k->(dp N k).length=0
theorem zj.low {M v:Nat} {N:ak} (h:zj M v N) (hv:1<=v):∃t,t<v/\(dp N t).length<4:=Oz v (by have:=h.tot;omega)
theorem zj.step {M v u:Nat} {N:ak} (h:zj M v N) (hu:u<v) (hv:v<N.ends.length) (hr:(dp N u).length<4):zj M (v+1) (dK N u v):=by
 have hul:u<N.ends.length:=by omega
 refine⟨⟨by rw[eG];exact h.gd.ends,fun k es hk=>?_,h.gd.ids,by rw[eG];exact h.gd.aea,vY h.gd.wf hul hv⟩,?_,fun k hk=>?_⟩
 ·have h1:=pB hk
  have mh:k<N.ends.length:=by have:=an hk;rwa [eG]at this
  rw[<- h1,lB hul hv];have h2:=h.gd.row k _ (dh mh)
  by_cases a:k=v
  ·subst a
   have:=h.zero k (Nat.le_refl _)
   rw[if_pos rfl,if_neg (by omega)];omega
  ·rw[if_neg a]
   by_cases b:k=u
   ·subst b;rw[if_pos rfl];omega
   ·rw[if_neg b];omega
 ·simp only[qS];rw[Eb hul hv v (Nat.le_refl _),if_pos hu,lB hul hv,if_pos rfl,if_neg (by omega),h.zero v (Nat.le_refl _)]
  have:=h.tot
  omega
 ·rw[lB hul hv,if_neg (by omega),if_neg (by omega),h.zero k (by omega)]
theorem zj.empty {M m:Nat} (hm:m<=M):zj M 1 (dW m):=by
 have hz:∀k,(dp (dW m) k).length=0:=fun k=>by
  unfold dp dW
  simp only[zDd,List.getElem?_replicate]
  split <;> simp
 exact⟨(Gd.empty hm).mono (by omega) (Nat.le_refl _),by simp[qS,hz],fun k _=>hz k⟩
def pOf (cb:Nat) (W:World):Nat:=(intOf ((W.cell? ⟨cb,1,none⟩).getD undef)).toNat
def sOf (cb:Nat) (W:World):Nat:=(intOf ((W.cell? ⟨cb,2,none⟩).getD undef)).toNat
theorem CM.pOf {W:World} {cb:Nat} {A:Option Addr} {L c p s:Nat} (h:CM W cb A L c p s):pOf cb W=p/\sOf cb W=s:=by
 obtain⟨-,h1,h2⟩:=h.cellsOf
 unfold Go.Proofs.YtgmdpppljkmabaaGreat.pOf sOf
 rw[h1,h2];simp[intOf]
open Classical in
noncomputable def OA (L v t0 cb:Nat) (x:Value) (W:World):Nat:=if intOf x=(t0:Int) then 0 else 1+uU L v t0 (pOf cb W) (sOf cb W)
theorem OB {L v t0 cb:Nat} {x:Value} {W:World} (h:intOf x=(t0:Int)):OA L v t0 cb x W=0:=if_pos h
theorem Ec {L v t0 cb:Nat} {x:Value} {W:World} (h:¬intOf x=(t0:Int)):OA L v t0 cb x W=1+uU L v t0 (pOf cb W) (sOf cb W):=if_neg h
theorem xQ (cb:Nat) (A:Option Addr) (L c P aU M:Nat) (w:World) (hc:dm w cb A L c P) (hP:P<=4400000000000000000) (yN:1<=aU) (nM:aU<=M) (hM:M<=40):
  Calls Tryz.prog 93 #[.pointer (some ⟨cb,0,none⟩),.int .i64 aU] w (vB cb w.heap.size A L c (P+72057594037927936) w (TN 100 M)):=by
 have ja:=hc.lt;obtain⟨B,tL⟩:∃z,z=w.heap.size+1:=⟨_,rfl⟩
 obtain⟨w0,cG⟩:∃z,z=w.alloc (.cells #[.slice none 0 0,.slice none 0 0,.slice none 0 0] 27):=⟨_,rfl⟩
 have bB:aa w w0:=by rw[cG];exact ag _ (ad _)
 have il:w0.heap.size=B:=by rw[cG,tL];simp
 have gY:bx w0 w.heap.size (.slice none 0 0) (.slice none 0 0) (.slice none 0 0):=by
  rw[cG];show(w.heap.push _)[w.heap.size]?=_
  rw[Array.getElem?_push_size]
 have iF:=zh gY;have lC:=zh bB;have bK:=zh cG;have eT:=zh tL;have mX:=zh il;have GV:=zh (hc.since bB);clear gY bB cG hc tL il
 go_enter Tryz.func93,Tryz.ntmps93
 go_upto_region 1 with(fail);rw[<- bK.out];go_wp2_with fail;refine(dJ cb A L c P aU w0 GV.out (by omega) (by omega)).mono ?_;rintro e w1 ⟨x,rfl,hx,mY,mS⟩;obtain⟨m,hm⟩:∃m:Nat,m=x+1:=⟨_,rfl⟩
 have m1:IntKind.i64.wrap (1+(x:Int))=(m:Int):=by rw[aF _ (by omega) (by omega)];omega
 have Xf:m<=M:=by omega
 have y5:0<m:=by omega
 have lD:=zh mY;have yO:=zh mS;clear mY mS hx;clear hm;go_wp2_with fail;refine(py m (by omega) w1).mono ?_;rintro e w2 ⟨ZP,ZQ,ZR,S0,rfl,ho,bj⟩;obtain⟨N0,B6⟩:∃z,z=dW m:=⟨_,rfl⟩
 rw[<- B6]at ho
 have n_:N0.ends.length=m:=by rw[B6];simp[dW]
 have GW:zj M 1 N0:=by rw[B6];exact zj.empty Xf
 obtain⟨A1,c1,rfl,-,rM,-⟩:=id ho.read.1;obtain⟨AI,cI,rfl,-,-,-⟩:=id ho.read.2.1;obtain⟨AN,cN,rfl,-,-,-⟩:=id ho.read.2.2;obtain⟨w3,iR⟩:∃z,z=w2.alloc (.cells #[.slice A1 N0.ends.length c1,.slice AI N0.ids.length cI,.slice AN N0.aea.length cN] 27):=⟨_,rfl⟩
 obtain⟨pb,gG⟩:∃z,z=w2.heap.size:=⟨_,rfl⟩
 have n7:aa w2 w3:=by rw[iR];exact ag _ (ad _)
 have iE:B<=w1.heap.size:=by rw[<- mX.out];exact yO.out.size
 have hmb:Mb cb B pb A L c (P+2) w0 w3 (.slice A1 N0.ends.length c1) (.slice AI N0.ids.length cI) (.slice AN N0.aea.length cN) N0 S0:=
  ⟨(ho.keep n7.below).mono iE,by rw[iR,gG];exact bD.new _ _ _ _ _,fun hj=>by have:=(ho.range _ hj).2;omega,(lD.out.since bj).since n7,(yO.out.mono (by have:=mX.out;omega)).trans ((CB.of (Below.trans bj (n7.below.mono bj.size))).mono iE)⟩
 have sJ:=zh hmb
 have ft:Hid (B<=pb/\pb<w3.heap.size):=⟨by rw[gG];exact Nat.le_trans iE bj.size,by rw[iR,gG];simp⟩
 have xc:=zh iR;have sM:=zh gG;have Gz:=zh GW;have io:=zh n_;have fe:=hmb.box.cells.1
 have kD:cb<B:=by have:=eT.out;omega
 clear hmb iR gG GW n_ ho bj n7 B6 iE;go_upto_region 3 with(fail);rw[<- xc.out,<- sM.out];clear fe
 go_loopw [6] (fun i wr=>∃(v:Nat) (ve vi vn:Value) (N:ak) (S:List Nat),1<=v/\v<=m/\i=.int .i64 v/\Mb cb B pb A L c (P+2+v*1125899906842624) w0 wr ve vi vn N S/\zj M v N/\N.ends.length=m/\B<=wr.heap.size) (fun i _=>m-(intOf i).toNat)
 case atStart=>exact⟨1,_,_,_,N0,S0,Nat.le_refl _,y5,rfl,⟨sJ.out.own,sJ.out.box,sJ.out.nb,sJ.out.cur.mono (by omega),sJ.out.far⟩,Gz.out,io.out,by have:=ft.out;omega⟩
 case round=>
  obtain⟨v,ve,vi,vn,N,S2,WG,hk,rfl,hm,iY,n_,eP⟩:=hrel;obtain⟨Mz,kB,rfl,-,zb,-⟩:=id hm.own.read.1;obtain⟨rQ,rR,rfl,-,-,-⟩:=id hm.own.read.2.1;obtain⟨Aw,vX,rfl,-,-,-⟩:=id hm.own.read.2.2;obtain⟨g,rfl,-⟩:=hm.own.head (by omega);have Hm:=zh hm;have iL:=zh iY;have io:=zh n_;have jF:=zh eP
  have iN:pb≠cb:=by have:=ft.out;omega
  have tr:wr.cell? ⟨pb,0,none⟩=some (.slice (some ⟨g,0,none⟩) m kB):=by have:=Hm.out.box.cells.1;rwa [io.out]at this
  clear hm iY n_ eP;obtain⟨wo,rfl⟩:∃z,z=wr:=⟨_,rfl⟩
  by_cases hlt:v<m
  ·have m4:IntKind.i64.wrap ((v:Int)+1)=(v:Int)+1:=aF _ (by omega) (by omega);obtain⟨t0,ht0,htr⟩:=iL.out.low WG;have Htr:=zh htr;clear htr;obtain⟨Q,hQ⟩:∃z,z=P+2+v*1125899906842624:=⟨_,rfl⟩
   have HQ:Hid (Q=P+2+v*1125899906842624):=hQ
   have HQ2:Hid (Q<=4500000000000000000):=by show _<=_;omega
   rw[<- hQ]at Hm;clear hQ;obtain⟨p0,s0,FU,hp0⟩:=Hm.out.cur;have Hc9:=zh FU;have Hp0:=zh hp0;have hLs:=FU.len;clear FU hp0;go_wp2_with fail
   refine(xH cb A L c p0 s0 v wo Hc9.out (by have:=HQ2.out;have:=Hp0.out;omega) (by omega)).mono ?_
   rintro e w5 ⟨u0,p1,s1,rfl,Of,As,r_,dS,-,mS⟩;have tp:=aA tr iN w5 mS
   have ke:=zh (Hm.out.seen (P':=Q+2) mS ⟨p1,s1,dS,by have:=Hp0.out;omega⟩ kD ft.out.1 jF.out)
   have zk:Hid (B<=w5.heap.size):=Nat.le_trans jF.out mS.size;have Tj:=zh dS
   have Hp1:Hid (p1<=Q+2):=by show _<=_;have:=Hp0.out;omega
   clear mS dS tr As r_;go_upto_region 6 with(fail);clear tp
   go_loopw [7] (fun x wr=>∃(u p s:Nat),x=.int .i64 u/\u<v/\CM wr cb A L c p s/\p<=Q+281474977759236/\(u≠t0->p+uU L v t0 p s<=Q+281474977759235)/\Mb cb B pb A L c (Q+281474977759236) w0 wr (.slice (some ⟨g,0,none⟩) N.ends.length kB) (.slice rQ N.ids.length rR) (.slice Aw N.aea.length vX) N S2/\B<=wr.heap.size) (fun x wr=>OA L v t0 cb x wr)
   case atStart=>
    refine⟨u0,p1,s1,rfl,by omega,Tj.out,by have:=Hp1.out;omega,fun _=>?_,⟨ke.out.own,ke.out.box,ke.out.nb,ke.out.cur.mono (by omega),ke.out.far⟩,zk.out⟩
    have h1:=Rq (L:=L) (v:=v) (t0:=t0) p1 s1 hLs (by omega) ht0;have h2:=Hp1.out;omega
   case round=>
    obtain⟨u,p,s,rfl,huv,hcq,zg,hfu,hmq,po⟩:=hrel;have Fl:=zh zg;clear zg;have Hcq:=zh hcq;have Hfu:=zh hfu;have Tt:=zh hmq;have jJ:=zh po;clear hcq hfu po;obtain⟨xu,rx⟩:∃z,z=dp N u:=⟨_,rfl⟩
    have Tm:=dh (n:=N) (v:=u) (by have:=io.out;omega)
    rw[<- rx]at Tm;obtain⟨uu,T,fh,-,hR,-,-,LJ⟩:=hmq.own.aef Tm;obtain⟨AU,cU,rfl,-,-,-⟩:=id hR.read
    have tp:wr.cell? ⟨pb,0,none⟩=some (.slice (some ⟨g,0,none⟩) m kB):=by have:=hmq.box.cells.1;rwa [io.out]at this
    have KW:=zh rx;have hum:u<m:=by omega
    clear hmq hR rx Tm LJ
    by_cases h4:4<=xu.length
    ·have hut:u≠t0:=fun e=>by have h5:=Htr.out;rw[<- e,<- KW.out]at h5;omega
     have Zn:2<=v:=by omega
     have e4:((4:Int)<=(xu.length:Int))=True:=by simp;omega
     go_wp2_with fail
     refine(xH cb A L c p s v wr Hcq.out (by have:=HQ2.out;have:=Fl.out;omega) (by omega)).mono ?_
     rintro e w6 ⟨x,p',s',rfl,hx,adV,adW,SG,hl6,iU⟩;obtain⟨rfl,hl7⟩:=hl6 Zn (by omega);have Hl7:=zh hl7;have UU:=zh SG;have HC6:=zh iU;clear hl6 hl7 SG iU tp fh;go_wp2;go_roundw
     case rel=>
      have h3:=Hfu.out hut;have h4:p+1<=Q+281474977759236:=by omega
      refine⟨x,p+1,s',rfl,by omega,UU.out,h4,fun hxt=>?_,Tt.out.seen HC6.out ⟨p+1,s',UU.out,h4⟩ kD ft.out.1 jJ.out,Nat.le_trans jJ.out HC6.out.size⟩
      have h2:=Ax (L:=L) (v:=v) (t0:=t0) (p:=p) (s:=s) (s':=s') (x:=x) hLs (by omega) ht0 hxt Hl7.out;omega
     case measure=>
      obtain⟨q1,q2⟩:=Hcq.out.pOf;obtain⟨q3,q4⟩:=UU.out.pOf;rw[Ec (x:=.int .i64 (u:Int)) (show ¬((u:Int)=(t0:Int))by omega),q1,q2]
      by_cases hxt:x=t0
      ·rw[OB (x:=.int .i64 (x:Int)) (show(x:Int)=(t0:Int)by omega)];omega
      ·rw[Ec (x:=.int .i64 (x:Int)) (show ¬((x:Int)=(t0:Int))by omega),q3,q4]
       have h2:=Ax (L:=L) (v:=v) (t0:=t0) (p:=p) (s:=s) (s':=s') (x:=x) hLs (by omega) ht0 hxt Hl7.out;omega
    ·have e4:((4:Int)<=(xu.length:Int))=False:=by simp;omega
     have aci:Hid ((dp N u).length<4):=by show _<_;rw[<- KW.out];omega
     go_upto_region 8 with(fail);clear tp fh;obtain⟨k0,k1,k2,f0,f1,f2⟩:=Tt.out.box.cells;obtain⟨wq,rfl⟩:∃z,z=wr:=⟨_,rfl⟩
     clear f0 f1 f2;go_wp2_with fail
     refine(nL _ _ _ N u v wq Tt.out.own.read (by rw[io.out];exact hum) (by rw[io.out];exact hlt) ((iL.out.gd.mono (R':=80) (M':=40) (by omega) hM).small (by omega) (by omega))).mono ?_
     rintro e w8 ⟨ZH,ZI,ZJ,S3,rfl,dl,bj⟩;have mc:aa wq w8:=bj;obtain⟨D0,d0,rfl,-,-,-⟩:=id dl.read.1;obtain⟨D1,d1,rfl,-,-,-⟩:=id dl.read.2.1;obtain⟨D2,d2,rfl,-,-,-⟩:=id dl.read.2.2;have D_:=Tt.out.assign (CB.of mc) (Tt.out.cur.since mc) dl Tt.out.box.lt kD ft.out.1 jJ.out;obtain⟨k0,k1,k2,f0,f1,f2⟩:=(Tt.out.box.below mc Tt.out.box.lt).cells;have rA:=zh D_
     have pA:B<=(aed w8 pb (.slice D0 (dK N u v).ends.length d0) (.slice D1 (dK N u v).ids.length d1) (.slice D2 (dK N u v).aea.length d2)).heap.size:=by rw[gQ];exact Nat.le_trans jJ.out mc.below.size
     have xO:=zh pA
     have Bq:=zh (iL.out.step huv (by rw[io.out];exact hlt) aci.out)
     have tH:=zh ((eG N u v).trans io.out);clear D_ dl bj mc pA;go_wp2;go_roundw
     case rel=>exact⟨v+1,_,_,_,dK N u v,S3,by omega,by omega,by first | rfl | go_num,⟨rA.out.own,rA.out.box,rA.out.nb,rA.out.cur.mono (by have:=HQ.out;omega),rA.out.far⟩,Bq.out,tH.out,xO.out⟩
     case measure=>simp[intOf];omega
  ·obtain rfl:v=m:=by omega
   clear tr;obtain⟨k0,k1,k2,-,-,-⟩:=Hm.out.box.cells;have hNN:(N.ends.length:Int)=(v:Int):=by rw[io.out]
   have K2:Hid (Gd 80 M N):=iL.out.gd.mono (by omega) (Nat.le_refl _);have kC:=Hm;have rj:=jF;obtain⟨w5,rfl⟩:∃z,z=wo:=⟨_,rfl⟩
   go_upto_region 9 with(fail);clear hNN;go_wp2_with fail
   refine(vW cb A L c _ B 80 M _ _ _ N S2 w5 kC.out.cur (by omega) kC.out.own kD rj.out K2.out (by omega) (by omega) (by have:=io.out;omega)).mono ?_
   rintro e w6 ⟨Fi,Fj,Fk,N6,S6,rfl,d6,⟨xP,mB⟩,d7,iU⟩;obtain⟨D0,d0,rfl,-,-,-⟩:=id d6.read.1;obtain⟨D1,d1,rfl,-,-,-⟩:=id d6.read.2.1;obtain⟨D2,d2,rfl,-,-,-⟩:=id d6.read.2.2;have aW:=(kC.out.far.mono (Nat.le_refl B)).trans iU
   have ec:=aW.aeh iF.out (by have:=eT.out;omega) (by omega)
   obtain⟨e0,e1,e2,f0,f1,f2⟩:=ec.box.cells;have aP:=d6;rw[eT.out]at aP aW;have c_:=zh (dq lC.out aP d7 aW ja);have GX:=zh xP;have CQ:=zh mB;clear aW ec aP xP mB d7 iU d6 k0 k1 k2;go_wp2;refine bodyPost_ret (v:=.agg #[.slice D0 N6.ends.length d0,.slice D1 N6.ids.length d1,.slice D2 N6.aea.length d2]) (by simp[results,Tryz.results93,go_sem, *]) rfl ?_;obtain⟨r1,r2,r3⟩:=c_.out
   exact⟨_,_,_,N6,S6,rfl,r1,⟨CQ.out.mono (by omega) (Nat.le_refl _),by have:=io.out;have:=GX.out.len;omega⟩,r2.mono (by omega),r3⟩
theorem Gd.aeJ {R M:Nat} {n:ak} {v u:Nat} (h:Gd R M n) (hv:v<n.ends.length) (hu:u<n.ends.length) (Zu:v≠u) (h1:(dp n v).length<5) (h2:(dp n u).length<5) (hR:5<=R):Gd R M (dK n v u):=by
 refine⟨by rw[eG];exact h.ends,fun k es hk=>?_,h.ids,by rw[eG];exact h.aea,vY h.wf hv hu⟩
 have h3:=pB hk
 have mh:k<n.ends.length:=by have:=an hk;rwa [eG]at this
 rw[<- h3,lB hv hu];have h4:=h.row k _ (dh mh)
 by_cases a:k=u
 ·subst a
  rw[if_pos rfl,if_neg (Ne.symm Zu)];omega
 ·rw[if_neg a]
  by_cases b:k=v
  ·subst b;rw[if_pos rfl];omega
  ·rw[if_neg b];omega
theorem pC (cb:Nat) (A:Option Addr) (L c P aU M:Nat) (w:World) (hc:dm w cb A L c P) (hP:P<=4300000000000000000) (yN:1<=aU) (nM:aU<=M) (hM:M<=40):
  Calls Tryz.prog 191 #[.pointer (some ⟨cb,0,none⟩),.int .i64 aU] w (vB cb w.heap.size A L c (P+80000000000000000) w (TN 100 M)):=by
 have ja:=hc.lt;obtain⟨B,tL⟩:∃z,z=w.heap.size+1:=⟨_,rfl⟩
 obtain⟨w0,cG⟩:∃z,z=w.alloc (.cells #[.slice none 0 0,.slice none 0 0,.slice none 0 0] 27):=⟨_,rfl⟩
 have bB:aa w w0:=by rw[cG];exact ag _ (ad _)
 have il:w0.heap.size=B:=by rw[cG,tL];simp
 have gY:bx w0 w.heap.size (.slice none 0 0) (.slice none 0 0) (.slice none 0 0):=by
  rw[cG];show(w.heap.push _)[w.heap.size]?=_
  rw[Array.getElem?_push_size]
 have iF:=zh gY;have lC:=zh bB;have bK:=zh cG;have eT:=zh tL;have mX:=zh il;have GV:=zh (hc.since bB);clear gY bB cG hc tL il
 go_enter Tryz.func191,Tryz.ntmps191
 go_upto_region 1 with(fail);rw[<- bK.out];go_wp2_with fail;refine(xQ cb A L c P aU M w0 GV.out (by omega) yN nM hM).mono ?_;rintro e w1 ⟨ZP,ZQ,ZR,N0,S0,rfl,ho,⟨GW,B6⟩,mY,mS⟩;rw[mX.out]at ho mS;obtain⟨m,n_⟩:∃m,N0.ends.length=m:=⟨_,rfl⟩
 have Xf:m<=M:=by rw[<- n_];exact GW.ends
 have y5:0<m:=by omega
 obtain⟨A1,c1,rfl,-,rM,-⟩:=id ho.read.1;obtain⟨AI,cI,rfl,-,-,-⟩:=id ho.read.2.1;obtain⟨AN,cN,rfl,-,-,-⟩:=id ho.read.2.2;obtain⟨w3,iR⟩:∃z,z=w1.alloc (.cells #[.slice A1 N0.ends.length c1,.slice AI N0.ids.length cI,.slice AN N0.aea.length cN] 27):=⟨_,rfl⟩
 obtain⟨pb,gG⟩:∃z,z=w1.heap.size:=⟨_,rfl⟩
 have n7:aa w1 w3:=by rw[iR];exact ag _ (ad _)
 have iE:B<=w1.heap.size:=by rw[<- mX.out];exact mS.size
 have hmb:Mb cb B pb A L c (P+72057594037927936) w0 w3 (.slice A1 N0.ends.length c1) (.slice AI N0.ids.length cI) (.slice AN N0.aea.length cN) N0 S0:=
  ⟨ho.keep n7.below,by rw[iR,gG];exact bD.new _ _ _ _ _,fun hj=>by have:=(ho.range _ hj).2;omega,mY.since n7,mS.trans ((CB.of n7).mono iE)⟩
 have sJ:=zh hmb
 have ft:Hid (B<=pb/\pb<w3.heap.size):=⟨by rw[gG];exact iE,by rw[iR,gG];simp⟩
 have xc:=zh iR;have sM:=zh gG;have Gz:=zh GW;have Vj:=zh n_;have fe:=hmb.box.cells.1
 have kD:cb<B:=by have:=eT.out;omega
 have iN:pb≠cb:=by have:=ft.out;omega
 rw[n_]at fe;have m0:IntKind.i64.wrap (1+(m:Int))=1+(m:Int):=aF _ (by omega) (by omega);clear hmb iR gG GW n_ ho n7 B6 iE mY mS;go_upto_region 2 with(fail);rw[<- xc.out,<- sM.out];go_wp2_with fail;refine(dJ cb A L c _ (1+(m:Int)) w3 sJ.out.cur (by omega) (by omega)).mono ?_;rintro e w4 ⟨x4,rfl,hx4,pD,pY⟩;have hx5:x4<=m:=by omega
 have sG:=zh (sJ.out.seen pY pD kD ft.out.1 (by have:=ft.out;omega))
 have Qg:Hid (B<=w4.heap.size):=by show _<=_;have:=ft.out;have:=pY.size;omega
 clear pD pY fe hx4;go_upto_region 3 with(fail);obtain⟨Q,hQ⟩:∃z,z=P+72057594037927936+2:=⟨_,rfl⟩
 have HQ:Hid (Q=P+72057594037927936+2):=hQ;rw[<- hQ]at sG;clear hQ
 go_loopw [6] (fun i wr=>∃(k:Nat) (ve vi vn:Value) (N:ak) (S:List Nat),k<=m/\i=.int .i64 k/\Mb cb B pb A L c (Q+4*(m-k)) w0 wr ve vi vn N S/\Gd 100 M N/\N.ends.length=m/\B<=wr.heap.size) (fun i _=>(intOf i).toNat)
 case atStart=>exact⟨x4,_,_,_,N0,S0,hx5,rfl,⟨sG.out.own,sG.out.box,sG.out.nb,sG.out.cur.mono (by omega),sG.out.far⟩,Gz.out,Vj.out,Qg.out⟩
 case round=>
  obtain⟨k,ve,vi,vn,N,S2,hk,rfl,hm,iY,n_,eP⟩:=hrel;obtain⟨Mz,kB,rfl,-,zb,-⟩:=id hm.own.read.1;obtain⟨rQ,rR,rfl,-,-,-⟩:=id hm.own.read.2.1;obtain⟨Aw,vX,rfl,-,-,-⟩:=id hm.own.read.2.2;obtain⟨g,rfl,-⟩:=hm.own.head (by omega);have Hm:=zh hm;have iL:=zh iY;have io:=zh n_;have jF:=zh eP;clear hm iY n_ eP
  by_cases hlt:0<k
  ·have e0:((0:Int)<(k:Int))=True:=by simp;omega
   have m4:IntKind.i64.wrap ((k:Int)-1)=(k:Int)-1:=aF _ (by omega) (by omega)
   have lp:=zh (show wr.cell? ⟨pb,0,none⟩=some (.slice (some ⟨g,0,none⟩) m kB)from by obtain⟨a,-⟩:=Hm.out.box.cells;rw[io.out]at a;exact a)
   obtain⟨wo,rfl⟩:∃z,z=wr:=⟨_,rfl⟩
   go_upto_region 5 with(fail);refine aL (fun W=>W.cell? ⟨pb,0,none⟩=some (.slice (some ⟨g,0,none⟩) m kB)) 10 [false,false,false,false,true,false,false,false,false,true] (by kernel_rfl) (by kernel_rfl) (show(World.drew wo).cell? ⟨pb,0,none⟩=some (.slice (some ⟨g,0,none⟩) m kB)from lp.out) ?_
   simp only[eE,ea,zT]
   iterate 8 (apply bV rfl;(intro W hW;(have k0:=hW);go_simp;with_reducible rfl);simp only[zA])
   obtain⟨W,dE⟩:∃W,W=World.drew wo:=⟨_,rfl⟩
   rw[<- dE];have hW:=(show(World.drew wo).cell? ⟨pb,0,none⟩=some (.slice (some ⟨g,0,none⟩) m kB)from lp.out);rw[<- dE]at hW;have gA:=zh dE;clear dE;refine Or.inl ⟨rfl,?_⟩
   go_simp
   (with_reducible refine(dJ cb A L c (Q+4*(m-k)) (m:Int) W (by rw[gA.out];exact Hm.out.cur.since (aj (ad _))) (by have:=HQ.out;omega) (by omega)).mono ?_)
   rintro e W' ⟨a,rfl,ha,fh,hC⟩;refine⟨_,rfl,aA hW iN _ hC,?_⟩
   replace hW:=aA hW iN _ hC
   have qg:aa wo W:=(by rw[gA.out];exact aj (ad _))
   have xG:=zh (((eF.refl cb wo).after qg).trans hC);have GS:=zh fh;have Ha:=zh ha;clear hC fh qg ha;obtain⟨wp,rfl⟩:∃z,z=W':=⟨_,rfl⟩
   (try simp only[zA])
   refine Or.inl ⟨rfl,?_⟩
   go_simp
   (with_reducible refine(dJ cb A L c (Q+4*(m-k)+2) (m:Int) _ GS.out (by have:=HQ.out;omega) (by omega)).mono ?_)
   rintro e W' ⟨b,rfl,hb,fh,hC⟩;refine⟨_,rfl,aA hW iN _ hC,?_⟩
   replace hW:=aA hW iN _ hC
   have ke:=zh (Hm.out.seen (xG.out.trans hC) fh kD ft.out.1 jF.out);have zk:Hid (B<=W'.heap.size):=Nat.le_trans jF.out (xG.out.trans hC).size;clear hC fh
   (try simp only[zA])
   simp only[bz]
   have Jn:a<m:=by have:=Ha.out;omega
   have ZS:b<m:=by omega
   clear hb;obtain⟨w5,rfl⟩:∃z,z=W':=⟨_,rfl⟩
   have ZT:=zh hW;clear hW;obtain⟨xa,GZ⟩:∃z,z=dp N a:=⟨_,rfl⟩
   obtain⟨xb,G0⟩:∃z,z=dp N b:=⟨_,rfl⟩
   have Qh:=dh (n:=N) (v:=a) (by have:=io.out;omega)
   have Rr:=dh (n:=N) (v:=b) (by have:=io.out;omega)
   rw[<- GZ]at Qh;rw[<- G0]at Rr;have Ke:xa.length<=100:=iL.out.row _ _ Qh;have tB:xb.length<=100:=iL.out.row _ _ Rr;obtain⟨ua,Ta,Rs,-,ZU,-,-,-⟩:=ke.out.own.aef Qh;obtain⟨AUa,cUa,rfl,-,-,-⟩:=id ZU.read;obtain⟨ub,Tb,OC,-,ZV,-,-,-⟩:=ke.out.own.aef Rr;obtain⟨AUb,cUb,rfl,-,-,-⟩:=id ZV.read;have Rt:=zh GZ;have Vk:=zh G0;have Hxa:=zh Qh;have pa:=ae Rs;have pq:=ae OC;have p0:=ae ZT.out;have p1:=ae ke.out.box.cells.2.1;have p2:=ae ke.out.box.cells.2.2.1
   have J3:Hid (aQ w5 (.slice (some ⟨g,0,none⟩) m kB) (.slice rQ N.ids.length rR) (.slice Aw N.aea.length vX) N):=by show aQ _ _ _ _ _;have h9:=ke.out.own.read;rw[io.out]at h9;exact h9
   clear GZ G0 Qh Rr ZU ZV Rs OC
   by_cases te:a=b
   ·have e1:((a:Int)=(b:Int))=True:=by simp;omega
    have q0:=p0 w5 (ad _);clear p0 p1 p2 pa pq;go_wp2;go_roundw
    case rel=>exact⟨k-1,_,_,_,N,S2,by omega,by rw[show((k-1:Nat):Int)=(k:Int)-1 by omega],(⟨ke.out.own,ke.out.box,ke.out.nb,ke.out.cur.mono (by omega),ke.out.far⟩),iL.out,io.out,zk.out⟩
    case measure=>simp[intOf];omega
   ·have e1:((a:Int)=(b:Int))=False:=by simp;omega
    have q0:=p0 w5 (ad _);have q1:=p1 w5 (ad _);have q2:=p2 w5 (ad _);go_wp2_with fail;refine(iZ _ _ _ N a xa w5 J3.out Hxa.out (by omega)).mono ?_;rintro e w6 ⟨u6,rfl,d6,Fm⟩;have Bl:aa w5 w6:=Fm;have nN:=zh (ke.out.since Bl kD ft.out.1 zk.out);have zl:Hid (B<=w6.heap.size):=Nat.le_trans zk.out Bl.below.size;obtain⟨A6,c6,rfl,-,-,-⟩:=id d6.ints;have Ho6:=zh d6;clear d6 q0 q1 q2;go_wp2_with fail
    refine(pS _ (xa.map (·.1)) (b:Int) w6 (by have h9:=Ho6.out.ints;rw[List.length_map]at h9;exact h9)).mono ?_
    rintro e w7 ⟨rfl,pE⟩;subst pE;have q0:=p0 w6 Bl;have q1:=p1 w6 Bl;have q2:=p2 w6 Bl;have qa:=pa w6 Bl;have qb:=pq w6 Bl;clear p0 p1 p2 pa pq Bl Fm;cases hh:iB (xa.map (·.1)) (b:Int)
    ·by_cases h5:xa.length<5
     ·have e5:((xa.length:Int)<5)=True:=by simp;omega
      by_cases h6:xb.length<5
      ·have e6:((xb.length:Int)<5)=True:=by simp;omega
       go_wp2_with fail
       refine(nL _ _ _ N a b w6 (by have h9:=nN.out.own.read;rw[io.out]at h9;exact h9) (by rw[io.out];exact Jn) (by rw[io.out];exact ZS) ((iL.out.mono (R':=100) (M':=40) (by omega) hM).small (by omega) (by omega))).mono ?_
       rintro e w8 ⟨ZH,ZI,ZJ,S3,rfl,dl,bj⟩;have mc:aa w6 w8:=bj;obtain⟨D0,d0,rfl,-,-,-⟩:=id dl.read.1;obtain⟨D1,d1,rfl,-,-,-⟩:=id dl.read.2.1;obtain⟨D2,d2,rfl,-,-,-⟩:=id dl.read.2.2;have D_:=nN.out.assign (CB.of mc) (nN.out.cur.since mc) dl nN.out.box.lt kD ft.out.1 zl.out;clear q0 q1 q2 qa qb;obtain⟨k0,k1,k2,f0,f1,f2⟩:=(nN.out.box.below mc nN.out.box.lt).cells;have rA:=zh D_
       have pA:B<=(aed w8 pb (.slice D0 (dK N a b).ends.length d0) (.slice D1 (dK N a b).ids.length d1) (.slice D2 (dK N a b).aea.length d2)).heap.size:=by rw[gQ];exact Nat.le_trans zl.out mc.below.size
       have xO:=zh pA
       have Bq:=zh (iL.out.aeJ (v:=a) (u:=b) (by rw[io.out];exact Jn) (by rw[io.out];exact ZS) te (by rw[<- Rt.out];omega) (by rw[<- Vk.out];omega) (by omega))
       have tH:=zh ((eG N a b).trans io.out);clear D_ dl bj mc pA;go_wp2;go_roundw
       case rel=>exact⟨k-1,_,_,_,dK N a b,S3,by omega,by rw[show((k-1:Nat):Int)=(k:Int)-1 by omega],⟨rA.out.own,rA.out.box,rA.out.nb,rA.out.cur.mono (by omega),rA.out.far⟩,Bq.out,tH.out,xO.out⟩
       case measure=>simp[intOf];omega
      ·have e6:((xb.length:Int)<5)=False:=by simp;omega
       go_wp2;go_roundw
       case rel=>exact⟨k-1,_,_,_,N,S2,by omega,by rw[show((k-1:Nat):Int)=(k:Int)-1 by omega],(⟨nN.out.own,nN.out.box,nN.out.nb,nN.out.cur.mono (by omega),nN.out.far⟩),iL.out,io.out,zl.out⟩
       case measure=>simp[intOf];omega
     ·have e5:((xa.length:Int)<5)=False:=by simp;omega
      go_wp2;go_roundw
      case rel=>exact⟨k-1,_,_,_,N,S2,by omega,by rw[show((k-1:Nat):Int)=(k:Int)-1 by omega],(⟨nN.out.own,nN.out.box,nN.out.nb,nN.out.cur.mono (by omega),nN.out.far⟩),iL.out,io.out,zl.out⟩
      case measure=>simp[intOf];omega
    ·go_wp2;go_roundw
     case rel=>exact⟨k-1,_,_,_,N,S2,by omega,by rw[show((k-1:Nat):Int)=(k:Int)-1 by omega],(⟨nN.out.own,nN.out.box,nN.out.nb,nN.out.cur.mono (by omega),nN.out.far⟩),iL.out,io.out,zl.out⟩
     case measure=>simp[intOf];omega
  ·obtain rfl:k=0:=by omega
   obtain⟨k0,k1,k2,-,-,-⟩:=Hm.out.box.cells;have K2:=iL;have kC:=Hm;have rj:=jF;obtain⟨w5,rfl⟩:∃z,z=wr:=⟨_,rfl⟩
   go_upto_region 8 with(fail);go_wp2_with fail
   refine(vW cb A L c _ B 100 M _ _ _ N S2 w5 kC.out.cur (by have:=HQ.out;omega) kC.out.own kD rj.out K2.out (by omega) (by omega) (by have:=io.out;omega)).mono ?_
   rintro e w6 ⟨Fi,Fj,Fk,N6,S6,rfl,d6,⟨xP,mB⟩,d7,iU⟩;obtain⟨D0,d0,rfl,-,-,-⟩:=id d6.read.1;obtain⟨D1,d1,rfl,-,-,-⟩:=id d6.read.2.1;obtain⟨D2,d2,rfl,-,-,-⟩:=id d6.read.2.2;have aW:=(kC.out.far.mono (Nat.le_refl B)).trans iU
   have ec:=aW.aeh iF.out (by have:=eT.out;omega) (by omega)
   obtain⟨e0,e1,e2,f0,f1,f2⟩:=ec.box.cells;have aP:=d6;rw[eT.out]at aP aW;have c_:=zh (dq lC.out aP d7 aW ja);have GX:=zh xP;have CQ:=zh mB;clear aW ec aP xP mB d7 iU d6 k0 k1 k2;go_wp2;refine bodyPost_ret (v:=.agg #[.slice D0 N6.ends.length d0,.slice D1 N6.ids.length d1,.slice D2 N6.aea.length d2]) (by simp[results,Tryz.results191,go_sem, *]) rfl ?_;obtain⟨r1,r2,r3⟩:=c_.out
   exact⟨_,_,_,N6,S6,rfl,r1,⟨CQ.out.mono (by omega) (Nat.le_refl _),by have:=io.out;have:=GX.out.len;omega⟩,r2.mono (by have:=HQ.out;omega),r3⟩
end Go.Proofs.YtgmdpppljkmabaaGreat
