/- Parts of the proof: walks of functions and plain laws. -/
import Derived.Test.YtnioemnkfojmkaaGreatP28
set_option maxRecDepth 100000
set_option maxHeartbeats 16000000
namespace Go.Proofs.YtnioemnkfojmkaaGreat
open Go Go.RowKit
def adJ (w:World) (e:Ending) (w':World):Prop:=∃(a b:Value) (p:aq) (ve vi vn:Value) (N:ao) (S:List Nat),e=.returned (.tuple #[.agg #[.int .i64 p.labels,.int .i64 p.degree,a,b],.agg #[ve,vi,vn]])/\fY w' w.heap.size a b p/\wZ p/\aw w' w.heap.size ve vi vn N S/\Bd N/\Below w.heap.size w w'
def Y7 (w:World) (e:Ending) (w':World):Prop:=∃(a b:Value) (p:aq) (ve vi vn:Value) (N:ao) (S:List Nat) (v i:Int),e=.returned (.tuple #[.agg #[.int .i64 p.labels,.int .i64 p.degree,a,b],.agg #[ve,vi,vn],.int .i64 v,.int .i64 i])/\fY w' w.heap.size a b p/\wZ p/\aw w' w.heap.size ve vi vn N S/\Bd N/\Below w.heap.size w w'
theorem te (v:Value) (L:Nat) (w:World) (h:YT w v L) (hL:L<=1048576):
  Calls Tryz.prog 18 #[v] w (adJ w):=by
 obtain⟨A,c,rfl,hLc,DJ,hby⟩:=h;obtain⟨rb,gh⟩:=J_ w.heap.size
 obtain⟨rn,ME⟩:=J_ (rb+1)
 obtain⟨Ch,rY⟩:=J_ (w.alloc (.cells #[.int .i64 0,.int .i64 0,.slice none 0 0,.slice none 0 0] 26))
 have Jr:ab w Ch:=by rw[rY];exact ad _ (aa _)
 have yx:Ch.heap.size=rn:=by rw[rY,ME,gh];simp
 obtain⟨w0,bj⟩:=J_ (Ch.alloc (.cells #[.slice none 0 0,.slice none 0 0,.slice none 0 0] 30))
 have rP:ab Ch w0:=by rw[bj];exact ad _ (aa _)
 have aK:ab w w0:=Jr.after rP
 have ks:aT w0 rb 0 0 (.slice none 0 0) (.slice none 0 0):=(show aT Ch rb 0 0 (.slice none 0 0) (.slice none 0 0)by rw[rY,gh];exact aT.fresh _ _ _ _ _).agU rP
 have PV:bD w0 rn (.slice none 0 0) (.slice none 0 0) (.slice none 0 0):=by
  rw[bj,<- yx];show(Ch.heap.push _)[Ch.heap.size]?=_
  rw[Zbc]
 have e_:w0.heap.size=rn+1:=by rw[bj,<- yx];simp
 obtain⟨w1,lD⟩:=J_ (w0.alloc (.cells #[.slice A L c,.int .i64 0,.int .u64 0] 64))
 obtain⟨cb,FJ⟩:=J_ w0.heap.size
 have dw:ab w0 w1:=by rw[lD];exact ad _ (aa _)
 have TT:w1.heap[cb]?=some (.cells #[.slice A L c,.int .i64 0,.int .u64 0] 64):=by
  rw[lD,FJ];show(w0.heap.push _)[w0.heap.size]?=_
  rw[Zbc]
 obtain⟨Jw,jR,wM,di,UM,cD,QZ⟩:=F_ (MP hby (aK.after dw) zO TT hL hLc) (ks.agU dw) (show bD w1 rn (.slice none 0 0) (.slice none 0 0) (.slice none 0 0)from PV.since dw) (aK.after dw) rY bj lD;have Hcb:Hid (cb=w0.heap.size):=FJ;have fX:=zh gh
 have HE:Hid (rn=rb+1/\cb=rn+1/\w1.heap.size=cb+1):=⟨ME,zO,by rw[lD,FJ];simp⟩
 clear hby aK Jr rP dw ks PV TT rY bj lD FJ e_ yx gh ME
 go_enter Tryz.func18,Tryz.ntmps18
 go_upto_region 1 with(fail);rw[<- UM.out,<- cD.out,<- fX.out,<- HE.out.1];go_upto_region 2 with(fail);rw[<- QZ.out,<- Hcb.out];go_wp2_with fail;refine(Nd cb A L c 0 7 w1 Jw zO zO).mono ?_;rintro e w2 ⟨a,b,p,ve,vi,vn,N,S,rfl,yh,qM,eB,Cu,f8,hC⟩
 obtain⟨A1,c1,rfl⟩:∃A c,a=.slice A p.nodes.length c:=by obtain⟨TN,TE,q1,-⟩:=yh;obtain⟨A,c,e,-⟩:=q1.form;exact⟨A,c,e⟩
 obtain⟨A2,c2,rfl⟩:∃A c,b=.slice A p.agW.length c:=by obtain⟨TN,TE,-,q1,-⟩:=yh;obtain⟨A,c,e,-⟩:=q1.form;exact⟨A,c,e⟩
 obtain⟨D0,d0,rfl,-,-,-⟩:=id eB.read.1;obtain⟨D1,d1,rfl,-,-,-⟩:=id eB.read.2.1;obtain⟨D2,d2,rfl,-,-,-⟩:=id eB.read.2.2;obtain⟨lb,dg,ns,es⟩:=p;have hHE:=HE.out;have aS:aT w2 rb 0 0 (.slice none 0 0) (.slice none 0 0):=jR.blk (hC.block rb zO zO);have rC:bD w2 rn (.slice none 0 0) (.slice none 0 0) (.slice none 0 0):=(hC.block rn zO zO).trans wM;obtain⟨r0,r1,r2,r3⟩:=aS.cells;have f0:=frozen_of_row w2 _ 0 _ _ aS;have f1:=frozen_of_row w2 _ 1 _ _ aS;have f2:=frozen_of_row w2 _ 2 _ _ aS;have f3:=frozen_of_row w2 _ 3 _ _ aS;obtain⟨s0,s1,s2,t0,t1,t2⟩:=rC.box.cells
 have v1:(rn=rb)=False:=by simp;omega
 have v2:(rb=rn)=False:=by simp;omega
 obtain⟨Hop,IC,Cs,Hbd,HC⟩:=D_ yh qM eB Cu hC;clear yh qM eB Cu f8 hC aS rC hHE;go_wp2;refine bodyPost_ret (v:=.tuple #[.agg #[.int .i64 lb,.int .i64 dg,.slice A1 ns.length c1,.slice A2 es.length c2],.agg #[.slice D0 N.ends.length d0,.slice D1 N.ids.length d1,.slice D2 N.agT.length d2]]) (by simp[results,Tryz.results18,go_sem, *]) rfl ?_;show adJ w _ (agX (ag4 w2 rb (.int .i64 lb) (.int .i64 dg) (.slice A1 ns.length c1) (.slice A2 es.length c2)) rn (.slice D0 N.ends.length d0) (.slice D1 N.ids.length d1) (.slice D2 N.agT.length d2))
 have hHE:=HE.out;have gh:=fX.out;have fD:=di.below.size;have pP:C3 cb rb rn w2 (agX (ag4 w2 rb (.int .i64 lb) (.int .i64 dg) (.slice A1 ns.length c1) (.slice A2 es.length c2)) rn (.slice D0 N.ends.length d0) (.slice D1 N.ids.length d1) (.slice D2 N.agT.length d2)):=(C3.ag4 cb rb rn w2 _ _ _ _).trans (C3.agX cb rb rn _ _ _ _);exact⟨_,_,⟨lb,dg,ns,es⟩,_,_,_,N,S,rfl,(pP.ahz zO zO zO Hop).mono fD,IC,(pP.net zO zO zO Cs).mono fD,Hbd,((C3.of HC).trans pP).below ⟨di.below,zO,zO,zO⟩⟩
theorem xp (v:Value) (L:Nat) (w:World) (h:YT w v L) (hL:L<=1048576):
  Calls Tryz.prog 24 #[v] w (Y7 w):=by
 obtain⟨A,c,rfl,hLc,DJ,hby⟩:=h;obtain⟨rb,gh⟩:=J_ w.heap.size
 obtain⟨rn,ME⟩:=J_ (rb+1)
 obtain⟨Ch,rY⟩:=J_ (w.alloc (.cells #[.int .i64 0,.int .i64 0,.slice none 0 0,.slice none 0 0] 26))
 have Jr:ab w Ch:=by rw[rY];exact ad _ (aa _)
 have yx:Ch.heap.size=rn:=by rw[rY,ME,gh];simp
 obtain⟨w0,bj⟩:=J_ (Ch.alloc (.cells #[.slice none 0 0,.slice none 0 0,.slice none 0 0] 30))
 have rP:ab Ch w0:=by rw[bj];exact ad _ (aa _)
 have aK:ab w w0:=Jr.after rP
 have ks:aT w0 rb 0 0 (.slice none 0 0) (.slice none 0 0):=(show aT Ch rb 0 0 (.slice none 0 0) (.slice none 0 0)by rw[rY,gh];exact aT.fresh _ _ _ _ _).agU rP
 have PV:bD w0 rn (.slice none 0 0) (.slice none 0 0) (.slice none 0 0):=by
  rw[bj,<- yx];show(Ch.heap.push _)[Ch.heap.size]?=_
  rw[Zbc]
 have e_:w0.heap.size=rn+1:=by rw[bj,<- yx];simp
 obtain⟨w1,lD⟩:=J_ (w0.alloc (.cells #[.slice A L c,.int .i64 0,.int .u64 0] 64))
 obtain⟨cb,FJ⟩:=J_ w0.heap.size
 have dw:ab w0 w1:=by rw[lD];exact ad _ (aa _)
 have TT:w1.heap[cb]?=some (.cells #[.slice A L c,.int .i64 0,.int .u64 0] 64):=by
  rw[lD,FJ];show(w0.heap.push _)[w0.heap.size]?=_
  rw[Zbc]
 obtain⟨Jw,jR,wM,di,UM,cD,QZ⟩:=F_ (MP hby (aK.after dw) zO TT hL hLc) (ks.agU dw) (show bD w1 rn (.slice none 0 0) (.slice none 0 0) (.slice none 0 0)from PV.since dw) (aK.after dw) rY bj lD;have Hcb:Hid (cb=w0.heap.size):=FJ;have fX:=zh gh
 have HE:Hid (rn=rb+1/\cb=rn+1/\w1.heap.size=cb+1):=⟨ME,zO,by rw[lD,FJ];simp⟩
 clear hby aK Jr rP dw ks PV TT rY bj lD FJ e_ yx gh ME
 go_enter Tryz.func24,Tryz.ntmps24
 go_upto_region 1 with(fail);rw[<- UM.out,<- cD.out,<- fX.out,<- HE.out.1];go_upto_region 2 with(fail);rw[<- QZ.out,<- Hcb.out];go_wp2_with fail;refine(Nd cb A L c 0 6 w1 Jw zO zO).mono ?_;rintro e w2 ⟨a,b,p,ve,vi,vn,N,S,rfl,yh,qM,eB,Cu,f8,hC⟩
 obtain⟨A1,c1,rfl⟩:∃A c,a=.slice A p.nodes.length c:=by obtain⟨TN,TE,q1,-⟩:=yh;obtain⟨A,c,e,-⟩:=q1.form;exact⟨A,c,e⟩
 obtain⟨A2,c2,rfl⟩:∃A c,b=.slice A p.agW.length c:=by obtain⟨TN,TE,-,q1,-⟩:=yh;obtain⟨A,c,e,-⟩:=q1.form;exact⟨A,c,e⟩
 obtain⟨D0,d0,rfl,-,-,-⟩:=id eB.read.1;obtain⟨D1,d1,rfl,-,-,-⟩:=id eB.read.2.1;obtain⟨D2,d2,rfl,-,-,-⟩:=id eB.read.2.2;obtain⟨lb,dg,ns,es⟩:=p;obtain⟨pb,dV⟩:=J_ w2.heap.size
 obtain⟨w3,ib⟩:=J_ (w2.alloc (.cells #[.int .i64 lb,.int .i64 dg,.slice A1 ns.length c1,.slice A2 es.length c2] 26))
 have oi:ab w2 w3:=by rw[ib];exact ad _ (aa _)
 have qt:w3.heap.size=pb+1:=by rw[ib,dV];simp
 obtain⟨w4,km⟩:=J_ (w3.alloc (.cells #[.slice D0 N.ends.length d0,.slice D1 N.ids.length d1,.slice D2 N.agT.length d2] 30))
 have oh:ab w3 w4:=by rw[km];exact ad _ (aa _)
 have VX:w4.heap.size=pb+2:=by rw[km];simp;omega
 have Ce:=oi.after oh
 have zj:aT w4 pb lb dg (.slice A1 ns.length c1) (.slice A2 es.length c2):=(show aT w3 pb lb dg (.slice A1 ns.length c1) (.slice A2 es.length c2)by rw[ib,dV];exact aT.fresh _ _ _ _ _).agU oh
 have hnx:bB w4 (pb+1) (.slice D0 N.ends.length d0) (.slice D1 N.ids.length d1) (.slice D2 N.agT.length d2):=by rw[km,<- qt];exact bB.new _ _ _ _ _
 have hzC:=hC.size;have hHE:=HE.out;have HE5:Hid (rb≠cb/\rn≠cb/\rb≠rn/\rb<cb/\rn<cb\/rb≠cb/\rn≠cb/\rb≠rn):=.inr ⟨zO,zO,zO⟩
 have Fp:Hid (dj w4 cb A L c 600000000000000000):=(f8.since Ce).mono zO;have j5:Hid (aT w4 rb 0 0 (.slice none 0 0) (.slice none 0 0)):=(jR.blk (hC.block rb zO zO)).agU Ce;have Hn4:Hid (bD w4 rn (.slice none 0 0) (.slice none 0 0) (.slice none 0 0)):=bD.since ((hC.block rn zO zO).trans wM) Ce;have afN:Hid (fY w4 w1.heap.size (.slice A1 ns.length c1) (.slice A2 es.length c2) ⟨lb,dg,ns,es⟩):=yh.since Ce;have adK:Hid (aw w4 w1.heap.size (.slice D0 N.ends.length d0) (.slice D1 N.ids.length d1) (.slice D2 N.agT.length d2) N S):=eB.agU Ce.below;obtain⟨IC,Hbd⟩:=A_ qM Cu
 have LC:Below w.heap.size w w4:=by
  have h1:CB cb w.heap.size w1 w2:=hC.mono di.below.size
  have h2:Below w.heap.size w1 w2:=h1.below (zX fX.out)
  exact Zbw (Zbw di.below h2) (Ce.below.mono (Zak di.below.size hzC))
 have ZD:Hid (cb<w1.heap.size/\rb<w1.heap.size/\rn<w1.heap.size/\(w.heap.size<=w1.heap.size/\w.heap.size<=w4.heap.size/\(Below w.heap.size w w4/\w.heap.size<=cb/\w.heap.size<=rb/\w.heap.size<=rn))):=⟨zO,zO,zO,di.out.below.size,LC.size,LC,zX fX.out,zX fX.out,zX fX.out⟩
 have HzB:Hid (w1.heap.size<=w4.heap.size):=Zak hzC Ce.below.size;have HY:Hid (∀W,C3 cb rb rn w4 W->aT W pb lb dg (.slice A1 ns.length c1) (.slice A2 es.length c2)/\bB W (pb+1) (.slice D0 N.ends.length d0) (.slice D1 N.ids.length d1) (.slice D2 N.agT.length d2)):=fun W hW=>⟨zj.blk (hW.block pb zj.lt zO zO zO),hnx.blk (hW.block (pb+1) hnx.lt zO zO zO)⟩
 obtain⟨yI,V6,dG⟩:=B_ ib km dV;have HzP:Hid (w1.heap.size<=w2.heap.size):=hzC;clear yh qM eB Cu f8 hC dV ib km oi qt oh VX Ce zj hnx hzC hHE LC;go_upto_region 3 with(fail);rw[<- yI.out,<- V6.out,<- dG.out];obtain⟨k0,k1,k2,-,-,-⟩:=(HY w4 (C3.refl _ _ _ _)).2.cells;go_wp2_with fail;refine(Ac _ _ _).mono ?_;rintro e wq ⟨rfl,rfl⟩;go_wp2_with fail
 refine(dF cb A L c _ (max (N.ends.length:Int) 1) w4 Fp.out zO (zX Hbd.out.ends)).mono ?_
 rintro e w5 ⟨v,rfl,hv,qL,Bp⟩;have WS:=zh qL;have Ml:Hid (bO cb w4 w5):=Bp;clear hv qL Bp k0 k1 k2;obtain⟨k0,k1,k2,-,-,-⟩:=(HY w5 (C3.of Ml)).2.cells
 go_upto_if 29 with(fail)
 go_cut [10]from 29 to 41 (fun y wx=>∃i:Nat,y=.int .i64 i/\dj wx cb A L c (600000000000000000+10)/\bO cb w4 wx)
 case first=>
  by_cases V3:v<N.ends.length
  ·have g1:((v:Int)<(N.ends.length:Int))=True:=by simp;omega
   obtain⟨ge,hge⟩:=au N.ends v V3;have Is:=adK.seen Ml ZD.1;obtain⟨g,rfl,-⟩:=Is.head zO;obtain⟨ua,Ta,Vh,-,SI,hbg,-,-⟩:=Is.ag0 hge;obtain⟨AU,cU,rfl,-,-,-⟩:=id SI.read
   have MF:g≠cb:=zX ZD.out.1
   have gM:ge.length<=200:=Hbd.row _ _ hge
   have jg:pb+1≠cb:=by have:=ZD.1;have:=HzP.out;have h8:=dG.out;omega
   have lF:=zh (And.intro k0 Vh);clear hge Is Vh SI hbg k0 k1 k2;go_upto_region 6 with(fail);refine az (fun W=>W.cell? ⟨pb+1,0,none⟩=some (.slice (some ⟨g,0,none⟩) N.ends.length d0)/\W.cell? ⟨g,v,none⟩=some (.slice AU ge.length cU)) 12 [false,false,false,false,false,false,false,false,true,true,true,true] zK zK (show(World.drew w5).cell? ⟨pb+1,0,none⟩=some (.slice (some ⟨g,0,none⟩) N.ends.length d0)/\(World.drew w5).cell? ⟨g,v,none⟩=some (.slice AU ge.length cU)from lF) ?_
   simp only[ew,dM,zT]
   iterate 8 (apply bC rfl;(intro W hW;(obtain⟨k0,k1⟩:=hW);go_simp;with_reducible rfl);simp only[zA])
   obtain⟨W,dh⟩:=J_ (World.drew w5)
   rw[<- dh];have hW:=(show(World.drew w5).cell? ⟨pb+1,0,none⟩=some (.slice (some ⟨g,0,none⟩) N.ends.length d0)/\(World.drew w5).cell? ⟨g,v,none⟩=some (.slice AU ge.length cU)from lF);rw[<- dh]at hW;have fK:=zh dh;clear dh;refine Or.inl ⟨rfl,?_⟩
   go_simp
   (with_reducible refine(dF cb A L c _ 20 W (by rw[fK.out];exact WS.out.since (aj (aa _))) zO zO).mono ?_)
   rintro e W' ⟨x,rfl,hx,Lo,Gb⟩;refine⟨_,rfl,And.intro (ay hW.1 jg _ Gb) (ay hW.2 MF _ Gb),?_⟩
   replace hW:=And.intro (ay hW.1 jg _ Gb) (ay hW.2 MF _ Gb)
   have nq:ab w5 W:=(by rw[fK.out];exact aj (aa _))
   obtain⟨HC8,Lp⟩:=A_ (((bO.refl cb w5).after nq).trans Gb) Lo;obtain⟨y,hy⟩:=J_ (x/19:Nat)
   obtain⟨m,hm⟩:=J_ (ge.length+y:Nat)
   have e1:(x:Int).tdiv 19=(y:Int):=(by rw[hy,Int.tdiv_eq_ediv_of_nonneg zO];simp)
   have e2:(x:Int)/19=(y:Int):=zO;have e3:IntKind.i64.wrap (y:Int)=(y:Int):=bU _ zO zO
   have e4:IntKind.i64.wrap ((ge.length:Int)+(y:Int))=(m:Int):=(by rw[bU _ zO zO];omega)
   have gC:m<=300:=zO;clear Lo Gb nq hx hy hm;obtain⟨wp,rfl⟩:=J_ W'
   (try simp only[zA])
   refine fj (v:=?_) rfl ?_ hW ?_;rotate_left;(go_simp;with_reducible rfl)
   simp only[zA]
   refine fj (v:=?_) rfl ?_ hW ?_;rotate_left;(go_simp;with_reducible rfl)
   simp only[zA];refine Or.inl ⟨rfl,?_⟩
   go_simp
   (with_reducible refine(dF cb A L c _ (m:Int) _ Lp.out zO zO).mono ?_)
   rintro e W' ⟨z,rfl,hz,Db,LB⟩;refine⟨_,rfl,And.intro (ay hW.1 jg _ LB) (ay hW.2 MF _ LB),?_⟩
   replace hW:=And.intro (ay hW.1 jg _ LB) (ay hW.2 MF _ LB)
   obtain⟨HC9,aaz⟩:=A_ (HC8.out.trans LB) Db;clear hz Db LB
   (try simp only[zA])
   simp only[bP];clear hW;go_wp2;go_meet
   exact⟨z,rfl,aaz.mono zO,Ml.trans HC9⟩
  ·have g1:((v:Int)<(N.ends.length:Int))=False:=by simp;omega
   go_wp2;go_meet
   exact⟨0,rfl,WS.mono zO,Ml⟩
 case rest=>
 obtain⟨i,rfl,ee,N7⟩:=hcut;obtain⟨w6,rfl⟩:=J_ wc
 obtain⟨HS6,afO⟩:=A_ N7 ee;clear ee N7 k0 k1 k2;go_wp2_with fail;refine(xV cb A L c _ 24 w6 afO zO zO).mono ?_;rintro e w7 ⟨bb,rfl,Js,Vx⟩;have HS7:Hid (bO cb w4 w7):=HS6.trans Vx;have SN:=zh Js;clear Js Vx;obtain⟨k0,k1,k2,-,-,-⟩:=(HY w7 (C3.of HS7)).2.cells
 go_upto_if 43 with(fail)
 go_cut [9]from 43 to 49 (fun y wx=>∃v:Int,y=.int .i64 v/\bO cb w4 wx)
 case first=>
  cases bb
  ·go_wp2;go_meet
   exact⟨v,rfl,HS7⟩
  ·obtain⟨w8,lz⟩:=J_ (w7.alloc (.cells #[.int .i64 (-1),.int .i64 N.ends.length] 3))
   obtain⟨gl,DF⟩:=J_ w7.heap.size
   have kK:ab w7 w8:=by rw[lz];exact ad _ (aa _)
   have WK:Own w8 w7.heap.size (.slice (some ⟨gl,0,none⟩) 2 2) [-1,(N.ends.length:Int)]:=by rw[lz,DF];exact dS w7 [-1,(N.ends.length:Int)] (by simp[maxLen])
   have Lp:=zh (SN.out.since kK);have HS8:Hid (bO cb w4 w8):=bO.after HS7 kK;obtain⟨vT,KF,Wj⟩:=B_ WK lz DF
   have lC:cb<w7.heap.size:=by have:=ZD.1;have:=HzB.out;have:=HS7.size;omega
   clear lz DF kK WK;go_wp2_with fail;rw[<- KF.out,<- Wj.out];refine(O6 cb A L c _ w7.heap.size gl 2 2 _ w8 Lp zO vT rfl lC zS zS).mono ?_;rintro e w9 ⟨x,rfl,hx,Db,LB⟩;have HS9:Hid (bO cb w4 w9):=HS8.trans LB;clear hx Db LB lC k0 k1 k2;go_wp2;go_meet
   exact⟨x,rfl,HS9⟩
 case rest=>
 obtain⟨v',rfl,hS⟩:=hcut;obtain⟨v_,rfl⟩:=J_ wc
 have HS:=zh hS;clear hS k0 k1 k2;obtain⟨g1,g2,g3,g4⟩:=ZD.out
 have aS:aT v_ rb 0 0 (.slice none 0 0) (.slice none 0 0):=j5.out.blk (HS.out.block rb j5.out.lt (zX HE.out))
 have rC:bD v_ rn (.slice none 0 0) (.slice none 0 0) (.slice none 0 0):=(HS.out.block rn Hn4.out.lt (zX HE.out)).trans Hn4.out
 obtain⟨k0,k1,k2,k3⟩:=(HY v_ (C3.of HS)).1.cells;obtain⟨j0,j1,j2,-,-,-⟩:=(HY v_ (C3.of HS)).2.cells;obtain⟨r0,r1,r2,r3⟩:=aS.cells;have f0:=frozen_of_row v_ _ 0 _ _ aS;have f1:=frozen_of_row v_ _ 1 _ _ aS;have f2:=frozen_of_row v_ _ 2 _ _ aS;have f3:=frozen_of_row v_ _ 3 _ _ aS;obtain⟨s0,s1,s2,t0,t1,t2⟩:=rC.box.cells;have Qj:=HzB.out;have hHE:=HE.out;have adL:=dG.out
 have VU:w1.heap.size<=pb:=by rw[adL];exact HzP
 have v1:(rn=rb)=False:=by simp;omega
 have v2:(rb=rn)=False:=by simp;omega
 have v3:(pb=rb)=False:=by simp;omega
 have v4:(pb=rn)=False:=by simp;omega
 have v5:(pb+1=rb)=False:=by simp;omega
 have v6:(pb+1=rn)=False:=by simp;omega
 have v7:(rb=pb)=False:=by simp;omega
 have v8:(rn=pb)=False:=by simp;omega
 have v9:(rb=pb+1)=False:=by simp;omega
 have v0:(rn=pb+1)=False:=by simp;omega
 clear aS rC Qj hHE adL VU;go_upto_region 9 with(fail)
 go_region
 go_wp2;refine bodyPost_ret (v:=.tuple #[.agg #[.int .i64 lb,.int .i64 dg,.slice A1 ns.length c1,.slice A2 es.length c2],.agg #[.slice D0 N.ends.length d0,.slice D1 N.ids.length d1,.slice D2 N.agT.length d2],.int .i64 v',.int .i64 i]) (by simp[results,Tryz.results24,go_sem, *]) rfl ?_;show Y7 w _ (World.drew (agX (ag4 v_ rb (.int .i64 lb) (.int .i64 dg) (.slice A1 ns.length c1) (.slice A2 es.length c2)) rn (.slice D0 N.ends.length d0) (.slice D1 N.ids.length d1) (.slice D2 N.agT.length d2)))
 have pP:C3 cb rb rn w4 (World.drew (agX (ag4 v_ rb (.int .i64 lb) (.int .i64 dg) (.slice A1 ns.length c1) (.slice A2 es.length c2)) rn (.slice D0 N.ends.length d0) (.slice D1 N.ids.length d1) (.slice D2 N.agT.length d2))):=(((C3.of HS).trans (C3.ag4 cb rb rn v_ _ _ _ _)).trans (C3.agX cb rb rn _ _ _ _)).trans (C3.since (aj (aa _)));exact⟨_,_,⟨lb,dg,ns,es⟩,_,_,_,N,S,v',i,rfl,(pP.ahz g1 g2 g3 afN).mono g4.1,IC,(pP.net g1 g2 g3 adK).mono g4.1,Hbd,pP.below g4.2.2⟩
structure FrS (B:Nat) (S:List Nat) (w w':World):Prop where
 b:Below B w w'
 o:aV S w w'
theorem FK (v u:Value) (xs ys:List Int) (w:World) (h:bs w v xs) (h':bs w u ys):
  Calls Tryz.prog 27 #[v,u] w fun e w'=>e=.returned (.bool (decide (xs=ys)))/\∃m,w'=w.drewN m:=by
 obtain⟨A,c,rfl,fR,hm,hA⟩:=h;obtain⟨B,d,rfl,hld,ND,hB⟩:=h';unfold maxLen at hm ND;obtain⟨HA,HB⟩:=A_ hA hB;clear hA hB
 by_cases hl:xs.length=ys.length
 ·have Hl:=zh hl;have qs:xs.length<=ys.length:=zO
  have CK:ys.length<=xs.length:=zO
  have hb:((xs.length:Int) != (ys.length:Int))=false:=by simp[hl]
  clear hl
  go_enter Tryz.func27,Tryz.ntmps27
  go_wp2
  go_loopw [13] (fun i wr=>∃k n:Nat,k<=xs.length/\i=.int .i64 k/\xs.take k=ys.take k/\wr=w.drewN n) (fun i _=>xs.length-(intOf i).toNat)
  case atStart=>exact⟨0,0,Zac _,rfl,zS,rfl⟩
  case round=>
   obtain⟨k,n,hk,rfl,uw,rfl⟩:=hrel;have tE:=zh uw;clear uw
   by_cases aA:k<xs.length
   ·obtain⟨x,hx⟩:=au xs k aA;obtain⟨y,hy⟩:=au ys k zO;obtain⟨b,off,rfl,dU⟩:=HA k x hx;obtain⟨b',nf,rfl,Y9⟩:=HB k y hy;obtain⟨Hx,Hy⟩:=A_ hx hy;clear hx hy;cases uN:(x != y)
    all_goals
     have Vb:=zh uN;go_wp2
     go_quiet (fail)
     go_wp2
    ·go_roundw
     exact⟨k+1,_,zO,zM,by rw[bJ Hx.out,bJ Hy.out,tE.out,show x=y by simpa using Vb.out],rfl⟩
     simp[intOf];omega
    ·go_ret;refine⟨aJ (decide_eq_false fun e=>?_),dr1 _ _ _⟩
     have h1:=Hx.out;rw[e,Hy.out]at h1;have h2:=Vb.out;simp at h1 h2
     exact h2 h1.symm
   ·go_wp2;go_ret;exact⟨eT (decide_eq_true (xt Hl.out tE.out aA)),_,rfl⟩
 ·have hb:((xs.length:Int) != (ys.length:Int))=true:=by simp;omega
  have Hl:=zh hl;clear hl
  go_enter Tryz.func27,Tryz.ntmps27
  go_wp2;go_ret;exact⟨aJ (decide_eq_false fun e=>Hl.out (by rw[e])),0,rfl⟩
theorem Ci (v u:Value) (xs ys:List Int) (w:World) (h:bs w v xs) (h':bs w u ys):
  Calls Tryz.prog 27 #[v,u] w fun e w'=>e=.returned (.bool (Qz xs ys))/\Below w.heap.size w w':=(FK v u xs ys w h h').mono fun _ _ ⟨he,m,hm⟩=>⟨he,by rw[hm];exact below_drewN (Zaf _ _) m⟩
theorem Do (v u:Value) (xs ys:List (List Int)) (w:World) (h:bS w v xs) (h':bS w u ys):
  Calls Tryz.prog 9 #[v,u] w fun e w'=>e=.returned (.bool (decide (xs=ys)))/\Below w.heap.size w w':=by
 obtain⟨A,c,rfl,fR,hm,hA⟩:=h;obtain⟨B,d,rfl,hld,ND,hB⟩:=h';unfold maxLen at hm ND;obtain⟨HA,HB⟩:=A_ hA hB;clear hA hB
 by_cases hl:xs.length=ys.length
 ·have Hl:=zh hl;have qs:xs.length<=ys.length:=zO
  have CK:ys.length<=xs.length:=zO
  have hb:((xs.length:Int) != (ys.length:Int))=false:=by simp[hl]
  clear hl
  go_enter Tryz.func9,Tryz.ntmps9
  go_wp2
  go_loopw [13] (fun i wr=>∃k:Nat,k<=xs.length/\i=.int .i64 k/\xs.take k=ys.take k/\Below w.heap.size w wr) (fun i _=>xs.length-(intOf i).toNat)
  case atStart=>exact⟨0,Zac _,rfl,zS,Zaf _ _⟩
  case round=>
   obtain⟨k,hk,rfl,uw,oU⟩:=hrel;obtain⟨tE,EX⟩:=A_ uw oU;clear uw oU
   by_cases aA:k<xs.length
   ·have ij:k<ys.length:=zO
    obtain⟨x,hx⟩:=au xs k aA;obtain⟨y,hy⟩:=au ys k ij;obtain⟨b,off,u1,rfl,dk,OY⟩:=HA k x hx;obtain⟨b',nf,u2,rfl,jT,pP⟩:=HB k y hy;have k1:=bc EX dk;have k2:=bc EX jT;obtain⟨Hr1,NT⟩:=A_ (OY.agU EX.out) (pP.agU EX.out);obtain⟨A1,z1,rfl,_⟩:=OY;obtain⟨A2,z2,rfl,_⟩:=pP;clear dk jT;obtain⟨Hx,Hy⟩:=A_ hx hy;clear hx hy;cases uN:Qz x y
    all_goals
     have Vb:=zh uN;clear uN;go_wp2
     go_region_held3 (fun w'=>w'.cell? ⟨b,off+k,none⟩=some (.slice A1 x.length z1)/\w'.cell? ⟨b',nf+k,none⟩=some (.slice A2 y.length z2)) (first | exact⟨k1,k2⟩ | exact⟨bc aP k1,bc aP k2⟩)
      (first | (go_at_call 27;refine(Ci _ _ x y _ (by exact Hr1) (by exact NT)).mono ?_;rintro e w1 ⟨rfl,aP⟩;rw[Vb.out]))
     have oN:=zh (EX.out.drew.trans (aP.mono (show w.heap.size<=wr.heap.size from EX.out.size)));clear aP;go_wp2
    ·go_ret;refine⟨aJ (decide_eq_false fun e=>?_),oN.out⟩
     have h1:=Hx.out;rw[e,Hy.out]at h1;have h2:=Vb.out;simp[Qz]at h1 h2
     exact h2 h1.symm
    ·go_roundw
     exact⟨k+1,zO,zM,by rw[bJ Hx.out,bJ Hy.out,tE.out,show x=y by simpa[Qz]using Vb.out],oN.out⟩
     simp[intOf];omega
   ·go_wp2;go_ret;exact⟨eT (decide_eq_true (xt Hl.out tE.out aA)),EX.out⟩
 ·have hb:((xs.length:Int) != (ys.length:Int))=true:=by simp;omega
  have Hl:=zh hl;clear hl
  go_enter Tryz.func9,Tryz.ntmps9
  go_wp2;go_ret;exact⟨aJ (decide_eq_false fun e=>Hl.out (by rw[e])),Zaf _ _⟩
theorem r9 (v u:Value) (xs:List (List Int)) (w:World) (h:bS w v xs) (h':bS w u xs):
  Calls Tryz.prog 9 #[v,u] w fun e w'=>e=.returned (.bool true)/\Below w.heap.size w w':=
 (Do v u xs xs w h h').mono fun e w' ⟨he,hb⟩=>⟨by rw[he];simp,hb⟩
theorem Dp (v u:Value) (xs:List Int) (w:World) (h:bs w v xs) (h':bs w u xs):
  Calls Tryz.prog 27 #[v,u] w fun e w'=>e=.returned (.bool true)/\Below w.heap.size w w':=
 (Ci v u xs xs w h h').mono fun e w' ⟨he,hb⟩=>⟨by rw[he];simp[Qz],hb⟩
open Go.ChangeShapes Go.WideShapes Go.ChangeAt Go.RowKit
theorem open_bytes {H:Type} {enc:TypeId×Value->H} {W:World} {r:Reach} {b0:Nat} {v:Value} {d:DataW H} {p:List MemPlace}
  (hv:Value.okWide Tryz.prog W r b0 22 v) (h:DataW.Trod enc Tryz.prog W 0 (fun _=>true) true 22 v d p):∃L,YT W v L:=by
 obtain⟨a0,afP,adM,rfl⟩:=okWide_slice Tryz.underlying22 hv;obtain⟨ng,hf⟩:=h;rcases open_ints Tryz.underlying22 Tryz.underlying5 zK hf with⟨UU,_⟩ | ⟨x,l,c,zs,UU,_,hl,hm,hz,_,dU,Z1⟩
 ·simp[Value.cells]at UU
  obtain⟨rfl,rfl,rfl⟩:=UU
  exact⟨0,none,0,rfl,Zaj _,by unfold maxLen;omega,fun k hk=>zO⟩
 ·simp[Value.cells]at UU
  obtain⟨rfl,rfl,rfl⟩:=UU;have hz':zs.length=adM:=by simpa using hz
  refine⟨afP,some x,adM,rfl,hl,hm,fun k hk=>?_⟩
  have sV:k<zs.length:=zO
  have hc:=dU k sV
  have hb:=bounds_u8 (Z1 (zs.getD k 0) (by rw[zDd,Zbu sV];exact Zbj sV))
  have h0:=dU 0 zO;obtain⟨bl,off,afQ⟩:=x
  cases afQ with
  | none=>
   refine⟨bl,off,zs.getD k 0,rfl,?_,hb.1,zO⟩
   by_cases VA:k=0
   ·subst VA;simpa[Addr.add]using hc
   ·simpa[Addr.add,VA]using hc
  | some q=>simp[World.cell?,Addr.add]at h0;split at h0 <;> simp at h0
def PK (a b:Nat):Bool:=decide (1048576<a)||decide (1048576<a+b)
theorem XH (A B:Option Addr) (a c b d:Nat) (w:World) (hc:a<=9223372036854775807) (hd:b<=9223372036854775807):
  Calls Tryz.prog 5 #[.slice A a c,.slice B b d] w fun e w'=>e=.returned (.bool (PK a b))/\w=w':=by
 go_enter Tryz.func5,Tryz.ntmps5
 by_cases h:1048576<a
 ·have e1:((1048576:Int)<(a:Int))=True:=by simp;omega
  go_wp2;go_ret
  exact⟨by unfold PK;simp[h],rfl⟩
 ·have e1:((1048576:Int)<(a:Int))=False:=by simp;omega
  have m1:IntKind.i64.wrap (1048576-(a:Int))=1048576-(a:Int):=bU _ zO zO
  by_cases h2:1048576<a+b
  ·have e2:(1048576-(a:Int)<(b:Int))=True:=by simp;omega
   go_wp2;go_ret
   exact⟨by unfold PK;simp[h2],rfl⟩
  ·have e2:(1048576-(a:Int)<(b:Int))=False:=by simp;omega
   go_wp2;go_ret
   exact⟨by unfold PK;simp[h,h2],rfl⟩
theorem fnForests_walk (w:World) (v1:Value) (L1:Nat) (h1:YT w v1 L1) (v2:Value) (L2:Nat) (h2:YT w v2 L2):
  Calls Tryz.prog 4 #[v1,v2] w fun e w'=>e=.returned (.bool true)/\Below w.heap.size w w':=by
 obtain⟨A1,a1,hv1,qs,qQ,-⟩:=id h1;obtain⟨A2,a2,Mn,CK,gC,-⟩:=id h2;subst hv1 Mn;unfold maxLen at qQ gC;obtain⟨H1,H2⟩:=A_ h1 h2;clear h1 h2
 go_enter Tryz.func4,Tryz.ntmps4
 go_wp2_with fail;refine(XH A1 A2 L1 a1 L2 a2 w zO zO).mono ?_;rintro e wz ⟨rfl,rfl⟩;cases hb:PK L1 L2
 rotate_left
 ·go_wp2;go_ret;exact⟨rfl,Zaf _ _⟩
 have hL:L1<=1048576/\L2<=1048576:=by
  unfold PK at hb;simp at hb
  omega
 go_wp2_with fail;refine(te _ L1 w H1 hL.1).mono ?_;rintro e w1 ⟨pa,pb,p,ve,vi,vn,N,S,rfl,XI,jQ,ho,Cu,aP⟩;obtain⟨D0,d0,rfl,-,-,-⟩:=id ho.read.1;obtain⟨D1,d1,rfl,-,-,-⟩:=id ho.read.2.1;obtain⟨D2,d2,rfl,-,-,-⟩:=id ho.read.2.2;obtain⟨E0,e0,rfl,-,-,-⟩:=id XI.read.1;obtain⟨E1,e1,rfl,-,-,-⟩:=id XI.read.2;obtain⟨w1b,UQ⟩:=J_ (w1.alloc (.cells #[.int .i64 p.labels,.int .i64 p.degree,.slice E0 p.nodes.length e0,.slice E1 p.agW.length e1] 26))
 obtain⟨w2,ip⟩:=J_ (w1b.alloc (.cells #[.slice D0 N.ends.length d0,.slice D1 N.ids.length d1,.slice D2 N.agT.length d2] 30))
 obtain⟨qb,X_⟩:=J_ w1.heap.size
 have nt:w1b.heap.size=qb+1:=by rw[UQ,X_];simp
 have QV:ab w1 w1b:=by rw[UQ];exact ad _ (aa _)
 have aS:ab w1b w2:=by rw[ip];exact ad _ (aa _)
 have zj:aT w2 qb p.labels p.degree (.slice E0 p.nodes.length e0) (.slice E1 p.agW.length e1):=(show aT w1b qb _ _ _ _ by rw[UQ,X_];exact aT.fresh _ _ _ _ _).agU aS
 have dK:bB w2 (qb+1) (.slice D0 N.ends.length d0) (.slice D1 N.ids.length d1) (.slice D2 N.agT.length d2):=by rw[ip,<- nt];exact bB.new _ _ _ _ _
 have qT:ab w1 w2:=QV.after aS;have hN:=ho.read.agU qT.below;have Y5:=XI.read.agU qT.below;obtain⟨HN,PA,UR,MG,Jy,OU,LL,BY,M9⟩:=H_ (ET hN) (Ai Y5) (ae zj.cells.1) (ae zj.cells.2.1) (ae zj.cells.2.2.1) (ae zj.cells.2.2.2) (ae dK.cells.1) (ae dK.cells.2.1) (ae dK.cells.2.2.1);have Y8:Hid (Below w.heap.size w w2):=Zbw aP (qT.below.mono aP.size);obtain⟨adN,yH,Hqb,kR,Ao,Hpz⟩:=E_ UQ ip X_ Cu.small.sz (sd Cu.small.sz) jQ.sz
 have iM:p.nodes.length<=1048576:=by have h9:=jQ.sz;unfold wB CL at h9;omega
 have gM:p.agW.length<=1048576:=by have h9:=jQ.sz;unfold wB CL at h9;omega
 obtain⟨Vs,Gh⟩:=A_ (fun W (hW:ab w2 W)=>XB _ _ _ _ _ p N W (PA.out W hW) (HN.out W hW) iM gM Ao.out) (fun W (hW:ab w2 W)=>Xx _ _ _ _ _ p N W (PA.out W hW) (HN.out W hW) gM)
 obtain⟨one,XJ⟩:=K_ (ke p N)
 obtain⟨kk,G7⟩:=K_ (qO p N)
 have HkI:=zh (show ∀W,ab w2 W->Calls Tryz.prog 21 #[.agg #[.int .i64 p.labels,.int .i64 p.degree,.slice E0 p.nodes.length e0,.slice E1 p.agW.length e1],.agg #[.slice D0 N.ends.length d0,.slice D1 N.ids.length d1,.slice D2 N.agT.length d2]] W fun e w'=>e=.returned (.tuple #[.int .i64 kk,.bool one])/\Below W.heap.size W w' from fun W hW=>by
  have hc:=UL _ _ _ _ _ p N W (PA W hW) (HN W hW) iM gM Ao;rw[XJ,G7]at hc
  exact hc)
 have HkS:=zh (show ∀W,ab w2 W->Calls Tryz.prog 22 #[.agg #[.int .i64 p.labels,.int .i64 p.degree,.slice E0 p.nodes.length e0,.slice E1 p.agW.length e1],.agg #[.slice D0 N.ends.length d0,.slice D1 N.ids.length d1,.slice D2 N.agT.length d2]] W fun e w'=>e=.returned (.tuple #[.int .i64 kk,.bool one])/\Below W.heap.size W w' from fun W hW=>by
  have hc:=Uu _ _ _ _ _ p N W (PA W hW) (HN W hW) gM;rw[XJ,G7]at hc
  exact hc)
 have fH:ab w2 w2:=aa _;obtain⟨xi,Hkk⟩:=A_ XJ G7;clear XI jQ ho Cu aP UQ ip X_ QV aS zj dK qT hN Y5 nt XJ G7 iM gM;go_upto_region 4 with(fail);rw[<- adN.out,<- yH.out,<- Hqb.out];have p0:=LL w2 fH;have p1:=BY w2 fH;have p2:=M9 w2 fH;have q0:=UR w2 fH;have q1:=MG w2 fH;have q2:=Jy w2 fH;have q3:=OU w2 fH;go_wp2_with fail;refine(Vs w2 fH).mono ?_;rintro e w3 ⟨u3,S3,s,ok,rfl,gZ,hy3,Vl,er⟩;obtain⟨Q3,c3,rfl,-,abn,-⟩:=id gZ.read;obtain⟨lM,HI,Hq⟩:=B_ (show ab w2 w3 from er) (GQ gZ.read) (UD.mk hy3 Vl);clear p0 p1 p2 q0 q1 q2 q3 gZ er fH hy3 Vl;have p0:=LL w3 lM;have p1:=BY w3 lM;have p2:=M9 w3 lM;have q0:=UR w3 lM;have q1:=MG w3 lM;have q2:=Jy w3 lM;have q3:=OU w3 lM;go_wp2_with fail;refine(Gh w3 lM).mono ?_;rintro e w4 ⟨u4,S4,s',ok',rfl,jA,hy4,hn4,pu⟩;obtain⟨eZ,YK⟩:=Hq.same (UD.mk hy4 hn4);subst eZ YK;obtain⟨Q4,c4,rfl,-,abo,-⟩:=id jA.read;obtain⟨PM,kD,HI4⟩:=B_ (show ab w3 w4 from pu) (lM.out.after (show ab w3 w4 from pu)) (GQ jA.read);clear p0 p1 p2 q0 q1 q2 q3 jA pu hy4 hn4;unfold maxLen at abn abo;have p0:=LL w4 kD;have p1:=BY w4 kD;have p2:=M9 w4 kD;have q0:=UR w4 kD;have q1:=MG w4 kD;have q2:=Jy w4 kD;have q3:=OU w4 kD;go_wp2_with fail;refine(HkI w4 kD).mono ?_;rintro e w5 ⟨rfl,k8⟩;have abp:=zh (show ab w4 w5 from k8);have jF:=zh (kD.out.after abp.out);clear p0 p1 p2 q0 q1 q2 q3 k8;have p0:=LL w5 jF;have p1:=BY w5 jF;have p2:=M9 w5 jF;have q0:=UR w5 jF;have q1:=MG w5 jF;have q2:=Jy w5 jF;have q3:=OU w5 jF;go_wp2_with fail;refine(HkS w5 jF).mono ?_;rintro e w6 ⟨rfl,tw⟩;have US:=zh (abp.out.after (show ab w5 w6 from tw));have C1:=zh (kD.out.after US.out);clear p0 p1 p2 q0 q1 q2 q3 tw
 have hdk:one=true->decide (0<kk)=ok':=fun h9=>by have h8:=Hq.count (xi.trans h9);rw[Hkk.out]at h8;exact h8
 go_upto_region 8 with(fail)
 go_cut [94]from 67 to 94 (fun u wx=>u=.bool false/\ab w6 wx)
 case first=>
  go_wp2_with fail;refine(r9 _ _ s' w6 (HI w6 (PM.after US)) (HI4 w6 US)).mono ?_;rintro e w7 ⟨rfl,tU⟩;have abq:=zh (show ab w6 w7 from tU);clear tU;cases one
  ·clear hdk;go_wp2;go_meet
   exact⟨rfl,abq⟩
  ·have g1:=hdk rfl;clear hdk;cases ok'
   ·go_wp2;go_meet
    exact⟨rfl,abq⟩
   ·go_wp2;go_meet
    exact⟨rfl,abq⟩
 case rest=>
 obtain⟨rfl,abr⟩:=hcut;obtain⟨w7,rfl⟩:=J_ wc
 obtain⟨yJ,abs⟩:=A_ (C1.out.after abr) ((PM.out.after US.out).after abr);clear abr hdk
 go_upto_if 95 with(fail)
 go_cut [15,16,17,18,19]from 96 to 129 (fun _ _ _ _ _ wx=>ab w7 wx)
 case first=>
  cases ok'
  ·go_wp2;go_meet
   exact aa _
  ·obtain⟨i1,i2⟩:=Hq.sol;have eB:=Hq.on (most:=200000) zO;obtain⟨st,hst⟩:=K_ (dm p N 200000)
   obtain⟨FL,hFL⟩:=K_ (eQ p N 200000)
   obtain⟨cn,Vf⟩:=K_ (kc p N 200000)
   rw[hst,hFL]at eB
   have RT:=zh (show ∀W,ab w7 W->Calls Tryz.prog 10 #[.agg #[.int .i64 p.labels,.int .i64 p.degree,.slice E0 p.nodes.length e0,.slice E1 p.agW.length e1],.agg #[.slice D0 N.ends.length d0,.slice D1 N.ids.length d1,.slice D2 N.agT.length d2],.slice Q3 s'.length c3] W fun e w'=>e=.returned (.tuple #[.bool true,.bool true])/\Below W.heap.size W w' from fun W hW=>by
    have hc:=BB _ _ _ _ _ _ p N s' W (PA W (yJ.after hW)) (HN W (yJ.after hW)) (HI W (abs.after hW)) Hpz Ao;rw[i1,i2]at hc
    exact hc)
   have HcO:=zh (show ∀W,ab w7 W->Calls Tryz.prog 23 #[.agg #[.int .i64 p.labels,.int .i64 p.degree,.slice E0 p.nodes.length e0,.slice E1 p.agW.length e1],.agg #[.slice D0 N.ends.length d0,.slice D1 N.ids.length d1,.slice D2 N.agT.length d2],.int .i64 200000] W fun e w'=>∃u S,e=.returned (.tuple #[u,.int .i64 st,.int .i64 cn])/\bu w' W.heap.size u FL S/\Below W.heap.size W w' from fun W hW=>by
    have hc:=s5 _ _ _ _ _ p N 200000 W (PA W (yJ.after hW)) (HN W (yJ.after hW)) zO Hpz kR;rw[hst,hFL,Vf]at hc
    exact hc)
   have Yi:ab w7 w7:=aa _;have Cs:=zh eB;clear i1 i2 hst hFL Vf eB;have p0:=LL w7 yJ;have p1:=BY w7 yJ;have p2:=M9 w7 yJ;have q0:=UR w7 yJ;have q1:=MG w7 yJ;have q2:=Jy w7 yJ;have q3:=OU w7 yJ;go_wp2_with fail;refine(RT w7 Yi).mono ?_;rintro e w8 ⟨rfl,yS⟩;have abt:=zh (show ab w7 w8 from yS);have j6:=zh (yJ.out.after abt.out);clear p0 p1 p2 q0 q1 q2 q3 yS Yi;have p0:=LL w8 j6;have p1:=BY w8 j6;have p2:=M9 w8 j6;have q0:=UR w8 j6;have q1:=MG w8 j6;have q2:=Jy w8 j6;have q3:=OU w8 j6;go_wp2_with fail;refine(HcO w8 abt).mono ?_;rintro e w9 ⟨u9,S9,rfl,gj,lO⟩;obtain⟨Q9,c9,rfl,-,afR,-⟩:=id gj.read;unfold maxLen at afR;obtain⟨abu,HI9⟩:=A_ (abt.out.after (show ab w8 w9 from lO)) gj.read;clear p0 p1 p2 q0 q1 q2 q3 lO gj;rcases Cs.out with⟨hst,hFL⟩ | hst
   ·subst hst hFL;go_wp2_with fail;refine(r9 _ _ FL w9 HI9 (HI w9 (abs.after abu))).mono ?_;rintro e wA ⟨rfl,Zc⟩;have HsA:=zh (abu.out.after (show ab w9 wA from Zc));clear Zc;go_wp2;go_meet
    exact HsA
   ·subst hst;go_wp2;go_meet
    exact abu
 case rest=>
 have C9:Hid (Below w.heap.size w wc):=Zbw Y8 ((yJ.after hcut).below.mono Y8.size);obtain⟨y0,rfl⟩:=J_ wc
 have H2':=zh (H2.out.agU C9.out);clear hcut yJ abs PM lM kD abp jF US C1 HI HI4 Vs Gh HkI HkS Hq xi Hkk HN PA UR MG Jy OU LL BY M9 Y8 adN yH Hqb kR Ao Hpz H1 H2;go_wp2_with fail;refine(xp _ L2 y0 H2' hL.2).mono ?_;rintro e x1 ⟨ma,mb,q,ve2,vi2,vn2,N2,Sn,v,i,rfl,XI,jQ,ho,Cu,aP⟩;obtain⟨F0,f0,rfl,-,hfm,-⟩:=id ho.read.1;obtain⟨F1,f1,rfl,-,-,-⟩:=id ho.read.2.1;obtain⟨F2,f2,rfl,-,-,-⟩:=id ho.read.2.2;obtain⟨G0,g0,rfl,-,-,-⟩:=id XI.read.1;obtain⟨G1,g1,rfl,-,-,-⟩:=id XI.read.2;obtain⟨x1b,UT⟩:=J_ (x1.alloc (.cells #[.int .i64 q.labels,.int .i64 q.degree,.slice G0 q.nodes.length g0,.slice G1 q.agW.length g1] 26))
 obtain⟨x2,uJ⟩:=J_ (x1b.alloc (.cells #[.slice F0 N2.ends.length f0,.slice F1 N2.ids.length f1,.slice F2 N2.agT.length f2] 30))
 obtain⟨rb,gh⟩:=J_ x1.heap.size
 have nt:x1b.heap.size=rb+1:=by rw[UT,gh];simp
 have QV:ab x1 x1b:=by rw[UT];exact ad _ (aa _)
 have aS:ab x1b x2:=by rw[uJ];exact ad _ (aa _)
 have zj:aT x2 rb q.labels q.degree (.slice G0 q.nodes.length g0) (.slice G1 q.agW.length g1):=(show aT x1b rb _ _ _ _ by rw[UT,gh];exact aT.fresh _ _ _ _ _).agU aS
 have dK:bB x2 (rb+1) (.slice F0 N2.ends.length f0) (.slice F1 N2.ids.length f1) (.slice F2 N2.agT.length f2):=by rw[uJ,<- nt];exact bB.new _ _ _ _ _
 have qT:ab x1 x2:=QV.after aS;have hN:=ho.read.agU qT.below;have Y5:=XI.read.agU qT.below;obtain⟨HN,PA,UR,MG,Jy,OU,LL,BY,M9⟩:=H_ (ET hN) (Ai Y5) (ae zj.cells.1) (ae zj.cells.2.1) (ae zj.cells.2.2.1) (ae zj.cells.2.2.2) (ae dK.cells.1) (ae dK.cells.2.1) (ae dK.cells.2.2.1);have Y8:Hid (Below w.heap.size w x2):=Zbw C9 ((Zbw aP (qT.below.mono aP.size)).mono C9.size);obtain⟨afS,Hx2,fX,Ao⟩:=C_ UT uJ gh (sd Cu.small.sz)
 have acs:Hid (N2.ids.length<=1048576):=by show _<=_;have h9:=Cu.ids;omega
 have Hbd:=zh Cu
 have iM:q.nodes.length<=1048576:=by have h9:=jQ.sz;unfold wB CL at h9;omega
 have gM:q.agW.length<=1048576:=by have h9:=jQ.sz;unfold wB CL at h9;omega
 obtain⟨Vs,Gh,Rl,Nv⟩:=C_ (fun W (hW:ab x2 W)=>UG _ _ _ _ _ q N2 v i W (PA.out W hW) (HN.out W hW) iM gM Ao.out) (fun W (hW:ab x2 W)=>Uw _ _ _ _ _ q N2 v i W (PA.out W hW) (HN.out W hW) gM) iM gM;obtain⟨ok,eZ⟩:=K_ (kN q N2 v i)
 obtain⟨ll,Cj⟩:=K_ (xm q N2 v i)
 unfold FE at Vs Gh;rw[eZ,Cj]at Vs Gh;have fH:ab x2 x2:=aa _;obtain⟨Kc,xC⟩:=A_ eZ Cj;unfold maxLen at hfm;clear XI jQ ho Cu aP UT uJ gh QV aS zj dK qT hN Y5 nt eZ Cj iM gM;go_upto_region 16 with(fail);rw[<- afS.out,<- Hx2.out,<- fX.out];have p0:=LL x2 fH;have p1:=BY x2 fH;have p2:=M9 x2 fH;have q0:=UR x2 fH;have q1:=MG x2 fH;have q2:=Jy x2 fH;have q3:=OU x2 fH;go_wp2_with fail;refine(Vs x2 fH).mono ?_;rintro e x3 ⟨u3,rfl,gZ,er⟩;obtain⟨Q3,c3,rfl,-,abn,-⟩:=id gZ.ints;obtain⟨lM,HI⟩:=A_ (show ab x2 x3 from er) (zpI gZ.ints);clear p0 p1 p2 q0 q1 q2 q3 gZ er fH;have p0:=LL x3 lM;have p1:=BY x3 lM;have p2:=M9 x3 lM;have q0:=UR x3 lM;have q1:=MG x3 lM;have q2:=Jy x3 lM;have q3:=OU x3 lM;go_wp2_with fail;refine(Gh x3 lM).mono ?_;rintro e x4 ⟨u4,rfl,jA,pu⟩;obtain⟨Q4,c4,rfl,-,abo,-⟩:=id jA.ints;obtain⟨PM,kD,HI4⟩:=B_ (show ab x3 x4 from pu) (lM.out.after (show ab x3 x4 from pu)) jA.ints;clear p0 p1 p2 q0 q1 q2 q3 jA pu;unfold maxLen at abn abo;go_wp2_with fail;refine(Dp _ _ ll x4 (HI x4 PM) HI4).mono ?_;rintro e x5 ⟨rfl,k8⟩;have adO:=zh (PM.out.after (show ab x4 x5 from k8));have jF:=zh (lM.out.after adO.out);have Ct:Hid (Below w.heap.size w x5):=Zbw Y8 (jF.below.mono Y8.size);clear k8;cases ok
 ·go_wp2;go_ret;exact⟨rfl,Ct⟩
 by_cases h0:ll.length=0
 ·have g1:((0:Int)<(ll.length:Int))=False:=eq_false zO;have g2:(0<ll.length)=False:=eq_false zO;go_wp2;go_ret;exact⟨rfl,Ct⟩
 have g1:((0:Int)<(ll.length:Int))=True:=eq_true zO;have g2:(0<ll.length)=True:=eq_true zO;obtain⟨hf,vn,xn,rfl,rfl,hv,hx⟩:=UE Kc
 have hlF:ll=jJ q N2 vn xn q.labels.toNat:=by
  rw[<- xC.out];unfold xm;rw[if_pos Kc.out,Zag,Zag]
 obtain⟨cC,hn,hcy⟩:=jD hf
 have LR:∃s,lR q N2 s:=by
  obtain⟨y,hy⟩:=au ll 0 zO
  exact(Jk (by rw[<- hlF];exact Zaq hy)).2.2
 have hlm:∀y∈ll,0<=y/\y<8:=fun y hy=>by
  have h9:=(aE cC).1
  have h8:=Jk (by rw[<- hlF];exact hy)
  omega
 have hl8:ll.length<=8:=by
  have h9:=(aE cC).1;rw[hlF]
  have h8:=B0 q N2 vn xn q.labels.toNat
  omega
 have iX:N2.ends.length<=40:=(eX hn).1;have iz:Hid (∀(k:Nat) (es:List (Int×Int)),N2.ends[k]?=some es->es.length<=6):=(eX hn).2;obtain⟨Hf,Hv,HlF,Hlm,afT,jB,Hn⟩:=F_ hf (And.intro hv hx) hlF hlm LR cC hn;clear hlF hf hv hx cC hn hcy LR hlm h0;obtain⟨F,hF⟩:=J_ (aX N2)
 have Zx:F.length=N2.ends.length:=by rw[hF];exact sm N2
 obtain⟨HF,HFl⟩:=A_ hF Zx;have p0:=LL x5 jF;clear hF Zx
 go_upto_region 22 with(at_make;refine uP _ rfl _ _ rfl N2.ends.length rfl rfl zO ?_;intro x6 dJ tw;have yq:ab x5 x6:=tw)
 obtain⟨g,hg⟩:=J_ x5.heap.size
 rw[<- hg]at dJ ⊢;obtain⟨Hg,afU,MJ⟩:=B_ hg yq dJ;clear hg tw yq dJ p0;go_wp2
 go_loopw [174] (fun i wr=>∃(k:Nat) (S:List Nat),k<=N2.ends.length/\i=.int .i64 k/\bu wr x5.heap.size (.slice (some ⟨g,0,none⟩) N2.ends.length N2.ends.length) (F.take k++List.replicate (F.length-k) []) S/\ab x5 wr) (fun i _=>N2.ends.length-(intOf i).toNat)
 case atStart=>exact⟨0,_,Zac _,rfl,by rw[HFl.out];have h9:=MJ.out;simpa[Hg.out]using h9,afU.out⟩
 case round=>
  obtain⟨k,S,hk,rfl,ho,hs⟩:=hrel;obtain⟨Ho,Hs⟩:=A_ ho hs;obtain⟨wk,rfl⟩:=J_ wr
  by_cases aA:k<N2.ends.length
  ·have m3:=zw k;obtain⟨es,aU⟩:=au N2.ends k aA;obtain⟨b,off,c',u,hA,NU,dk,aG⟩:=iK (HN wk (jF.after hs)).es aU;cases hA;obtain⟨A1,z1,rfl,dP,dY,-⟩:=aG;have gM:=iz k es aU;have p0:=LL wk (jF.after hs)
   have Hx:Hid (F[k]?=some (List.replicate es.length (-1))):=by show _=_;rw[HF.out];exact sq aU
   obtain⟨G,hG⟩:=J_ (F.take k++List.replicate (F.length-k) ([]:List Int))
   have HG:=zh hG
   have hGk:G[k]?=some []:=by
    have h9:=HFl.out;rw[hG,Zca (by simp;omega),Zch,if_pos (by simp;omega)]
   have HGk:=zh hGk;have HGl:Hid (k<G.length):=ah hGk;clear hG hGk aU ho hs;go_wp2
   go_loopw [183] (fun i wr=>∃(j:Nat) (S:List Nat),j<=es.length/\i=.int .i64 j/\bu wr x5.heap.size (.slice (some ⟨g,0,none⟩) N2.ends.length N2.ends.length) (G.set k (List.replicate j (-1))) S/\ab x5 wr) (fun i _=>es.length-(intOf i).toNat)
   case atStart=>exact⟨0,S,Zac _,rfl,by rw[List.replicate_zero,UF HGk.out,HG.out];exact Ho,Hs⟩
   case round=>
    obtain⟨j,S2,hj,rfl,ho,hs⟩:=hrel;obtain⟨wq,rfl⟩:=J_ wr
    have oy:=zh hs
    by_cases ij:j<es.length
    ·have m4:=zw j;obtain⟨r,hr⟩:=J_ (List.replicate j (-1:Int))
     have nd:r.length=j:=by rw[hr,Zbb]
     rw[<- hr]at ho;have F7:(G.set k r)[k]?=some r:=by rw[Zci,if_pos rfl,if_pos HGl.out]
     obtain⟨u,T,hu,hf,hR,VF,CI,zr⟩:=aZ.at_ ho F7;obtain⟨u',T',zt,XP,Zh,QC,qk⟩:=aZ.grow fT ho F7;obtain rfl:u=u':=Zbx (hu.symm.trans zt)
     have Yj:=zh XP.1
     have yD:Hid (r.length+1<=17592186044416):=by show _<=_;omega
     obtain⟨RZ,Hr⟩:=A_ qk hr;obtain⟨AU,cU,rfl,-,-,-⟩:=id XP.1.ints;have HT:Hid (T'=(Value.slice AU r.length cU).ownBlock.toList):=XP.2;have DF:g<wq.heap.size:=(aL.range ho g zr).2;clear ho hR XP VF Zh CI zr qk zt hr F7 nd hs
     go_wp2_with (at_builtin;refine fQ (v:=.slice AU r.length cU) (base:=x5.heap.size) rfl _ _ rfl rfl (Yj.since (ad _ (aa _))) rfl (nM _ _) yD (ad _ oy).below.size ?_;intro v' w4 T4 jA CU hT4;obtain⟨V,mV,cV,rfl⟩:=fT.one jA;have eB:aV T' wq w4:=(aV.ag2 (ad _ (aa _)).below).trans (by rw[HT.out];exact CU);have c4:=(Zam (a:=⟨g,k,none⟩) (eB.block g DF QC)).trans hu;have f4:=aV.fz eB (p:=⟨g,k,none⟩) QC hu hf)
     go_roundw
     case rel=>
      have yi:=RZ _ _ _ _ jA eB (fun j hj=>by
       rcases hT4 j hj with h7 | h7
       ·exact .inl (by rw[HT.out];exact h7)
       ·exact .inr (by simp at h7;omega))
      obtain⟨S',k1,k2⟩:=yi;have oh:ab x5 w4:=aV.since (ab.trans oy (ad _ (aa _))) CU (fun q hq=>(Zad Yj q (Zcm.1 hq)).1)
      rw[List.set_set,Hr.out,<- List.replicate_succ']at k1
      exact⟨j+1,S',zO,zN,k1,Below.setCell oh (by show _<=g;rw[Hg.out];exact Zaj _) _⟩
     simp[intOf];omega
    ·obtain rfl:j=es.length:=zO
     have mg:Hid (bu wq x5.heap.size (.slice (some ⟨g,0,none⟩) N2.ends.length N2.ends.length) (F.take (k+1)++List.replicate (F.length-(k+1)) []) S2):=by
      rw[HG.out,zi [] F k _ Hx.out]at ho
      exact ho
     clear ho hs;go_wp2;go_roundw
     exact⟨k+1,S2,zO,zN,mg,oy⟩
     simp[intOf];omega
  ·have Zx:=HFl.out;have e1:F.take k++List.replicate (F.length-k) ([]:List Int)=F:=by rw[Zbz zO,show F.length-k=0 by omega,List.replicate_zero,List.append_nil]
   rw[e1]at ho;obtain⟨eU,afV⟩:=A_ (jF.out.after hs) (adO.out.after hs);have eK:=(aE jB).1
   have hcP:=Cg _ _ _ _ _ _ q N2 F wk (PA wk eU) (HN wk eU) ho.read jB Hn (by rw[HF.out];exact B5 (aN N2) (uX zO)) Rl Nv acs
   have Vt:=zh hcP;clear Zx e1 ho hs hcP eK;have p0:=LL wk eU;have p1:=BY wk eU;have p2:=M9 wk eU;have q0:=UR wk eU;have q1:=MG wk eU;have q2:=Jy wk eU;have q3:=OU wk eU;go_wp2_with fail;refine Vt.mono ?_;rintro e w7 ⟨u7,ok7,M,S7,rfl,ZP,hR,hz,hy,tU⟩;rw[HF.out]at hR;cases ok7
   ·obtain⟨a,b,hi,h0⟩:=hz rfl;exact absurd afT.out (B7 hR hi h0)
   rw[if_pos rfl]at ZP;obtain⟨XK,pc⟩:=Xz Hf hR (hy rfl) Hv.1 Hv.2;rw[<- HlF.out]at XK;obtain⟨es,aU⟩:=au N2.ends vn Hv.1;have lK:=Hv.2;rw[ag aU]at lK;obtain⟨kq,z,qQ,gC,jz,hm4,hm5⟩:=hR.ms.at aU lK;rw[hm4]at XK pc;obtain⟨yJ,HI7⟩:=A_ (show ab wk w7 from tU) (GQ ZP.read);obtain⟨Q7,c7,rfl,-,afW,-⟩:=id ZP.read;unfold maxLen at afW;obtain⟨abv,An,Gc⟩:=B_ XK qQ jz;clear p0 p1 p2 q0 q1 q2 q3 ZP hR hz hy tU XK aU lK qQ gC jz hm4 hm5;go_wp2
   go_loopw [32,207] (fun mk i wr=>∃k:Nat,k<=ll.length/\mk=.int .i64 (mZ (ll.take k))/\i=.int .i64 k/\ab w7 wr) (fun _ i _=>ll.length-(intOf i).toNat)
   case atStart=>exact⟨0,Zac _,by first | rfl | simp[mZ],rfl,aa _⟩
   case round=>
    obtain⟨k,hk,rfl,rfl,hs⟩:=hrel;obtain⟨wl,rfl⟩:=J_ wr
    have FS:=Ex ll k;rw[abv.out]at FS
    by_cases aA:k<ll.length
    ·have m3:=zw k;obtain⟨y,hy⟩:=au ll k aA;obtain⟨AL,cl,eL,-,-,sL⟩:=HI wl (afV.after (yJ.after hs));cases eL;obtain⟨bL,oL,rfl,Df⟩:=sL k y hy;have d1:=ae Df wl (aa _);have qv:=Hlm y (Zaq hy);obtain⟨yn,rfl⟩:∃yn:Nat,y=(yn:Int):=⟨y.toNat,zO⟩
     have kj:=PC hy;rw[Zag]at kj;obtain⟨nk,hnk⟩:=J_ (mZ (ll.take (k+1)))
     have nt:=Ex ll (k+1);rw[abv.out,<- hnk]at nt;rw[<- hnk]at kj;obtain⟨mk,PU⟩:=K_ (mZ (ll.take k))
     rw[PU]at FS kj ⊢;obtain⟨pw,LD⟩:=K_ ((2:Int)^yn)
     rw[LD]at kj
     have e1:IntKind.i64.wrap ((2:Int)^yn)=pw:=by rw[LD];exact bU _ zO zO
     have e2:IntKind.i64.wrap (mk+pw)=nk:=by rw[bU _ zO zO];omega
     have m64:min yn 64=yn:=zO
     obtain⟨Hnk,Hsl⟩:=A_ hnk hs;clear hy sL Df kj nt FS PU LD hnk hs;go_wp2;go_roundw
     exact⟨k+1,zO,by rw[Hnk.out],zN,Hsl⟩
     simp[intOf];omega
    ·obtain rfl:k=ll.length:=zO
     rw[Zbz (Zaj _),abv.out];obtain⟨AM,cm,eM,-,-,hMM⟩:=HI7 wl hs;cases eM;obtain⟨bM,oM,uM,rfl,hcM,hmI⟩:=hMM vn kq An;obtain⟨AN,cN,rfl,-,afX,hNN⟩:=hmI;unfold maxLen at afX;obtain⟨bT,oT,rfl,hcz⟩:=hNN xn z Gc;have d1:=ae hcM wl (aa _);have d2:=ae hcz wl (aa _);have l1:vn<M.length:=ah An;have l2:xn<kq.length:=ah Gc;have dH:Hid (Below w.heap.size w wl):=Zbw Y8 ((eU.after (yJ.after hs)).below.mono Y8.size);clear hMM hcM hNN hcz hs FS;go_wp2;go_ret;exact⟨by first | rfl | simp,dH⟩
end Go.Proofs.YtnioemnkfojmkaaGreat
