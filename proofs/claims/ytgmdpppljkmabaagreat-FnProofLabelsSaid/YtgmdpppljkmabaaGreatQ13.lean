/- Parts of the proof: walks of functions and plain laws. -/
import Derived.Test.YtgmdpppljkmabaaGreatQ0
import Derived.Test.YtgmdpppljkmabaaGreatQ1
import Derived.Test.YtgmdpppljkmabaaGreatQ5
import Derived.Test.YtgmdpppljkmabaaGreatQ12
set_option maxRecDepth 100000
set_option maxHeartbeats 16000000
namespace Go.Proofs.YtgmdpppljkmabaaGreat
open Go Go.RowKit
theorem py (n:Nat) (hn:n<=1000000) (w:World):Calls Tryz.prog 154 #[.int .i64 n] w (qZ w (dW n)):=by
 have m1:=C8 n hn;have m2:=t_ n hn
 go_enter Tryz.func154,Tryz.ntmps154
 go_wp2
 go_region
 ·go_wp2;refine bodyPost_ret (v:=.agg #[.slice (some ⟨w.heap.size+1,0,none⟩) n n,.slice none 0 0,.slice (some ⟨w.heap.size+1+1,0,none⟩) n n]) (by simp[results,Tryz.results154,go_sem]) rfl ?_;exact⟨_,_,_,_,rfl,(FC w _ n hn).drew,(MA _ _ _ _).drew⟩
 ·go_wp2;refine bodyPost_ret (v:=.agg #[.slice (some ⟨w.heap.size+1+1,0,none⟩) n n,.slice none 0 0,.slice (some ⟨w.heap.size+1,0,none⟩) n n]) (by simp[results,Tryz.results154,go_sem]) rfl ?_;exact⟨_,_,_,_,rfl,(C_ w _ n hn).drew,(MA _ _ _ _).drew⟩
structure ru (n:ak):Prop where
 ends:n.ends.length<=1000
 row:∀(k:Nat) (es:List (Int×Int)),n.ends[k]?=some es->es.length<=1000
 sz:iK n<=1048576
def dp (n:ak) (v:Nat):List (Int×Int):=n.ends.getD v []
def rv (n:ak) (v:Nat) (e:Int×Int):ak:={ n with ends:=n.ends.set v (dp n v++[e]) }
def lz (n:ak) (v:Nat):ak:=rv n v ((v:Int),((dp n v).length:Int))
def dK (n:ak) (v u:Nat):ak:=rv (rv n v ((u:Int),if v=u then ((dp n u).length:Int)+1 else ((dp n u).length:Int))) u ((v:Int),((dp n v).length:Int))
theorem dh {n:ak} {v:Nat} (hv:v<n.ends.length):n.ends[v]?=some (dp n v):=by
 unfold dp;rw[zDd,List.getElem?_eq_getElem hv];rfl
theorem iM (n:ak) (v:Nat) (e:Int×Int):(rv n v e).ends.length=n.ends.length:=by simp[rv]
theorem az.head {w:World} {base k c:Nat} {A:Option Addr} {vi vn:Value} {N:ak} {S:List Nat} (h:az w base (.slice A k c) vi vn N S) (h0:0<N.ends.length):∃g,A=some ⟨g,0,none⟩/\k=N.ends.length:=by
 obtain⟨S1,S2,S3,⟨vs,Ss,h1,_⟩,_⟩:=h;have h3:=dz h1;rcases h3 with⟨hv,h2⟩ | ⟨g,c',hv,_⟩
 ·omega
 ·cases hv;exact⟨g,rfl,rfl⟩
theorem pZ {wc w8 w9:World} {base g c k v g9 cc:Nat} {vi vn u:Value} {N:ak} {S T:List Nat} {x:List (Int×Int)} {y:Int×Int}
  (sa:∀(u':Value) (x':List (Int×Int)) (T':List Nat) (w':World),eO w' base u' x' T'->bg T wc w'->(∀j∈T',j∈T\/wc.heap.size<=j)->∃S',az (w'.setCell ⟨g,v,none⟩ u') base (.slice (some ⟨g,0,none⟩) k c) vi vn { N with ends:=N.ends.set v x' } S'/\∀j∈S',j∈S\/wc.heap.size<=j)
  (hR:eO wc base u x T) (h8:aa wc w8) (iS:eO w9 base (.slice (some ⟨g9,0,none⟩) (x.length+1) cc) (x++[y]) [g9]) (p7:w8.grownBy w9 u.ownBlock) (vA:u.ownBlock=some g9\/g9=w8.heap.size) (T7:∀j∈T,j∈S) (LJ:g∈S):
  ∃S',az (w9.setCell ⟨g,v,none⟩ (.slice (some ⟨g9,0,none⟩) (x.length+1) cc)) base (.slice (some ⟨g,0,none⟩) k c) vi vn { N with ends:=N.ends.set v (x++[y]) } S'/\(∀j∈S',j∈S\/wc.heap.size<=j)/\bg S wc (w9.setCell ⟨g,v,none⟩ (.slice (some ⟨g9,0,none⟩) (x.length+1) cc)):=by
 have hT:T=u.ownBlock.toList:=hR.2
 have W_:bg T wc w9:=by rw[hT];exact(bg.aek h8).trans (bg.aee p7)
 obtain⟨S',h1,h2⟩:=sa _ _ _ _ iS W_ (fun j hj=>by
  simp at hj;subst hj
  rcases vA with h | h
  ·left;rw[hT,h];simp
  ·right;rw[h];exact h8.size)
 exact⟨S',h1,h2,(W_.mono T7).setCell (.inl LJ) _⟩
theorem GG (ve vi vn:Value) (n:ak) (v:Nat) (w:World) (h:aQ w ve vi vn n) (hv:v<n.ends.length) (hn:ru n):
  Calls Tryz.prog 193 #[.agg #[ve,vi,vn],.int .i64 v] w (qZ w (lz n v)):=by
 have Jj:=zh hn;clear hn
 obtain⟨w0,A,c,A2,c2,A3,c3,rfl,rfl,rfl,eV,hm,fJ,fB,HA,bK,aT,H,dL,dR,dU⟩:=zB h;clear h
 obtain⟨wa,lj⟩:∃wa,wa=w0.alloc (.cells #[.slice none 0 0,.slice none 0 0,.slice none 0 0] 27):=⟨_,rfl⟩
 have pT:aa w0 wa:=by rw[lj];exact ag _ (ad _)
 have nk:w0.heap.size=w.heap.size+1:=by rw[bK.out];simp
 have FJ:Hid (wa.heap.size=w.heap.size+1+1):=by show _=_;rw[lj,<- nk];simp
 have J1:Hid (∀X,aa wa X->bx X (w.heap.size+1) (.slice none 0 0) (.slice none 0 0) (.slice none 0 0)):=fun X hX=>by
  refine bx.since (W:=wa) ?_ hX;rw[lj,<- nk];show(w0.heap.push _)[w0.heap.size]?=_
  rw[Array.getElem?_push_size]
 have LN:=ah dL pT;have LO:=ah dR pT;have LP:=ah dU pT;have FK:=zh lj;have zW:=zh pT;have eD:Hid (Below w.heap.size w wa):=Below.trans aT.out (pT.below.mono aT.out.size);clear lj pT nk dL dR dU
 go_enter Tryz.func193,Tryz.ntmps193
 go_upto_region 1 with(fail);rw[<- bK.out,<- FK.out];have hs:aa wa wa:=ad _;go_wp2_with fail;refine(kW _ _ _ n wa (H.out.keep zW.out.below) Jj.out.ends Jj.out.row Jj.out.sz).mono ?_;rintro e w1 ⟨we,wi,wn,S,rfl,ho,ay⟩;obtain⟨A1,c1,rfl,-,-,-⟩:=id ho.read.1;obtain⟨AI,cI,rfl,-,-,-⟩:=id ho.read.2.1;obtain⟨AN,cN,rfl,-,-,-⟩:=id ho.read.2.2;obtain⟨g,rfl,-⟩:=ho.head (by omega);obtain⟨base,ld⟩:∃base,base=wa.heap.size:=⟨_,rfl⟩
 rw[<- ld]at ho;have cY:aa wa w1:=hs.trans ay;obtain⟨w2,gR⟩:∃z,z=w1.alloc (.cells #[.slice (some ⟨g,0,none⟩) n.ends.length c1,.slice AI n.ids.length cI,.slice AN n.aea.length cN] 27):=⟨_,rfl⟩
 obtain⟨bo,xI⟩:∃z,z=w1.heap.size:=⟨_,rfl⟩
 have lJ:aa w1 w2:=by rw[gR];exact ag _ (ad _)
 have BK:bD w2 bo (.slice (some ⟨g,0,none⟩) n.ends.length c1) (.slice AI n.ids.length cI) (.slice AN n.aea.length cN):=by rw[gR,xI];exact bD.new _ _ _ _ _
 have Ku:bo∉S:=fun hj=>by have:=(ho.range _ hj).2;omega
 have xJ:=zh ld;have nX:=zh gR;have Tk:=zh xI;have vd:=zh (ho.keep lJ.below);have DX:=zh BK;have CN:=zh Ku;have b_:=zh (cY.after lJ)
 have yM:Hid (base<=bo/\bo<w2.heap.size):=⟨by rw[ld,xI];exact cY.below.size,by rw[gR,xI];simp⟩
 have qR:=dh hv;obtain⟨xv,rx⟩:∃x,x=dp n v:=⟨_,rfl⟩
 rw[<- rx]at qR;have KW:=zh rx;have Zq:=zh qR;have zi:Hid (xv.length<=1000):=Jj.out.row _ _ qR;clear ld gR xI ho BK Ku cY lJ ay hs rx qR LN LO LP;have rN:=zi.out
 have Xa:Hid (xv.length+1<=1000000):=by show _<=_;omega
 have xK:Hid (base<=w2.heap.size):=by show _<=_;have:=yM.out;omega
 clear rN;go_upto_region 2 with(fail);rw[<- nX.out,<- Tk.out];obtain⟨u2,T2,vI,Kn,Jk,ry,xL,sI,lA⟩:=vd.out.ael Zq.out;obtain⟨uM,uN,rfl,-,-,-⟩:=id Jk.read;have GH:=zh Jk;have rz:=zh lA;have DY:g≠bo:=fun h=>CN.out (h ▸ sI)
 have Zr:=zh DY;have GI:=zh xL;have GJ:=zh sI;have GK:=zh ry;have Od:=zh vI;have UX:=zh Kn;have GL:Hid (bo∉T2):=fun h=>CN.out (ry _ h)
 have vz:=zh (bD.cells DX.out);clear DY xL sI ry vI Kn Jk lA;refine aL (fun W=>W.cell? ⟨bo,0,none⟩=some (.slice (some ⟨g,0,none⟩) n.ends.length c1)/\W.cell? ⟨g,v,none⟩=some (.slice uM xv.length uN)) 18 [false,false,false,false,false,false,false,false,false,false,false,false,false,false,false,false,true,true] (by kernel_rfl) (by kernel_rfl) (show(World.drew w2).cell? ⟨bo,0,none⟩=some (.slice (some ⟨g,0,none⟩) n.ends.length c1)/\(World.drew w2).cell? ⟨g,v,none⟩=some (.slice uM xv.length uN)from⟨vz.out.1,Od.out⟩) ?_
 simp only[eE,ea,zT]
 iterate 16 (apply bV rfl;(intro W hW;(obtain⟨k0,k1⟩:=hW);go_simp;with_reducible rfl);simp only[zA])
 obtain⟨W,dE⟩:∃W,W=World.drew w2:=⟨_,rfl⟩
 rw[<- dE];have hW:=(show(World.drew w2).cell? ⟨bo,0,none⟩=some (.slice (some ⟨g,0,none⟩) n.ends.length c1)/\(World.drew w2).cell? ⟨g,v,none⟩=some (.slice uM xv.length uN)from⟨vz.out.1,Od.out⟩);rw[<- dE]at hW;have gA:=zh dE;clear dE
 refine dD (v:=?_) (ob:=?_) rfl ?_ ?_ ?_;rotate_left 2
 (go_simp;first | with_reducible rfl | (refine⟨?_,?_⟩ <;> with_reducible rfl))
 exact⟨bc (am _ _) hW.1,bc (am _ _) hW.2⟩;intro w8 ms mW
 replace hW:=mW
 clear mW
 have DZ:Hid (w8=(World.drew w2).alloc (.cells #[.int .i64 (v:Int),.int .i64 (xv.length:Int)] 83)):=by show _=_;rw[ms,gA.out]
 have kt:Hid (aa w2 w8):=by show aa _ _;rw[DZ.out];exact ag _ (aj (ad _))
 have uw:Hid (eO w8 base (.slice uM xv.length uN) xv T2):=ip.keep GH.out kt.out.below
 have D4:Hid (w8.cell? ⟨w2.heap.size,0,none⟩=some (.int .i64 (v:Int))/\w8.cell? ⟨w2.heap.size,1,none⟩=some (.int .i64 (xv.length:Int))):=by show _/\_;rw[DZ.out];exact lx (World.drew w2) _ _ _
 rw[show W.heap.size=w2.heap.size from by rw[gA.out];rfl]
 clear ms gA
 (try simp only[zA])
 refine ee (fun Q' HQ=>?_)
 (refine kg (base:=base) (v:=.slice uM xv.length uN) (xs:=xv) rfl _ _ rfl rfl uw.out w2.heap.size ((v:Int),(xv.length:Int)) rfl D4.out.1 D4.out.2 Xa.out (Nat.le_trans xK.out kt.out.below.size) ?_);intro g9 GB w9 iS p7 vA;have gL:=bg.aee p7;have xM:(Value.slice uM xv.length uN).ownBlock.toList=T2:=(GH.out.2).symm;have kz:(⟨bo,0,none⟩:Addr).block∉(Value.slice uM xv.length uN).ownBlock.toList:=(by rw[xM];exact GL.out);have np:(⟨g,v,none⟩:Addr).block∉(Value.slice uM xv.length uN).ownBlock.toList:=(by rw[xM];exact GI.out);have lc:=gL.cell kz hW.1;have nY:=gL.cell np hW.2;have L0:=gL.fz np hW.2 (bf kt.out.below Od.out UX.out);refine HQ _ _ ⟨lc,nY⟩ ?_;have tK:=zh (pZ rz.out GH.out kt.out iS p7 vA GK.out GJ.out);clear iS p7 vA kz np gL xM hW
 (try simp only[zA])
 simp only[bz];go_upto_region 3 with(fail);obtain⟨Zs,dV,d8,xy⟩:=tK.out;obtain⟨w5,hw⟩:∃z,z=w9.setCell ⟨g,v,none⟩ (.slice (some ⟨g9,0,none⟩) (xv.length+1) GB):=⟨_,rfl⟩
 rw[<- hw]at dV xy ⊢;have Oe:=zh dV;have Rj:=zh d8;have uQ:=zh xy;clear hw dV d8 xy tK lc nY L0
 have Tl:Hid (az w5 base (.slice (some ⟨g,0,none⟩) n.ends.length c1) (.slice AI n.ids.length cI) (.slice AN n.aea.length cN) (lz n v) Zs):=by show az _ _ _ _ _ _ _;unfold lz rv;rw[<- KW.out];exact Oe.out
 have Zt:Hid (bD w5 bo (.slice (some ⟨g,0,none⟩) n.ends.length c1) (.slice AI n.ids.length cI) (.slice AN n.aea.length cN)):=by obtain⟨r,hr⟩:=DX.out;exact⟨r,(uQ.out.block bo yM.out.2 CN.out).trans hr⟩
 have D5:Hid (Below base w2 w5):=uQ.out.below base xK.out (fun j hj=>(vd.out.range j hj).1)
 have ec:bx w5 (w.heap.size+1) (.slice none 0 0) (.slice none 0 0) (.slice none 0 0):=(D5.out.block _ (by have h2:=xJ.out;have h3:=FJ.out;omega)).trans (J1.out w2 b_.out)
 obtain⟨d0,d1,d2,-,-,-⟩:=Zt.out.cells;obtain⟨e0,e1,e2,f0,f1,f2⟩:=ec.box.cells;clear ec;go_wp2;refine bodyPost_ret (v:=.agg #[.slice (some ⟨g,0,none⟩) n.ends.length c1,.slice AI n.ids.length cI,.slice AN n.aea.length cN]) (by simp[results,Tryz.results193,go_sem, *]) rfl ?_;have hbz:=xJ.out;have hza:=FJ.out;refine⟨_,_,_,_,rfl,(Tl.out.aeb (fun j hj=>?_)).mono (show w.heap.size<=base by omega),?_⟩
 ·have uf:=(Tl.out.range j hj).1;rw[Below.heap_setCell _ _ _ j (by simp;omega),Below.heap_setCell _ _ _ j (by simp;omega),Below.heap_setCell _ _ _ j (by simp;omega)]
 ·have hk:Below w.heap.size w w5:=(Below.trans eD.out (b_.out.below.mono (by omega))).trans (D5.out.mono (by omega));exact((hk.setCell (by simp) _).setCell (by simp) _).setCell (by simp) _
theorem nL (ve vi vn:Value) (n:ak) (v u:Nat) (w:World) (h:aQ w ve vi vn n) (hv:v<n.ends.length) (Of:u<n.ends.length) (hn:ru n):
  Calls Tryz.prog 155 #[.agg #[ve,vi,vn],.int .i64 v,.int .i64 u] w (qZ w (dK n v u)):=by
 have Jj:=zh hn;clear hn
 obtain⟨w0,A,c,A2,c2,A3,c3,rfl,rfl,rfl,eV,hm,fJ,fB,HA,bK,aT,H,dL,dR,dU⟩:=zB h;clear h
 obtain⟨wa,lj⟩:∃wa,wa=w0.alloc (.cells #[.slice none 0 0,.slice none 0 0,.slice none 0 0] 27):=⟨_,rfl⟩
 have pT:aa w0 wa:=by rw[lj];exact ag _ (ad _)
 have nk:w0.heap.size=w.heap.size+1:=by rw[bK.out];simp
 have FJ:Hid (wa.heap.size=w.heap.size+1+1):=by show _=_;rw[lj,<- nk];simp
 have J1:Hid (∀X,aa wa X->bx X (w.heap.size+1) (.slice none 0 0) (.slice none 0 0) (.slice none 0 0)):=fun X hX=>by
  refine bx.since (W:=wa) ?_ hX;rw[lj,<- nk];show(w0.heap.push _)[w0.heap.size]?=_
  rw[Array.getElem?_push_size]
 have LN:=ah dL pT;have LO:=ah dR pT;have LP:=ah dU pT;have FK:=zh lj;have zW:=zh pT;have eD:Hid (Below w.heap.size w wa):=Below.trans aT.out (pT.below.mono aT.out.size);clear lj pT nk dL dR dU
 go_enter Tryz.func155,Tryz.ntmps155
 go_upto_region 1 with(fail);rw[<- bK.out,<- FK.out];have hs:aa wa wa:=ad _;go_wp2_with fail;refine(kW _ _ _ n wa (H.out.keep zW.out.below) Jj.out.ends Jj.out.row Jj.out.sz).mono ?_;rintro e w1 ⟨we,wi,wn,S,rfl,ho,ay⟩;obtain⟨A1,c1,rfl,-,-,-⟩:=id ho.read.1;obtain⟨AI,cI,rfl,-,-,-⟩:=id ho.read.2.1;obtain⟨AN,cN,rfl,-,-,-⟩:=id ho.read.2.2;obtain⟨g,rfl,-⟩:=ho.head (by omega);obtain⟨base,ld⟩:∃base,base=wa.heap.size:=⟨_,rfl⟩
 rw[<- ld]at ho;have cY:aa wa w1:=hs.trans ay;obtain⟨w2,gR⟩:∃z,z=w1.alloc (.cells #[.slice (some ⟨g,0,none⟩) n.ends.length c1,.slice AI n.ids.length cI,.slice AN n.aea.length cN] 27):=⟨_,rfl⟩
 obtain⟨bo,xI⟩:∃z,z=w1.heap.size:=⟨_,rfl⟩
 have lJ:aa w1 w2:=by rw[gR];exact ag _ (ad _)
 have BK:bD w2 bo (.slice (some ⟨g,0,none⟩) n.ends.length c1) (.slice AI n.ids.length cI) (.slice AN n.aea.length cN):=by rw[gR,xI];exact bD.new _ _ _ _ _
 have Ku:bo∉S:=fun hj=>by have:=(ho.range _ hj).2;omega
 have xJ:=zh ld;have nX:=zh gR;have Tk:=zh xI;have vd:=zh (ho.keep lJ.below);have DX:=zh BK;have CN:=zh Ku;have b_:=zh (cY.after lJ)
 have yM:Hid (base<=bo/\bo<w2.heap.size):=⟨by rw[ld,xI];exact cY.below.size,by rw[gR,xI];simp⟩
 have qR:=dh hv;obtain⟨xv,rx⟩:∃x,x=dp n v:=⟨_,rfl⟩
 rw[<- rx]at qR;have KW:=zh rx;have Zq:=zh qR;have zi:Hid (xv.length<=1000):=Jj.out.row _ _ qR;clear ld gR xI ho BK Ku cY lJ ay hs rx qR LN LO LP
 have Tm:=dh Of;obtain⟨xu,rx⟩:∃x,x=dp n u:=⟨_,rfl⟩
 rw[<- rx]at Tm;have Hxu:=zh rx;have HXu:=zh Tm;have UY:Hid (xu.length<=1000):=Jj.out.row _ _ Tm;have rN:=zi.out;have lL:=UY.out
 have Xa:Hid (xv.length+1<=1000000):=by show _<=_;omega
 have xK:Hid (base<=w2.heap.size):=by show _<=_;have:=yM.out;omega
 have m1:IntKind.i64.wrap ((xu.length:Int)+1)=(xu.length:Int)+1:=aF _ (by omega) (by omega);clear rN lL rx Tm;obtain⟨uv,Tv,WM,-,hRv,-,-,-⟩:=vd.out.aef Zq.out;obtain⟨Av,cv,rfl,-,-,-⟩:=id hRv.read;obtain⟨uu,Tu,fh,-,hRu,-,-,-⟩:=vd.out.aef HXu.out;obtain⟨Au,cu,rfl,-,-,-⟩:=id hRu.read;have fe:=DX.out.cells.1;clear hRv hRu
 by_cases Zu:v=u
 ·subst Zu;obtain rfl:xv=xu:=by rw[Hxu.out,KW.out]
  go_upto_region 2 with(fail);rw[<- nX.out,<- Tk.out];have htt:((v:Int)=(v:Int))=True:=by simp
  go_upto_region 6 with(fail);clear WM fh fe htt;obtain⟨u2,T2,vI,Kn,Jk,ry,xL,sI,lA⟩:=vd.out.ael Zq.out;obtain⟨uM,uN,rfl,-,-,-⟩:=id Jk.read;have GH:=zh Jk;have rz:=zh lA;have DY:g≠bo:=fun h=>CN.out (h ▸ sI)
  have Zr:=zh DY;have GI:=zh xL;have GJ:=zh sI;have GK:=zh ry;have Od:=zh vI;have UX:=zh Kn;have GL:Hid (bo∉T2):=fun h=>CN.out (ry _ h)
  have vz:=zh (bD.cells DX.out);clear DY xL sI ry vI Kn Jk lA;refine aL (fun W=>W.cell? ⟨bo,0,none⟩=some (.slice (some ⟨g,0,none⟩) n.ends.length c1)/\W.cell? ⟨g,v,none⟩=some (.slice uM xv.length uN)) 13 [false,false,false,false,false,false,false,false,false,false,false,true,true] (by kernel_rfl) (by kernel_rfl) (show(World.drew w2).cell? ⟨bo,0,none⟩=some (.slice (some ⟨g,0,none⟩) n.ends.length c1)/\(World.drew w2).cell? ⟨g,v,none⟩=some (.slice uM xv.length uN)from⟨vz.out.1,Od.out⟩) ?_
  simp only[eE,ea,zT]
  iterate 11 (apply bV rfl;(intro W hW;(obtain⟨k0,k1⟩:=hW);go_simp;with_reducible rfl);simp only[zA])
  obtain⟨W,dE⟩:∃W,W=World.drew w2:=⟨_,rfl⟩
  rw[<- dE];have hW:=(show(World.drew w2).cell? ⟨bo,0,none⟩=some (.slice (some ⟨g,0,none⟩) n.ends.length c1)/\(World.drew w2).cell? ⟨g,v,none⟩=some (.slice uM xv.length uN)from⟨vz.out.1,Od.out⟩);rw[<- dE]at hW;have gA:=zh dE;clear dE
  refine dD (v:=?_) (ob:=?_) rfl ?_ ?_ ?_;rotate_left 2
  (go_simp;first | with_reducible rfl | (refine⟨?_,?_⟩ <;> with_reducible rfl))
  exact⟨bc (am _ _) hW.1,bc (am _ _) hW.2⟩;intro w8 ms mW
  replace hW:=mW
  clear mW
  have DZ:Hid (w8=(World.drew w2).alloc (.cells #[.int .i64 (v:Int),.int .i64 ((xv.length:Int)+1)] 83)):=by show _=_;rw[ms,gA.out]
  have kt:Hid (aa w2 w8):=by show aa _ _;rw[DZ.out];exact ag _ (aj (ad _))
  have uw:Hid (eO w8 base (.slice uM xv.length uN) xv T2):=ip.keep GH.out kt.out.below
  have D4:Hid (w8.cell? ⟨w2.heap.size,0,none⟩=some (.int .i64 (v:Int))/\w8.cell? ⟨w2.heap.size,1,none⟩=some (.int .i64 ((xv.length:Int)+1))):=by show _/\_;rw[DZ.out];exact lx (World.drew w2) _ _ _
  rw[show W.heap.size=w2.heap.size from by rw[gA.out];rfl]
  clear ms gA
  (try simp only[zA])
  refine ee (fun Q' HQ=>?_)
  (refine kg (base:=base) (v:=.slice uM xv.length uN) (xs:=xv) rfl _ _ rfl rfl uw.out w2.heap.size ((v:Int),((xv.length:Int)+1)) rfl D4.out.1 D4.out.2 Xa.out (Nat.le_trans xK.out kt.out.below.size) ?_);intro g9 GB w9 iS p7 vA;have gL:=bg.aee p7;have xM:(Value.slice uM xv.length uN).ownBlock.toList=T2:=(GH.out.2).symm;have kz:(⟨bo,0,none⟩:Addr).block∉(Value.slice uM xv.length uN).ownBlock.toList:=(by rw[xM];exact GL.out);have np:(⟨g,v,none⟩:Addr).block∉(Value.slice uM xv.length uN).ownBlock.toList:=(by rw[xM];exact GI.out);have lc:=gL.cell kz hW.1;have nY:=gL.cell np hW.2;have L0:=gL.fz np hW.2 (bf kt.out.below Od.out UX.out);refine HQ _ _ ⟨lc,nY⟩ ?_;have tK:=zh (pZ rz.out GH.out kt.out iS p7 vA GK.out GJ.out);clear iS p7 vA kz np gL xM hW
  (try simp only[zA])
  simp only[bz];go_upto_region 7 with(fail);obtain⟨Zs,dV,d8,xy⟩:=tK.out;obtain⟨w5,hw⟩:∃z,z=w9.setCell ⟨g,v,none⟩ (.slice (some ⟨g9,0,none⟩) (xv.length+1) GB):=⟨_,rfl⟩
  rw[<- hw]at dV xy ⊢;have Oe:=zh dV;have Rj:=zh d8;have uQ:=zh xy;clear hw dV d8 xy tK lc nY L0
  have Og:Hid (bD w5 bo (.slice (some ⟨g,0,none⟩) n.ends.length c1) (.slice AI n.ids.length cI) (.slice AN n.aea.length cN)):=by obtain⟨r,hr⟩:=DX.out;exact⟨r,(uQ.out.block bo yM.out.2 CN.out).trans hr⟩
  have J3:Hid (bo∉Zs):=fun hj=>by
   have h2:=yM.out;rcases Rj.out _ hj with h1 | h1
   ·exact CN.out h1
   ·omega
  obtain⟨xw,Rk⟩:∃z,z=xv++[((v:Int),(xv.length:Int)+1)]:=⟨_,rfl⟩
  have Zv:Hid ((n.ends.set v (xv++[((v:Int),((xv.length:Int)+1))]))[v]?=some xw):=by show _=_;rw[Rk];rw[List.getElem?_set_self (by omega)]
  have Y6:Hid (xw.length+1<=1000000):=by show _<=_;have h1:=zi.out;have h2:=UY.out;rw[Rk];simp;omega
  have xN:Hid (Below base w2 w5):=uQ.out.below base xK.out (fun j hj=>(vd.out.range j hj).1)
  have Oh:Hid (base<=w5.heap.size):=Nat.le_trans xK.out xN.out.size;have Hxw:=zh Rk;clear Rk;have Zw:=Oe;obtain⟨u5,T5,Zx,Zy,UZ,GM,Oi,GN,pt⟩:=Zw.out.ael Zv.out;obtain⟨D6,D7,rfl,-,-,-⟩:=id UZ.read;have U0:=zh UZ;have GO:=zh pt;have Oj:g≠bo:=fun h=>J3.out (h ▸ GN)
  have ab9:=zh Oj;have U3:=zh Oi;have U4:=zh GN;have U5:=zh GM;have U6:=zh Zx;have Hf5:=zh Zy;have U7:Hid (bo∉T5):=fun h=>J3.out (GM _ h)
  have UP:=zh (bD.cells Og.out);clear Oj Oi GN GM Zx Zy UZ pt;refine aL (fun W=>W.cell? ⟨bo,0,none⟩=some (.slice (some ⟨g,0,none⟩) n.ends.length c1)/\W.cell? ⟨g,v,none⟩=some (.slice D6 xw.length D7)) 13 [false,false,false,false,false,false,false,false,false,false,false,true,true] (by kernel_rfl) (by kernel_rfl) (show(World.drew w5).cell? ⟨bo,0,none⟩=some (.slice (some ⟨g,0,none⟩) n.ends.length c1)/\(World.drew w5).cell? ⟨g,v,none⟩=some (.slice D6 xw.length D7)from⟨UP.out.1,U6.out⟩) ?_
  simp only[eE,ea,zT]
  iterate 11 (apply bV rfl;(intro W hW;(obtain⟨k0,k1⟩:=hW);go_simp;with_reducible rfl);simp only[zA])
  obtain⟨W,dE⟩:∃W,W=World.drew w5:=⟨_,rfl⟩
  rw[<- dE];have hW:=(show(World.drew w5).cell? ⟨bo,0,none⟩=some (.slice (some ⟨g,0,none⟩) n.ends.length c1)/\(World.drew w5).cell? ⟨g,v,none⟩=some (.slice D6 xw.length D7)from⟨UP.out.1,U6.out⟩);rw[<- dE]at hW;have gA:=zh dE;clear dE
  refine dD (v:=?_) (ob:=?_) rfl ?_ ?_ ?_;rotate_left 2
  (go_simp;first | with_reducible rfl | (refine⟨?_,?_⟩ <;> with_reducible rfl))
  exact⟨bc (am _ _) hW.1,bc (am _ _) hW.2⟩;intro w8 ms mW
  replace hW:=mW
  clear mW
  have DZ:Hid (w8=(World.drew w5).alloc (.cells #[.int .i64 (v:Int),.int .i64 (xv.length:Int)] 83)):=by show _=_;rw[ms,gA.out]
  have kt:Hid (aa w5 w8):=by show aa _ _;rw[DZ.out];exact ag _ (aj (ad _))
  have uw:Hid (eO w8 base (.slice D6 xw.length D7) xw T5):=ip.keep U0.out kt.out.below
  have D4:Hid (w8.cell? ⟨w5.heap.size,0,none⟩=some (.int .i64 (v:Int))/\w8.cell? ⟨w5.heap.size,1,none⟩=some (.int .i64 (xv.length:Int))):=by show _/\_;rw[DZ.out];exact lx (World.drew w5) _ _ _
  rw[show W.heap.size=w5.heap.size from by rw[gA.out];rfl]
  clear ms gA
  (try simp only[zA])
  refine ee (fun Q' HQ=>?_)
  (refine kg (base:=base) (v:=.slice D6 xw.length D7) (xs:=xw) rfl _ _ rfl rfl uw.out w5.heap.size ((v:Int),(xv.length:Int)) rfl D4.out.1 D4.out.2 Y6.out (Nat.le_trans Oh.out kt.out.below.size) ?_);intro g9 GB w9 iS p7 vA;have gL:=bg.aee p7;have xM:(Value.slice D6 xw.length D7).ownBlock.toList=T5:=(U0.out.2).symm;have kz:(⟨bo,0,none⟩:Addr).block∉(Value.slice D6 xw.length D7).ownBlock.toList:=(by rw[xM];exact U7.out);have np:(⟨g,v,none⟩:Addr).block∉(Value.slice D6 xw.length D7).ownBlock.toList:=(by rw[xM];exact U3.out);have lc:=gL.cell kz hW.1;have nY:=gL.cell np hW.2;have L0:=gL.fz np hW.2 (bf kt.out.below U6.out Hf5.out);refine HQ _ _ ⟨lc,nY⟩ ?_;have tK:=zh (pZ GO.out U0.out kt.out iS p7 vA U5.out U4.out);clear iS p7 vA kz np gL xM hW
  (try simp only[zA])
  simp only[bz];go_upto_region 8 with(fail);obtain⟨Sw7,dV,d8,xy⟩:=tK.out;obtain⟨w7,hw⟩:∃z,z=w9.setCell ⟨g,v,none⟩ (.slice (some ⟨g9,0,none⟩) (xw.length+1) GB):=⟨_,rfl⟩
  rw[<- hw]at dV xy ⊢;have U8:=zh dV;have ab_:=zh d8;have D8:=zh xy;clear hw dV d8 xy tK lc nY L0
  have Tl:Hid (az w7 base (.slice (some ⟨g,0,none⟩) n.ends.length c1) (.slice AI n.ids.length cI) (.slice AN n.aea.length cN) (dK n v v) Sw7):=by
   have h1:=U8.out
   have e:({ ends:=(n.ends.set v (xv++[((v:Int),((xv.length:Int)+1))])).set v (xw++[((v:Int),(xv.length:Int))]),ids:=n.ids,aea:=n.aea }:ak)=dK n v v:=by
    have h2:=Zv.out
    have h3:dp ({ ends:=n.ends.set v (xv++[((v:Int),((xv.length:Int)+1))]),ids:=n.ids,aea:=n.aea }:ak) v=xw:=by unfold dp;rw[zDd];show((n.ends.set v _)[v]?).getD []=xw;rw[h2];rfl
    unfold dK;rw[if_pos rfl,<- KW.out];unfold rv;rw[<- KW.out,h3]
   rw[<- e];exact h1
  have Zt:Hid (bD w7 bo (.slice (some ⟨g,0,none⟩) n.ends.length c1) (.slice AI n.ids.length cI) (.slice AN n.aea.length cN)):=by obtain⟨r,hr⟩:=Og.out;exact⟨r,(D8.out.block bo (by have:=yM.out;have:=xN.out.size;omega) J3.out).trans hr⟩
  have D5:Hid (Below base w2 w7):=xN.out.trans (D8.out.below base Oh.out (fun j hj=>(Zw.out.range j hj).1))
  have ec:bx w7 (w.heap.size+1) (.slice none 0 0) (.slice none 0 0) (.slice none 0 0):=(D5.out.block _ (by have h2:=xJ.out;have h3:=FJ.out;omega)).trans (J1.out w2 b_.out)
  obtain⟨d0,d1,d2,-,-,-⟩:=Zt.out.cells;obtain⟨e0,e1,e2,f0,f1,f2⟩:=ec.box.cells;clear ec;go_wp2;refine bodyPost_ret (v:=.agg #[.slice (some ⟨g,0,none⟩) n.ends.length c1,.slice AI n.ids.length cI,.slice AN n.aea.length cN]) (by simp[results,Tryz.results155,go_sem, *]) rfl ?_;have hbz:=xJ.out;have hza:=FJ.out;refine⟨_,_,_,_,rfl,(Tl.out.aeb (fun j hj=>?_)).mono (show w.heap.size<=base by omega),?_⟩
  ·have uf:=(Tl.out.range j hj).1;rw[Below.heap_setCell _ _ _ j (by simp;omega),Below.heap_setCell _ _ _ j (by simp;omega),Below.heap_setCell _ _ _ j (by simp;omega)]
  ·have hk:Below w.heap.size w w7:=(Below.trans eD.out (b_.out.below.mono (by omega))).trans (D5.out.mono (by omega));exact((hk.setCell (by simp) _).setCell (by simp) _).setCell (by simp) _
 ·have gM:((v:Int)=(u:Int))=False:=by simp;omega
  go_upto_region 2 with(fail);rw[<- nX.out,<- Tk.out];go_upto_region 6 with(fail);clear WM fh fe gM;obtain⟨u2,T2,vI,Kn,Jk,ry,xL,sI,lA⟩:=vd.out.ael Zq.out;obtain⟨uM,uN,rfl,-,-,-⟩:=id Jk.read;have GH:=zh Jk;have rz:=zh lA;have DY:g≠bo:=fun h=>CN.out (h ▸ sI)
  have Zr:=zh DY;have GI:=zh xL;have GJ:=zh sI;have GK:=zh ry;have Od:=zh vI;have UX:=zh Kn;have GL:Hid (bo∉T2):=fun h=>CN.out (ry _ h)
  have vz:=zh (bD.cells DX.out);clear DY xL sI ry vI Kn Jk lA;refine aL (fun W=>W.cell? ⟨bo,0,none⟩=some (.slice (some ⟨g,0,none⟩) n.ends.length c1)/\W.cell? ⟨g,v,none⟩=some (.slice uM xv.length uN)) 13 [false,false,false,false,false,false,false,false,false,false,false,true,true] (by kernel_rfl) (by kernel_rfl) (show(World.drew w2).cell? ⟨bo,0,none⟩=some (.slice (some ⟨g,0,none⟩) n.ends.length c1)/\(World.drew w2).cell? ⟨g,v,none⟩=some (.slice uM xv.length uN)from⟨vz.out.1,Od.out⟩) ?_
  simp only[eE,ea,zT]
  iterate 11 (apply bV rfl;(intro W hW;(obtain⟨k0,k1⟩:=hW);go_simp;with_reducible rfl);simp only[zA])
  obtain⟨W,dE⟩:∃W,W=World.drew w2:=⟨_,rfl⟩
  rw[<- dE];have hW:=(show(World.drew w2).cell? ⟨bo,0,none⟩=some (.slice (some ⟨g,0,none⟩) n.ends.length c1)/\(World.drew w2).cell? ⟨g,v,none⟩=some (.slice uM xv.length uN)from⟨vz.out.1,Od.out⟩);rw[<- dE]at hW;have gA:=zh dE;clear dE
  refine dD (v:=?_) (ob:=?_) rfl ?_ ?_ ?_;rotate_left 2
  (go_simp;first | with_reducible rfl | (refine⟨?_,?_⟩ <;> with_reducible rfl))
  exact⟨bc (am _ _) hW.1,bc (am _ _) hW.2⟩;intro w8 ms mW
  replace hW:=mW
  clear mW
  have DZ:Hid (w8=(World.drew w2).alloc (.cells #[.int .i64 (u:Int),.int .i64 (xu.length:Int)] 83)):=by show _=_;rw[ms,gA.out]
  have kt:Hid (aa w2 w8):=by show aa _ _;rw[DZ.out];exact ag _ (aj (ad _))
  have uw:Hid (eO w8 base (.slice uM xv.length uN) xv T2):=ip.keep GH.out kt.out.below
  have D4:Hid (w8.cell? ⟨w2.heap.size,0,none⟩=some (.int .i64 (u:Int))/\w8.cell? ⟨w2.heap.size,1,none⟩=some (.int .i64 (xu.length:Int))):=by show _/\_;rw[DZ.out];exact lx (World.drew w2) _ _ _
  rw[show W.heap.size=w2.heap.size from by rw[gA.out];rfl]
  clear ms gA
  (try simp only[zA])
  refine ee (fun Q' HQ=>?_)
  (refine kg (base:=base) (v:=.slice uM xv.length uN) (xs:=xv) rfl _ _ rfl rfl uw.out w2.heap.size ((u:Int),(xu.length:Int)) rfl D4.out.1 D4.out.2 Xa.out (Nat.le_trans xK.out kt.out.below.size) ?_);intro g9 GB w9 iS p7 vA;have gL:=bg.aee p7;have xM:(Value.slice uM xv.length uN).ownBlock.toList=T2:=(GH.out.2).symm;have kz:(⟨bo,0,none⟩:Addr).block∉(Value.slice uM xv.length uN).ownBlock.toList:=(by rw[xM];exact GL.out);have np:(⟨g,v,none⟩:Addr).block∉(Value.slice uM xv.length uN).ownBlock.toList:=(by rw[xM];exact GI.out);have lc:=gL.cell kz hW.1;have nY:=gL.cell np hW.2;have L0:=gL.fz np hW.2 (bf kt.out.below Od.out UX.out);refine HQ _ _ ⟨lc,nY⟩ ?_;have tK:=zh (pZ rz.out GH.out kt.out iS p7 vA GK.out GJ.out);clear iS p7 vA kz np gL xM hW
  (try simp only[zA])
  simp only[bz];go_upto_region 7 with(fail);obtain⟨Zs,dV,d8,xy⟩:=tK.out;obtain⟨w5,hw⟩:∃z,z=w9.setCell ⟨g,v,none⟩ (.slice (some ⟨g9,0,none⟩) (xv.length+1) GB):=⟨_,rfl⟩
  rw[<- hw]at dV xy ⊢;have Oe:=zh dV;have Rj:=zh d8;have uQ:=zh xy;clear hw dV d8 xy tK lc nY L0
  have Og:Hid (bD w5 bo (.slice (some ⟨g,0,none⟩) n.ends.length c1) (.slice AI n.ids.length cI) (.slice AN n.aea.length cN)):=by obtain⟨r,hr⟩:=DX.out;exact⟨r,(uQ.out.block bo yM.out.2 CN.out).trans hr⟩
  have J3:Hid (bo∉Zs):=fun hj=>by
   have h2:=yM.out;rcases Rj.out _ hj with h1 | h1
   ·exact CN.out h1
   ·omega
  obtain⟨xw,Rk⟩:∃z,z=xu:=⟨_,rfl⟩
  have Zv:Hid ((n.ends.set v (xv++[((u:Int),(xu.length:Int))]))[u]?=some xw):=by show _=_;rw[Rk];rw[List.getElem?_set_ne Zu];exact HXu.out
  have Y6:Hid (xw.length+1<=1000000):=by show _<=_;have h1:=zi.out;have h2:=UY.out;rw[Rk];omega
  have xN:Hid (Below base w2 w5):=uQ.out.below base xK.out (fun j hj=>(vd.out.range j hj).1)
  have Oh:Hid (base<=w5.heap.size):=Nat.le_trans xK.out xN.out.size;have Hxw:=zh Rk;clear Rk;have Zw:=Oe;obtain⟨u5,T5,Zx,Zy,UZ,GM,Oi,GN,pt⟩:=Zw.out.ael Zv.out;obtain⟨D6,D7,rfl,-,-,-⟩:=id UZ.read;have U0:=zh UZ;have GO:=zh pt;have Oj:g≠bo:=fun h=>J3.out (h ▸ GN)
  have ab9:=zh Oj;have U3:=zh Oi;have U4:=zh GN;have U5:=zh GM;have U6:=zh Zx;have Hf5:=zh Zy;have U7:Hid (bo∉T5):=fun h=>J3.out (GM _ h)
  have UP:=zh (bD.cells Og.out);clear Oj Oi GN GM Zx Zy UZ pt;refine aL (fun W=>W.cell? ⟨bo,0,none⟩=some (.slice (some ⟨g,0,none⟩) n.ends.length c1)/\W.cell? ⟨g,u,none⟩=some (.slice D6 xw.length D7)) 13 [false,false,false,false,false,false,false,false,false,false,false,true,true] (by kernel_rfl) (by kernel_rfl) (show(World.drew w5).cell? ⟨bo,0,none⟩=some (.slice (some ⟨g,0,none⟩) n.ends.length c1)/\(World.drew w5).cell? ⟨g,u,none⟩=some (.slice D6 xw.length D7)from⟨UP.out.1,U6.out⟩) ?_
  simp only[eE,ea,zT]
  iterate 11 (apply bV rfl;(intro W hW;(obtain⟨k0,k1⟩:=hW);go_simp;with_reducible rfl);simp only[zA])
  obtain⟨W,dE⟩:∃W,W=World.drew w5:=⟨_,rfl⟩
  rw[<- dE];have hW:=(show(World.drew w5).cell? ⟨bo,0,none⟩=some (.slice (some ⟨g,0,none⟩) n.ends.length c1)/\(World.drew w5).cell? ⟨g,u,none⟩=some (.slice D6 xw.length D7)from⟨UP.out.1,U6.out⟩);rw[<- dE]at hW;have gA:=zh dE;clear dE
  refine dD (v:=?_) (ob:=?_) rfl ?_ ?_ ?_;rotate_left 2
  (go_simp;first | with_reducible rfl | (refine⟨?_,?_⟩ <;> with_reducible rfl))
  exact⟨bc (am _ _) hW.1,bc (am _ _) hW.2⟩;intro w8 ms mW
  replace hW:=mW
  clear mW
  have DZ:Hid (w8=(World.drew w5).alloc (.cells #[.int .i64 (v:Int),.int .i64 (xv.length:Int)] 83)):=by show _=_;rw[ms,gA.out]
  have kt:Hid (aa w5 w8):=by show aa _ _;rw[DZ.out];exact ag _ (aj (ad _))
  have uw:Hid (eO w8 base (.slice D6 xw.length D7) xw T5):=ip.keep U0.out kt.out.below
  have D4:Hid (w8.cell? ⟨w5.heap.size,0,none⟩=some (.int .i64 (v:Int))/\w8.cell? ⟨w5.heap.size,1,none⟩=some (.int .i64 (xv.length:Int))):=by show _/\_;rw[DZ.out];exact lx (World.drew w5) _ _ _
  rw[show W.heap.size=w5.heap.size from by rw[gA.out];rfl]
  clear ms gA
  (try simp only[zA])
  refine ee (fun Q' HQ=>?_)
  (refine kg (base:=base) (v:=.slice D6 xw.length D7) (xs:=xw) rfl _ _ rfl rfl uw.out w5.heap.size ((v:Int),(xv.length:Int)) rfl D4.out.1 D4.out.2 Y6.out (Nat.le_trans Oh.out kt.out.below.size) ?_);intro g9 GB w9 iS p7 vA;have gL:=bg.aee p7;have xM:(Value.slice D6 xw.length D7).ownBlock.toList=T5:=(U0.out.2).symm;have kz:(⟨bo,0,none⟩:Addr).block∉(Value.slice D6 xw.length D7).ownBlock.toList:=(by rw[xM];exact U7.out);have np:(⟨g,u,none⟩:Addr).block∉(Value.slice D6 xw.length D7).ownBlock.toList:=(by rw[xM];exact U3.out);have lc:=gL.cell kz hW.1;have nY:=gL.cell np hW.2;have L0:=gL.fz np hW.2 (bf kt.out.below U6.out Hf5.out);refine HQ _ _ ⟨lc,nY⟩ ?_;have tK:=zh (pZ GO.out U0.out kt.out iS p7 vA U5.out U4.out);clear iS p7 vA kz np gL xM hW
  (try simp only[zA])
  simp only[bz];go_upto_region 8 with(fail);obtain⟨Sw7,dV,d8,xy⟩:=tK.out;obtain⟨w7,hw⟩:∃z,z=w9.setCell ⟨g,u,none⟩ (.slice (some ⟨g9,0,none⟩) (xw.length+1) GB):=⟨_,rfl⟩
  rw[<- hw]at dV xy ⊢;have U8:=zh dV;have ab_:=zh d8;have D8:=zh xy;clear hw dV d8 xy tK lc nY L0
  have Tl:Hid (az w7 base (.slice (some ⟨g,0,none⟩) n.ends.length c1) (.slice AI n.ids.length cI) (.slice AN n.aea.length cN) (dK n v u) Sw7):=by
   have h1:=U8.out
   have e:({ ends:=(n.ends.set v (xv++[((u:Int),(xu.length:Int))])).set u (xw++[((v:Int),(xv.length:Int))]),ids:=n.ids,aea:=n.aea }:ak)=dK n v u:=by
    have h2:=Zv.out
    have h3:dp ({ ends:=n.ends.set v (xv++[((u:Int),(xu.length:Int))]),ids:=n.ids,aea:=n.aea }:ak) u=xw:=by unfold dp;rw[zDd];show((n.ends.set v _)[u]?).getD []=xw;rw[h2];rfl
    unfold dK;rw[if_neg Zu,<- KW.out,<- Hxu.out];unfold rv;rw[<- KW.out,h3]
   rw[<- e];exact h1
  have Zt:Hid (bD w7 bo (.slice (some ⟨g,0,none⟩) n.ends.length c1) (.slice AI n.ids.length cI) (.slice AN n.aea.length cN)):=by obtain⟨r,hr⟩:=Og.out;exact⟨r,(D8.out.block bo (by have:=yM.out;have:=xN.out.size;omega) J3.out).trans hr⟩
  have D5:Hid (Below base w2 w7):=xN.out.trans (D8.out.below base Oh.out (fun j hj=>(Zw.out.range j hj).1))
  have ec:bx w7 (w.heap.size+1) (.slice none 0 0) (.slice none 0 0) (.slice none 0 0):=(D5.out.block _ (by have h2:=xJ.out;have h3:=FJ.out;omega)).trans (J1.out w2 b_.out)
  obtain⟨d0,d1,d2,-,-,-⟩:=Zt.out.cells;obtain⟨e0,e1,e2,f0,f1,f2⟩:=ec.box.cells;clear ec;go_wp2;refine bodyPost_ret (v:=.agg #[.slice (some ⟨g,0,none⟩) n.ends.length c1,.slice AI n.ids.length cI,.slice AN n.aea.length cN]) (by simp[results,Tryz.results155,go_sem, *]) rfl ?_;have hbz:=xJ.out;have hza:=FJ.out;refine⟨_,_,_,_,rfl,(Tl.out.aeb (fun j hj=>?_)).mono (show w.heap.size<=base by omega),?_⟩
  ·have uf:=(Tl.out.range j hj).1;rw[Below.heap_setCell _ _ _ j (by simp;omega),Below.heap_setCell _ _ _ j (by simp;omega),Below.heap_setCell _ _ _ j (by simp;omega)]
  ·have hk:Below w.heap.size w w7:=(Below.trans eD.out (b_.out.below.mono (by omega))).trans (D5.out.mono (by omega));exact((hk.setCell (by simp) _).setCell (by simp) _).setCell (by simp) _
def GP (n:ak) (e:Int×Int):Prop:=∃(a b:Nat) (fs:List (Int×Int)),e=((a:Int),(b:Int))/\n.ends[a]?=some fs/\b<fs.length
def Qe (n:ak):Prop:=∀(k:Nat) (es:List (Int×Int)),n.ends[k]?=some es->∀e∈es,GP n e
def pz (n N:ak):Prop:=∀(k:Nat) (es:List (Int×Int)),N.ends[k]?=some es->∀e∈es,GP n e
structure jV (n N:ak):Prop where
 ids:N.ids=n.ids
 aea:N.aea=n.aea
 len:N.ends.length=n.ends.length
 row:∀(k:Nat) (es:List (Int×Int)),n.ends[k]?=some es->∃fs,N.ends[k]?=some fs/\fs.length=es.length
theorem jV.refl (n:ak):jV n n:=⟨rfl,rfl,rfl,fun _ es h=>⟨es,h,rfl⟩⟩
theorem GP.sh {n N:ak} (h:jV n N) {e:Int×Int} (he:GP n e):GP N e:=by
 obtain⟨a,b,fs,h1,h2,h3⟩:=he;obtain⟨gs,h4,h5⟩:=h.row a fs h2;exact⟨a,b,gs,h1,h4,by omega⟩
theorem pz.wf {n N:ak} (h:jV n N) (ha:pz n N):Qe N:=fun k es he e hm=>(ha k es he e hm).sh h
theorem jV.put {n N:ak} (h:jV n N) {k j:Nat} {es:List (Int×Int)} (hx:N.ends[k]?=some es) (y:Int×Int):jV n { N with ends:=N.ends.set k (es.set j y) }:=⟨h.ids,h.aea,by show(N.ends.set k _).length=_;rw[List.length_set];exact h.len,fun q fs hq=>by
 obtain⟨gs,h1,h2⟩:=h.row q fs hq
 by_cases e:q=k
 ·subst e;refine⟨es.set j y,?_,?_⟩
  ·show(N.ends.set q _)[q]?=_
   rw[List.getElem?_set_self (an hx)]
  ·rw[hx]at h1;cases h1;rw[List.length_set];exact h2
 ·exact⟨gs,by show(N.ends.set k _)[q]?=_;rw[List.getElem?_set_ne (Ne.symm e)];exact h1,h2⟩⟩
theorem pz.put {n N:ak} (h:pz n N) {k j:Nat} {es:List (Int×Int)} (hx:N.ends[k]?=some es) {y:Int×Int} (hy:GP n y):pz n { N with ends:=N.ends.set k (es.set j y) }:=fun q fs hq e he=>by
 by_cases hqk:q=k
 ·subst hqk;have Tc:(N.ends.set q (es.set j y))[q]?=some fs:=hq;rw[List.getElem?_set_self (an hx)]at Tc;cases Tc;rcases List.mem_or_eq_of_mem_set he with h1 | h1
  ·exact h q es hx e h1
  ·rw[h1];exact hy
 ·have Tc:(N.ends.set k (es.set j y))[q]?=some fs:=hq;rw[List.getElem?_set_ne (Ne.symm hqk)]at Tc;exact h q fs Tc e he
structure Cp (wa W:World) (ob g c m:Nat) (vi vn:Value) (N:ak) (S:List Nat):Prop where
 own:az W wa.heap.size (.slice (some ⟨g,0,none⟩) m c) vi vn N S
 box:bD W ob (.slice (some ⟨g,0,none⟩) m c) vi vn
 nb:ob∉S
 since:aa wa W
theorem Cp.keep {wa W W':World} {ob g c m:Nat} {vi vn:Value} {N:ak} {S:List Nat} (h:Cp wa W ob g c m vi vn N S) (hs:aa W W'):Cp wa W' ob g c m vi vn N S:=
 ⟨h.own.keep hs.below,h.box.below hs h.box.lt,h.nb,h.since.after hs⟩
theorem Cp.put {wa W:World} {ob g c m:Nat} {vi vn:Value} {N:ak} {S:List Nat} (h:Cp wa W ob g c m vi vn N S) {p:Addr} (hp:wa.heap.size<=p.block) (hS:p.block∉S) (ho:p.block≠ob) (u:Value):Cp wa (W.setCell p u) ob g c m vi vn N S:=
 ⟨h.own.aeb (fun k hk=>Below.heap_setCell _ _ _ _ (fun e=>hS (e ▸ hk))),h.box.set ho,h.nb,h.since.setCell hp _⟩
theorem Cp.port {wa W:World} {ob g c m:Nat} {vi vn:Value} {N:ak} {S:List Nat} (h:Cp wa W ob g c m vi vn N S) {k j:Nat} {es:List (Int×Int)} (hx:N.ends[k]?=some es) (hj:j<es.length):
  ∃gr cr:Nat,W.cell? ⟨g,k,none⟩=some (.slice (some ⟨gr,0,none⟩) es.length cr)/\es.length<=cr/\cr<=9223372036854775807/\gr∈S/\g≠gr/\gr≠ob/\W.frozen? ⟨gr,j*2,none⟩=false/\W.frozen? ⟨gr,j*2+1,none⟩=false/\(∃z,W.cell? ⟨gr,j*2,none⟩=some z)/\(∃z,W.cell? ⟨gr,j*2+1,none⟩=some z) /\
   ∀y:Int×Int,Cp wa ((W.setCell ⟨gr,j*2,none⟩ (.int .i64 y.1)).setCell ⟨gr,j*2+1,none⟩ (.int .i64 y.2)) ob g c m vi vn { N with ends:=N.ends.set k (es.set j y) } S:=by
 obtain⟨gr,cr,c1,c2,c3,c4,c5,c6,⟨c7,c8⟩,c9,c10,ox⟩:=h.own.aep hx hj;have hgs:wa.heap.size<=gr:=(h.own.range gr c5).1;have hn:gr≠ob:=fun e=>h.nb (e ▸ c5)
 unfold maxLen at c3;exact⟨gr,cr,c1,c2,by omega,c5,c6,hn,c7,c8,c9,c10,fun y=>⟨ox y,(h.box.set hn).set hn,h.nb,(h.since.setCell hgs _).setCell hgs _⟩⟩
def Zz (w:World) (n:ak) (e:Ending) (w':World):Prop:=∃N,jV n N/\Qe N/\qZ w N e w'
theorem D9 (ve vi vn vp:Value) (n:ak) (v:Nat) (xs:List Int) (w:World) (h:aQ w ve vi vn n) (hv:v<n.ends.length) (hn:ru n) (ZA:Qe n) (hp:aY w vp xs) (qH:xs.length=(dp n v).length) (gG:rt (dp n v).length xs):
  Calls Tryz.prog 208 #[.agg #[ve,vi,vn],.int .i64 v,vp] w (Zz w n):=by
 obtain⟨xv,rx⟩:∃x,x=dp n v:=⟨_,rfl⟩
 rw[<- rx]at qH gG;have qR:=dh hv;rw[<- rx]at qR;have ft:=zh gG;have Fh:=zh qH;have U9:=zh qR;have Jj:=zh hn;have Hwf:=zh ZA;have zi:Hid (xv.length<=1000):=hn.row _ _ qR;clear hn ZA qR rx qH gG;obtain⟨AP,cP,rfl,hlP,hmP,-⟩:=id hp
 obtain⟨w0,A,c,A2,c2,A3,c3,rfl,rfl,rfl,eV,hm,fJ,fB,HA,bK,aT,H,dL,dR,dU⟩:=zB h;clear h
 obtain⟨wa,lj⟩:∃wa,wa=w0.alloc (.cells #[.slice none 0 0,.slice none 0 0,.slice none 0 0] 27):=⟨_,rfl⟩
 have pT:aa w0 wa:=by rw[lj];exact ag _ (ad _)
 have nk:w0.heap.size=w.heap.size+1:=by rw[bK.out];simp
 have FJ:Hid (wa.heap.size=w.heap.size+1+1):=by show _=_;rw[lj,<- nk];simp
 have J1:Hid (∀X,aa wa X->bx X (w.heap.size+1) (.slice none 0 0) (.slice none 0 0) (.slice none 0 0)):=fun X hX=>by
  refine bx.since (W:=wa) ?_ hX;rw[lj,<- nk];show(w0.heap.push _)[w0.heap.size]?=_
  rw[Array.getElem?_push_size]
 have HP:=zh (show ∀X,aa wa X->aY X (.slice AP xs.length cP) xs from fun X hX=>(hp.keep aT.out).keep (pT.after hX).below)
 have HN:=zh (show ∀X,aa wa X->aQ X (.slice A n.ends.length c) (.slice A2 n.ids.length c2) (.slice A3 n.aea.length c3) n from fun X hX=>H.out.keep (pT.after hX).below)
 have LN:=ah dL pT;have LO:=ah dR pT;have LP:=ah dU pT;have FK:=zh lj;have zW:=zh pT;have eD:Hid (Below w.heap.size w wa):=Below.trans aT.out (pT.below.mono aT.out.size);clear lj pT nk dL dR dU hp
 go_enter Tryz.func208,Tryz.ntmps208
 go_upto_region 1 with(fail);rw[<- bK.out,<- FK.out];have hs:aa wa wa:=ad _;go_wp2_with fail;refine(kW _ _ _ n wa (HN.out _ hs) Jj.out.ends Jj.out.row Jj.out.sz).mono ?_;rintro e w1 ⟨we,wi,wn,S,rfl,ho,ay⟩;obtain⟨A1,c1,rfl,-,-,-⟩:=id ho.read.1;obtain⟨AI,cI,rfl,-,-,-⟩:=id ho.read.2.1;obtain⟨AN,cN,rfl,-,-,-⟩:=id ho.read.2.2;obtain⟨g,rfl,-⟩:=ho.head (by omega);have cY:aa wa w1:=hs.trans ay;obtain⟨w2,gR⟩:∃z,z=w1.alloc (.cells #[.slice (some ⟨g,0,none⟩) n.ends.length c1,.slice AI n.ids.length cI,.slice AN n.aea.length cN] 27):=⟨_,rfl⟩
 obtain⟨bo,xI⟩:∃z,z=w1.heap.size:=⟨_,rfl⟩
 have lJ:aa w1 w2:=by rw[gR];exact ag _ (ad _)
 have Jl:Cp wa w2 bo g c1 n.ends.length (.slice AI n.ids.length cI) (.slice AN n.aea.length cN) n S:=by
  refine⟨ho.keep lJ.below,by rw[gR,xI];exact bD.new _ _ _ _ _,fun hj=>by have:=(ho.range _ hj).2;omega,cY.after lJ⟩
 have Hcp:=zh Jl;have nX:=zh gR;have Tk:=zh xI;have d_:=cY.after lJ
 have yM:Hid (wa.heap.size<=bo/\bo<w2.heap.size):=⟨by rw[xI];exact cY.below.size,by rw[gR,xI];simp⟩
 have HSr:Hid (∀j∈S,wa.heap.size<=j/\j<w2.heap.size):=Jl.own.range;obtain⟨br,y4,cr0,ur,hA0,-,hrc,hEr⟩:=gy (HN.out wa (ad _)).es U9.out;cases hA0;obtain⟨A9,y9,rfl,dV,d8,BX⟩:=hEr;unfold maxLen at d8;have HA9:=zh BX;have r0:=ah (ae hrc) d_;have m00:=ah LN d_;have m01:=ah LO d_;have m02:=ah LP d_;have fe:=Jl.box.cells.1;clear BX hrc Jl xI gR ho cY lJ ay hs LN LO LP;go_upto_region 2 with(fail);rw[<- nX.out,<- Tk.out];have b_:=zh d_;clear d_ fe;have r0':=r0 w2 (ad _);have m0':=m00 w2 (ad _);clear r0 m00 m01 m02;go_wp2;clear r0' m0'
 go_loopw [18] (fun i wr=>∃(k:Nat) (N:ak),k<=xv.length/\i=.int .i64 k/\Cp wa wr bo g c1 n.ends.length (.slice AI n.ids.length cI) (.slice AN n.aea.length cN) N S/\jV n N/\pz n N) (fun i _=>xv.length-(intOf i).toNat)
 case atStart=>exact⟨0,n,Nat.zero_le _,rfl,Hcp.out,jV.refl _,Hwf.out⟩
 case round=>
  obtain⟨k,N,hk,rfl,Jl,Xb,hal⟩:=hrel;have aca:=zh Jl;have Ol:=zh Xb;have Hal:=zh hal;have nA:=zh Jl.since;clear Xb hal
  by_cases hlt:k<xv.length
  ·obtain⟨e,he⟩:=aM xv k hlt;obtain⟨a,b,fs,rfl,hfa,qE⟩:=Hwf.out v xv U9.out e (List.mem_of_getElem? he);obtain⟨b9,o9,rfl,tp,oQ⟩:=HA9.out k _ he;have s1:=ae tp wr nA.out;have s2:=ae oQ wr nA.out
   obtain⟨p,hp⟩:=aM xs k (by rw[Fh.out];exact hlt)
   obtain⟨AP',cP',Rl,-,-,hP⟩:=HP.out wr nA.out;simp only[Value.slice.injEq]at Rl;obtain⟨rfl,-,rfl⟩:=Rl;obtain⟨bp,op,rfl,iN⟩:=hP k p hp;obtain⟨hp0,As⟩:=ft.out p (List.mem_of_getElem? hp);obtain⟨pn,rfl⟩:∃pn:Nat,p=(pn:Int):=⟨p.toNat,by omega⟩
   have Nk:pn<xv.length:=by omega
   have m4:IntKind.i64.wrap ((k:Int)+1)=(k:Int)+1:=aF _ (by omega) (by omega);obtain⟨w3,iR⟩:∃z,z=wr.alloc (.cells #[.int .i64 (a:Int),.int .i64 (b:Int)] 83):=⟨_,rfl⟩
   obtain⟨eb,Jf⟩:∃z,z=wr.heap.size:=⟨_,rfl⟩
   have h3:aa wr w3:=by rw[iR];exact ag _ (ad _)
   have Xc:mR w3 eb #[.int .i64 (a:Int),.int .i64 (b:Int)]:=by rw[iR,Jf];exact mR.new _ _ _
   have HE3:=zh Xc
   have Rm:Hid (eb∉S):=fun hj=>by have:=(Jl.own.range _ hj).2;omega
   have acb:Hid (eb≠bo):=fun e=>by have:=Jl.box.lt;omega
   have acd:Hid (wa.heap.size<=eb):=by show _<=_;rw[Jf];exact Jl.since.below.size
   have U_:=zh (Jl.keep h3);have t1:=(Xc.cell 0 _ rfl).1;have t2:=(Xc.cell 1 _ rfl).1;have f2:=(Xc.cell 1 _ rfl).2;have pc3:=bc h3.below iN;have xc:=zh iR;have UV:=zh Jf;have Hp:=zh hp;have Hfa:=zh hfa;have Hx:=zh Xc;have H3:=zh h3;clear Jl he tp oQ hp0 As hp iN hP iR Jf Xc h3 hfa;go_upto_region 5 with(fail);rw[<- xc.out,<- UV.out];clear s1 s2
   by_cases hav:a=v
   ·subst hav
    obtain rfl:fs=xv:=by have h1:=Hfa.out;rw[U9.out]at h1;cases h1;rfl
    obtain⟨q,hq⟩:=aM xs b (by rw[Fh.out];exact qE)
    obtain⟨AP',cP',Rl,-,-,hP⟩:=HP.out w3 (nA.out.after H3.out);simp only[Value.slice.injEq]at Rl;obtain⟨Rl,-,rfl⟩:=Rl;obtain⟨bp',op',hA7,hqc⟩:=hP b q hq
    obtain⟨rfl,rfl⟩:bp=bp'/\op=op':=by rw[hA7]at Rl;simpa using Rl
    obtain⟨nZ,oC⟩:=ft.out q (List.mem_of_getElem? hq);have CO:Hid (GP n ((a:Int),q)):=⟨a,q.toNat,fs,by rw[Int.toNat_of_nonneg nZ],U9.out,by omega⟩
    clear Rl hA7 hP hq nZ oC;have htt:((a:Int)=(a:Int))=True:=by simp
    have adR:b<xs.length:=by rw[Fh.out];exact qE
    go_upto_region 8 with(fail);obtain⟨w4,iC⟩:∃z,z=w3.setCell ⟨eb,1,none⟩ (.int .i64 q):=⟨_,rfl⟩
    rw[<- iC]
    have Va:mR w4 eb #[.int .i64 (a:Int),.int .i64 q]:=by rw[iC];exact px Hx.out 1 _
    have GQ:Hid (Cp wa w4 bo g c1 n.ends.length (.slice AI n.ids.length cI) (.slice AN n.aea.length cN) N S):=by show Cp _ _ _ _ _ _ _ _ _ _;rw[iC];exact U_.out.put (p:=⟨eb,1,none⟩) acd.out Rm.out acb.out _
    clear pc3 t1 t2 f2 hqc htt iC;have Om:=zh GQ.out.since;obtain⟨gv,mE,ace⟩:=Ol.out.row a fs U9.out;obtain⟨gr,cr,kB,n1',n2',Xd,n4',n5',ZB,Dz,⟨z0',Bj⟩,⟨XG,Dy⟩,ox⟩:=GQ.out.port (j:=pn) mE (by omega);have ox:=ox ((a:Int),(q:Int));have Fg:=zh ox;have IS:=zh mE;have CJ:pn<gv.length:=by omega
    have ZC:gr≠eb:=fun e=>Rm.out (e ▸ Xd)
    clear ox mE;have t0:=ae GQ.out.box.cells.1;have t4:=ae kB;have Vb:=ae (Va.cell 0 _ rfl).1;have Vc:=ae (Va.cell 1 _ rfl).1;obtain⟨AP5,cP5,BO,-,-,KX⟩:=HP.out w4 Om.out;simp only[Value.slice.injEq]at BO;obtain⟨BO,-,rfl⟩:=BO;obtain⟨bp5,op5,ZD,On⟩:=KX k _ Hp.out
    obtain⟨rfl,rfl⟩:bp=bp5/\op=op5:=by rw[ZD]at BO;simpa using BO
    have ZE:=ae On
    have hkx:k<xs.length:=by rw[Fh.out];exact hlt
    clear BO ZD KX On Va;refine eR (w0:=w4) 11 [false,false,false,false,false,false,false,false,false,false,false] (by kernel_rfl) (by kernel_rfl) (ad _) ?_;simp only[eE,ea,zT]
    iterate 11 (apply aR rfl;(intro W hW;go_simp;with_reducible rfl);simp only[zA])
    simp only[lX,bz];obtain⟨W,dE⟩:∃W,W=World.drew w4:=⟨_,rfl⟩
    rw[<- dE]
    have hW:aa w4 W:=by rw[dE];exact aj (ad _)
    go_upto_region 9 with(fail);obtain⟨w5,rO⟩:∃X,X=World.drew ((w4.setCell ⟨gr,pn*2,none⟩ (.int .i64 (a:Int))).setCell ⟨gr,pn*2+1,none⟩ (.int .i64 (q:Int))):=⟨_,rfl⟩
    rw[<- rO]
    have Vd:Hid (Cp wa w5 bo g c1 n.ends.length (.slice AI n.ids.length cI) (.slice AN n.aea.length cN) ({ N with ends:=N.ends.set a (gv.set pn ((a:Int),(q:Int))) }:ak) S):=by show Cp _ _ _ _ _ _ _ _ _ _;rw[rO];exact Fg.out.keep (aj (ad _))
    have Ve:=zh (Ol.out.put (j:=pn) IS.out ((a:Int),(q:Int)));have Vf:=zh (Hal.out.put (j:=pn) IS.out CO.out);clear rO Fg kB Bj Dy ZB Dz t0 t4 Vb Vc ZE;go_wp2;go_roundw
    case rel=>exact⟨k+1,_,by omega,by first | rfl | go_num,Vd.out,Ve.out,Vf.out⟩
    case measure=>simp[intOf];omega
   ·have gM:((a:Int)=(v:Int))=False:=by simp;omega
    obtain⟨ga,hga,adS⟩:=Ol.out.row a fs Hfa.out;obtain⟨gr,cr,kB,n1',n2',Xd,n4',n5',ZB,Dz,⟨z0',Bj⟩,⟨XG,Dy⟩,ox⟩:=U_.out.port (j:=b) hga (by omega);have CO:Hid (GP n ((v:Int),(pn:Int))):=⟨v,pn,xv,rfl,U9.out,Nk⟩;have ox:=ox ((v:Int),(pn:Int));have Fg:=zh ox;have Hga:=zh hga;have CJ:b<ga.length:=by omega
    have ZC:gr≠eb:=fun e=>Rm.out (e ▸ Xd)
    have hal:a<n.ends.length:=an Hfa.out
    have adT:k<xs.length:=by rw[Fh.out];exact hlt
    clear ox hga;go_upto_region 7 with(fail);clear gM;have t0:=ae U_.out.box.cells.1;have t4:=ae kB;have Vb:=ae t1;have Vc:=ae t2;have ZE:=ae pc3;clear t1 t2 pc3;refine eR (w0:=w3) 15 [false,false,false,false,false,false,false,false,false,false,false,false,false,false,false] (by kernel_rfl) (by kernel_rfl) (ad _) ?_;simp only[eE,ea,zT]
    iterate 15 (apply aR rfl;(intro W hW;go_simp;with_reducible rfl);simp only[zA])
    simp only[lX,bz];obtain⟨W,dE⟩:∃W,W=World.drew w3:=⟨_,rfl⟩
    rw[<- dE]
    have hW:aa w3 W:=by rw[dE];exact aj (ad _)
    go_upto_region 8 with(fail);obtain⟨w4,iC⟩:∃X,X=World.drew ((w3.setCell ⟨gr,b*2,none⟩ (.int .i64 (v:Int))).setCell ⟨gr,b*2+1,none⟩ (.int .i64 (pn:Int))):=⟨_,rfl⟩
    rw[<- iC]
    have Oo:Hid (Cp wa w4 bo g c1 n.ends.length (.slice AI n.ids.length cI) (.slice AN n.aea.length cN) ({ N with ends:=N.ends.set a (ga.set b ((v:Int),(pn:Int))) }:ak) S):=by show Cp _ _ _ _ _ _ _ _ _ _;rw[iC];exact Fg.out.keep (aj (ad _))
    have Va:mR w4 eb #[.int .i64 (a:Int),.int .i64 (b:Int)]:=by rw[iC];exact(Hx.out.set (p:=⟨gr,b*2,none⟩) ZC).set (p:=⟨gr,b*2+1,none⟩) ZC
    have Oq:=zh (Ol.out.put (j:=b) Hga.out ((v:Int),(pn:Int)));have Tn:=zh (Hal.out.put (j:=b) Hga.out CO.out);obtain⟨N4,hN4⟩:∃z,z=({ N with ends:=N.ends.set a (ga.set b ((v:Int),(pn:Int))) }:ak):=⟨_,rfl⟩
    rw[<- hN4]at Oo Oq Tn;have GQ:=Oo;clear iC Fg kB Bj Dy ZB Dz t0 t4 Vb Vc ZE n1' n2' Xd n4' n5' ZC f2 hN4 Oo;have ZF:Hid (GP n ((a:Int),(b:Int))):=⟨a,b,fs,rfl,Hfa.out,qE⟩;clear CO;have CO:=ZF;clear ZF;have Om:=zh GQ.out.since;obtain⟨gv,mE,ace⟩:=Oq.out.row v xv U9.out;obtain⟨gr,cr,kB,n1',n2',Xd,n4',n5',ZB,Dz,⟨z0',Bj⟩,⟨XG,Dy⟩,ox⟩:=GQ.out.port (j:=pn) mE (by omega);have ox:=ox ((a:Int),(b:Int));have Fg:=zh ox;have IS:=zh mE;have CJ:pn<gv.length:=by omega
    have ZC:gr≠eb:=fun e=>Rm.out (e ▸ Xd)
    clear ox mE;have t0:=ae GQ.out.box.cells.1;have t4:=ae kB;have Vb:=ae (Va.cell 0 _ rfl).1;have Vc:=ae (Va.cell 1 _ rfl).1;obtain⟨AP5,cP5,BO,-,-,KX⟩:=HP.out w4 Om.out;simp only[Value.slice.injEq]at BO;obtain⟨BO,-,rfl⟩:=BO;obtain⟨bp5,op5,ZD,On⟩:=KX k _ Hp.out
    obtain⟨rfl,rfl⟩:bp=bp5/\op=op5:=by rw[ZD]at BO;simpa using BO
    have ZE:=ae On
    have hkx:k<xs.length:=by rw[Fh.out];exact hlt
    clear BO ZD KX On Va;refine eR (w0:=w4) 11 [false,false,false,false,false,false,false,false,false,false,false] (by kernel_rfl) (by kernel_rfl) (ad _) ?_;simp only[eE,ea,zT]
    iterate 11 (apply aR rfl;(intro W hW;go_simp;with_reducible rfl);simp only[zA])
    simp only[lX,bz];obtain⟨W,dE⟩:∃W,W=World.drew w4:=⟨_,rfl⟩
    rw[<- dE]
    have hW:aa w4 W:=by rw[dE];exact aj (ad _)
    go_upto_region 9 with(fail);obtain⟨w5,rO⟩:∃X,X=World.drew ((w4.setCell ⟨gr,pn*2,none⟩ (.int .i64 (a:Int))).setCell ⟨gr,pn*2+1,none⟩ (.int .i64 (b:Int))):=⟨_,rfl⟩
    rw[<- rO]
    have Vd:Hid (Cp wa w5 bo g c1 n.ends.length (.slice AI n.ids.length cI) (.slice AN n.aea.length cN) ({ N4 with ends:=N4.ends.set v (gv.set pn ((a:Int),(b:Int))) }:ak) S):=by show Cp _ _ _ _ _ _ _ _ _ _;rw[rO];exact Fg.out.keep (aj (ad _))
    have Ve:=zh (Oq.out.put (j:=pn) IS.out ((a:Int),(b:Int)));have Vf:=zh (Tn.out.put (j:=pn) IS.out CO.out);clear rO Fg kB Bj Dy ZB Dz t0 t4 Vb Vc ZE;go_wp2;go_roundw
    case rel=>exact⟨k+1,_,by omega,by first | rfl | go_num,Vd.out,Ve.out,Vf.out⟩
    case measure=>simp[intOf];omega
  ·obtain rfl:k=xv.length:=by omega
   have ec:=J1.out wr nA.out;obtain⟨d0,d1,d2,-,-,-⟩:=aca.out.box.cells;obtain⟨e0,e1,e2,f0,f1,f2⟩:=ec.box.cells;have Hc:=zh Jl;clear ec Jl;go_wp2;refine bodyPost_ret (v:=.agg #[.slice (some ⟨g,0,none⟩) n.ends.length c1,.slice AI n.ids.length cI,.slice AN n.aea.length cN]) (by simp[results,Tryz.results208,go_sem, *]) rfl ?_;have hza:=FJ.out;refine⟨N,Ol.out,Hal.out.wf Ol.out,_,_,_,S,rfl,((Hc.out.own.aeb (fun j hj=>?_)).mono (show w.heap.size<=wa.heap.size by omega)),?_⟩
   ·have uf:=(Hc.out.own.range j hj).1;rw[Below.heap_setCell _ _ _ j (by simp;omega),Below.heap_setCell _ _ _ j (by simp;omega),Below.heap_setCell _ _ _ j (by simp;omega)]
   ·have nY:Below w.heap.size w wr:=Below.trans eD.out (nA.out.below.mono (by omega));exact((nY.setCell (by simp) _).setCell (by simp) _).setCell (by simp) _
structure L8 (n N:ak):Prop where
 ids:N.ids.length=n.ids.length
 aea:N.aea.length=n.aea.length
 len:N.ends.length=n.ends.length
 row:∀(k:Nat) (es:List (Int×Int)),n.ends[k]?=some es->∃fs,N.ends[k]?=some fs/\fs.length=es.length
theorem jV.shp {n N:ak} (h:jV n N):L8 n N:=⟨by rw[h.ids],by rw[h.aea],h.len,h.row⟩
theorem L8.refl (n:ak):L8 n n:=(jV.refl n).shp
theorem L8.trans {a b c:ak} (h:L8 a b) (h':L8 b c):L8 a c:=⟨h'.ids.trans h.ids,h'.aea.trans h.aea,h'.len.trans h.len,fun k es he=>by
 obtain⟨fs,h1,h2⟩:=h.row k es he;obtain⟨gs,h3,h4⟩:=h'.row k fs h1
 exact⟨gs,h3,by omega⟩⟩
structure Gd (R M:Nat) (n:ak):Prop where
 ends:n.ends.length<=M
 row:∀(k:Nat) (es:List (Int×Int)),n.ends[k]?=some es->es.length<=R
 ids:n.ids.length<=M
 aea:n.aea.length=n.ends.length
 wf:Qe n
theorem Ot {l:List (List (Int×Int))} {R:Nat} (h:∀es∈l,es.length<=R):qx l<=2*R*l.length:=by
 induction l with
 | nil=>simp[qx]
 | cons a l ih=>
  have h1:=ih (fun es he=>h es (List.mem_cons_of_mem _ he))
  have h2:=h a (by simp);simp only[qx,List.length_cons];have h3:2*R*(l.length+1)=2*R*l.length+2*R:=by rw[Nat.mul_add,Nat.mul_one]
  omega
theorem Jm (l:List (List (Int×Int))):Ub l<=l.length+qx l:=by
 unfold Ub
 have:Bh l<=qx l:=by
  induction l with
  | nil=>simp[Bh,qx]
  | cons a r ih=>simp only[qx,Bh,List.map_cons,List.sum_cons]at *;omega
 omega
theorem Gd.small {R M:Nat} {n:ak} (h:Gd R M n) (hR:R<=100) (hM:M<=100):ru n:=by
 refine⟨by have:=h.ends;omega,fun k es he=>by have:=h.row k es he;omega,?_⟩
 have h1:qx n.ends<=2*R*n.ends.length:=Ot (fun es he=>by
  obtain⟨k,hk⟩:=List.getElem?_of_mem he
  exact h.row k es hk)
 have h2:=Jm n.ends
 have h3:2*R*n.ends.length<=2*100*100:=Nat.mul_le_mul (by omega) (by have:=h.ends;omega)
 have:=h.ends
 have:=h.ids
 have:=h.aea
 unfold iK;omega
theorem Gd.sh {R M:Nat} {n N:ak} (h:Gd R M n) (hs:L8 n N) (hw:Qe N):Gd R M N:=by
 refine⟨by rw[hs.len];exact h.ends,fun k fs hf=>?_,by rw[hs.ids];exact h.ids,by rw[hs.aea,hs.len];exact h.aea,hw⟩
 obtain⟨es,he⟩:=aM n.ends k (by have:=an hf;have:=hs.len;omega)
 obtain⟨gs,hg,hl⟩:=hs.row k es he;rw[hf]at hg;cases hg
 have:=h.row k es he
 omega
structure Mb (cb B pb:Nat) (A:Option Addr) (L c P:Nat) (w W:World) (ve vi vn:Value) (N:ak) (S:List Nat):Prop where
 own:az W B ve vi vn N S
 box:bD W pb ve vi vn
 nb:pb∉S
 cur:dm W cb A L c P
 far:CB cb B w W
theorem bD.blk {W W':World} {b:Nat} {x y z:Value} (h:bD W b x y z) (hb:W'.heap[b]?=W.heap[b]?):bD W' b x y z:=by
 obtain⟨r,hr⟩:=h;exact⟨r,hb.trans hr⟩
theorem Mb.seen {cb B pb:Nat} {A:Option Addr} {L c P P':Nat} {w W W':World} {ve vi vn:Value} {N:ak} {S:List Nat} (h:Mb cb B pb A L c P w W ve vi vn N S) (hs:eF cb W W') (GR:dm W' cb A L c P') (hb:cb<B) (hp:B<=pb) (hB:B<=W.heap.size):Mb cb B pb A L c P' w W' ve vi vn N S:=
 ⟨h.own.seen hs hb,h.box.blk (hs.block pb h.box.lt (by omega)),h.nb,GR,h.far.trans (CB.mono hs hB)⟩
theorem Mb.since {cb B pb:Nat} {A:Option Addr} {L c P:Nat} {w W W':World} {ve vi vn:Value} {N:ak} {S:List Nat} (h:Mb cb B pb A L c P w W ve vi vn N S) (hs:aa W W') (hb:cb<B) (hp:B<=pb) (hB:B<=W.heap.size):Mb cb B pb A L c P w W' ve vi vn N S:=h.seen (CB.of hs) (h.cur.since hs) hb hp hB
def aed (W:World) (b:Nat) (x y z:Value):World:=((W.setCell ⟨b,0,none⟩ x).setCell ⟨b,1,none⟩ y).setCell ⟨b,2,none⟩ z
theorem gQ (W:World) (b:Nat) (x y z:Value):(aed W b x y z).heap.size=W.heap.size:=by simp[aed,jC]
theorem dZ (W:World) (b:Nat) (x y z:Value) {j:Nat} (h:j≠b):(aed W b x y z).heap[j]?=W.heap[j]?:=by
 unfold aed;rw[Below.heap_setCell _ _ _ j (by exact h),Below.heap_setCell _ _ _ j (by exact h),Below.heap_setCell _ _ _ j (by exact h)]
theorem bD.aed {W:World} {b:Nat} {x y z:Value} (h:bD W b x y z) (x' y' z':Value):bD (aed W b x' y' z') b x' y' z':=by
 unfold Go.Proofs.YtgmdpppljkmabaaGreat.aed;exact((h.aev).aew).aex
theorem Mb.assign {cb B pb:Nat} {A:Option Addr} {L c P P':Nat} {w W W1:World} {ve vi vn a b d:Value} {N N':ak} {S S':List Nat} {B':Nat} (h:Mb cb B pb A L c P w W ve vi vn N S) (hs:eF cb W W1) (GR:dm W1 cb A L c P') (ho:az W1 B' a b d N' S') (hB':pb<B') (hb:cb<B) (hp:B<=pb) (hB:B<=W.heap.size):
  Mb cb B pb A L c P' w (aed W1 pb a b d) a b d N' S':=by
 have hn:pb∉S':=fun hj=>by have:=(ho.range _ hj).1;omega
 refine⟨(ho.aeb (fun k hk=>dZ W1 pb a b d (fun e=>hn (e ▸ hk)))).mono (by omega),(h.box.blk (hs.block pb h.box.lt (by omega))).aed _ _ _,hn,GR.keep (fun k hk=>dZ W1 pb a b d (by omega)),?_⟩
 exact(((h.far.trans (CB.mono hs hB)).setCell (p:=⟨pb,0,none⟩) (.inl hp) _).setCell (p:=⟨pb,1,none⟩) (.inl hp) _).setCell (p:=⟨pb,2,none⟩) (.inl hp) _
theorem az.aen {w:World} {base g c n:Nat} {ve vi:Value} {N:ak} {S:List Nat} (h:az w base ve vi (.slice (some ⟨g,0,none⟩) n c) N S) {k:Nat} (x:Int) (_:k<N.aea.length):
  g∈S/\w.frozen? ⟨g,k,none⟩=false/\az (w.setCell ⟨g,k,none⟩ (.int .i64 x)) base ve vi (.slice (some ⟨g,0,none⟩) n c) { N with aea:=N.aea.set k x } S:=by
 obtain⟨S1,S2,S3,h1,h2,h3,h4,h5⟩:=h
 have hg:g∈S3:=by rw[h3.2];simp[Value.ownBlock]
 have wH:=h5;rw[h4,List.nodup_append,List.nodup_append]at h5;have d1:∀j∈S1,j≠g:=fun j hj e=>h5.2.2 j hj g (List.mem_append_right _ hg) e
 have d2:∀j∈S2,j≠g:=fun j hj e=>h5.2.1.2.2 j hj g hg e
 exact⟨by rw[h4];exact List.mem_append_right _ (List.mem_append_right _ hg),h3.1.free k,S1,S2,S3,lV.aeb h1 (fun j hj=>Below.heap_setCell _ _ _ _ (d1 j hj)),iy.aeb h2 (fun j hj=>Below.heap_setCell _ _ _ _ (d2 j hj)),⟨h3.1.set x,h3.2⟩,h4,wH⟩
end Go.Proofs.YtgmdpppljkmabaaGreat
