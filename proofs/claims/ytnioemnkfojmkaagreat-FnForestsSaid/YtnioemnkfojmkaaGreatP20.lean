/- Parts of the proof: walks of functions and plain laws. -/
import Derived.Test.YtnioemnkfojmkaaGreatP19
set_option maxRecDepth 100000
set_option maxHeartbeats 16000000
namespace Go.Proofs.YtnioemnkfojmkaaGreat
open Go Go.RowKit
def Tl (N:ao) (xs:List Int):Prop:=∀x∈xs,0<=x/\x<(N.ends.length:Int)
theorem qA (d dp:Nat) (hd:1<=d/\d<=4) (hdp:1<=dp/\dp<=2) (w:World):Calls Tryz.prog 103 #[.int .i64 d,.int .i64 dp] w (acQ w TD):=by
 obtain⟨w0,bj⟩:=J_ (w.alloc (.cells #[.slice none 0 0,.slice none 0 0,.slice none 0 0] 30))
 have aK:ab w w0:=by rw[bj];exact ad _ (aa _)
 have e_:w0.heap.size=w.heap.size+1:=by rw[bj];simp
 have gh:bD w0 w.heap.size (.slice none 0 0) (.slice none 0 0) (.slice none 0 0):=by
  rw[bj];show(w.heap.push _)[w.heap.size]?=_
  rw[Zbc]
 obtain⟨fX,ic,cD,iS⟩:=C_ gh aK bj e_;clear gh aK bj e_;have m1:((d:Int)<0)=False:=zS
 have m2:((dp:Int)<0)=False:=zS
 have m3:((0:Int)<(dp:Int))=True:=by simp;omega
 have m4:((6:Int)<(d:Int))=False:=by simp;omega
 go_enter Tryz.func103,Tryz.ntmps103
 go_upto_region 1 with(fail);rw[<- cD.out];go_wp2_with fail;refine(nL 1 zO w0).mono ?_;rintro e w1 ⟨ve0,vi0,vn0,S0,rfl,ho,aP⟩;obtain⟨N0,vY⟩:=J_ (dQ 1)
 rw[<- vY]at ho
 have pA:N0.ends.length=1:=by rw[vY];simp[dQ]
 have F8:Gd 5 31 N0:=by rw[vY];exact(Gd.empty (Zaj 1)).mono zO zO
 obtain⟨A1,c1,rfl,-,-,-⟩:=id ho.read.1;obtain⟨AI,cI,rfl,-,-,-⟩:=id ho.read.2.1;obtain⟨AN,cN,rfl,-,-,-⟩:=id ho.read.2.2;have CT:=Ob.new (show ab w0 w1 from aP) ho;obtain⟨bo,kv⟩:=J_ w1.heap.size
 obtain⟨w2,ip⟩:=J_ (w1.alloc (.cells #[.slice A1 N0.ends.length c1,.slice AI N0.ids.length cI,.slice AN N0.agT.length cN] 30))
 rw[<- ip,<- kv]at CT;have dY:w0.heap.size<=w2.heap.size:=CT.since.below.size;have aA:=CT.box.lt
 have tv:rH bo w0 (w2.alloc (.cells #[.int .i64 0] 3)) (.slice A1 N0.ends.length c1) (.slice AI N0.ids.length cI) (.slice AN N0.agT.length cN) N0 S0 (.slice (some ⟨w2.heap.size,0,none⟩) 1 1) (.slice none 0 0) [0] []:=by
  refine⟨CT.agU (ad _ (aa _)),Own.mono (dS w2 [0] (by simp[maxLen])) dY,fA _ _,fun j hj=>?_,fun j hj=>by simp[Value.ownBlock]at hj⟩
  have e:w2.heap.size=j:=by simpa[Value.ownBlock]using hj
  exact⟨fun hm=>zX ((CT.own.range _ hm).2),zO⟩
 obtain⟨w3,ib⟩:=J_ (w2.alloc (.cells #[.int .i64 0] 3))
 obtain⟨lb,eK⟩:=J_ w2.heap.size
 rw[<- ib,<- eK]at tv;obtain⟨SF,yF,yH,yI,ka,iF,HNg⟩:=F_ tv kv ip ib eK pA F8;clear ho aP vY pA F8 CT kv ip dY aA tv ib eK m1 m2 m3 m4;go_upto_region 4 with(fail);rw[<- yH.out,<- yF.out];go_upto_region 6 with(fail);rw[<- yI.out,<- ka.out]
 go_loopw [7,8] (fun lv i wr=>∃(k:Nat) (ve vi vn:Value) (N:ao) (S:List Nat) (xs:List Int),k<=dp/\i=.int .i64 k/\rH bo w0 wr ve vi vn N S lv (.slice none 0 0) xs []/\Gd 5 31 N/\Tl N xs/\((k=0/\xs=[0]/\N.ends.length=1)\/(k=1/\xs.length<=5/\N.ends.length<=6)\/(k=2/\N.ends.length<=31))/\(0<k->0<(bZ N 0).length)/\0<N.ends.length) (fun _ i _=>dp-(intOf i).toNat)
 case atStart=>exact⟨0,_,_,_,N0,S0,[0],Zac _,rfl,SF.out,HNg.out,fun x hx=>by have:=iF.out;simp at hx;omega,.inl ⟨rfl,rfl,iF.out⟩,fun h=>absurd h (Nat.lt_irrefl _),zX iF.out⟩
 case round=>
  obtain⟨k,ve,vi,vn,N,S,xs,hk,rfl,tv,hg,Ge,acR,aG,mA⟩:=hrel;obtain⟨JU,l8,rfl,-,-,-⟩:=id tv.ob.own.read.1;obtain⟨ts,tt,rfl,-,-,-⟩:=id tv.ob.own.read.2.1;obtain⟨Bj,wQ,rfl,-,-,-⟩:=id tv.ob.own.read.2.2;obtain⟨AL,cL,rfl,-,-,-⟩:=id tv.ol.ints;obtain⟨AL',cL',eL,-,-,YQ⟩:=id tv.ol.ints;cases eL;obtain⟨SF,Hg,Hlv,O4,dT,aaH,HAL⟩:=F_ tv hg Ge acR aG mA YQ;clear tv hg Ge acR aG mA YQ
  by_cases aA:k<dp
  ·by_cases nG:0<xs.length
   ·obtain⟨x00,acS⟩:=au xs 0 nG;obtain⟨bL,oL,e7,-⟩:=HAL 0 x00 acS;subst e7;clear acS;obtain⟨wo,rfl⟩:=J_ wr
    go_upto_region 10 with(fail)
    go_loopw [9,42] (fun nx i wr=>∃(t:Nat) (ve vi vn:Value) (M:ao) (T:List Nat) (ys:List Int),t<=xs.length/\i=.int .i64 t/\rH bo w0 wr ve vi vn M T (.slice (some ⟨bL,oL,none⟩) xs.length cL) nx xs ys/\Gd 5 31 M/\M.ends.length=N.ends.length+ys.length/\ys.length<=5*t/\Tl M ys/\(0<(bZ M 0).length\/(k=0/\t=0))) (fun _ i _=>xs.length-(intOf i).toNat)
    case atStart=>exact⟨0,_,_,_,N,S,[],Zac _,rfl,SF.out,Hg.out,zS,zS,fun x hx=>(by cases hx),by rcases Zbk k with q | q;exact .inr ⟨q,rfl⟩;exact .inl (dT q)⟩
    case round=>
     obtain⟨t,ve,vi,vn,M,T,ys,ht,rfl,tv,hg,Tm,Qc,hyv,EW⟩:=hrel;obtain⟨B1,b1,rfl,-,-,-⟩:=id tv.ob.own.read.1;obtain⟨BI,bI,rfl,-,-,-⟩:=id tv.ob.own.read.2.1;obtain⟨BN,bN,rfl,-,-,-⟩:=id tv.ob.own.read.2.2;obtain⟨AX,cX,rfl,-,-,-⟩:=id tv.ox.ints;obtain⟨AL2,cL2,eL2,-,-,YQ⟩:=id tv.ol.ints;cases eL2;obtain⟨YR,YS,O5,Lh,Hyv,Rm⟩:=E_ tv hg Tm Qc hyv EW;clear tv hg Tm Qc hyv EW
     by_cases htl:t<xs.length
     ·obtain⟨x,hx⟩:=au xs t htl;obtain⟨bL2,oL2,e7,ti⟩:=YQ t x hx;cases e7;have CS:=Hlv x (Zaq hx);obtain⟨v,rfl⟩:∃v:Nat,x=(v:Int):=⟨x.toNat,zO⟩
      have Hvl:Hid (v<N.ends.length):=by show _<_;omega
      have Hx:=zh hx
      have m7:IntKind.i64.wrap ((t:Int)+1)=((t+1:Nat):Int):=by rw[bU _ (zX O4.out) (by rcases O4.out with h | h | h;rw[h.2.1]at htl;simp at htl;omega;omega;omega)];omega
      clear YQ hx CS;obtain⟨wt,rfl⟩:=J_ wr
      go_upto_region 12 with(fail);clear ti
      go_loopw [9] (fun nx wr=>∃(ve vi vn:Value) (M:ao) (T:List Nat) (ys:List Int),rH bo w0 wr ve vi vn M T (.slice (some ⟨bL,oL,none⟩) xs.length cL) nx xs ys/\Gd 5 31 M/\M.ends.length=N.ends.length+ys.length/\ys.length<=5*t+(bZ M v).length/\Tl M ys/\(0<(bZ M 0).length\/(k=0/\t=0))) (fun _ wr=>31-nN (wr.cell? ⟨bo,0,none⟩))
      case atStart=>exact⟨_,_,_,M,T,ys,YR.out,YS.out,O5.out,zX Lh.out,Hyv.out,Rm.out⟩
      case round=>
       clear YR YS O5 Lh Hyv Rm;obtain⟨ve,vi,vn,M,T,ys,tv,hg,Tm,Qc,hyv,EW⟩:=hrel;obtain⟨Q1,q1,rfl,-,-,-⟩:=id tv.ob.own.read.1;obtain⟨QI,qI,rfl,-,-,-⟩:=id tv.ob.own.read.2.1;obtain⟨QN,qN,rfl,-,-,-⟩:=id tv.ob.own.read.2.2;obtain⟨QX,qX,rfl,-,-,-⟩:=id tv.ox.ints
       have hvM:v<M.ends.length:=zX Hvl.out
       obtain⟨g,rfl,-⟩:=tv.ob.own.head zO;obtain⟨es,aU⟩:=J_ (bZ M v)
       have lK:=df hvM;rw[<- aU]at lK;obtain⟨ua,Ta,Vh,-,SI,-,-,-⟩:=tv.ob.own.ag0 lK;obtain⟨AU,cU,rfl,-,-,-⟩:=id SI.read;obtain⟨YR,YS,O5,Lh,Hyv,Rm,ni,HvM⟩:=G_ tv hg Tm Qc hyv EW aU hvM;obtain⟨wo,rfl⟩:=J_ wr
       obtain⟨k0,k1,k2,f0,f1,f2⟩:=tv.ob.box.cells;clear tv hg Tm Qc hyv EW aU SI lK
       by_cases gM:es.length<d
       ·have Tn:Hid (M.ends.length+1<=31):=by
         show _<=_
         have h1:=O5.out;have h2:=Lh.out;rw[<- ni.out]at h2
         rcases O4.out with h | h | h
         ·have:xs.length=1:=by rw[h.2.1];rfl
          omega
         ·omega
         ·omega
        have hbn:=Tn.out
        have e40:((M.ends.length:Int)=40)=False:=by simp;omega
        clear e40;go_upto_region 16 with(fail);have qz:ab wo (wo.alloc (.cells #[.slice none 0 0] 59)):=ad _ (aa _);have VB:=zh (YR.out.since qz)
        have Hl8:Hid (M.ends.length+1<=1000000):=by show _<=_;omega
        have U_:Hid (∀q,(Value.slice (some ⟨g,0,none⟩) M.ends.length q1).ownBlock=some q->(kt wo w0.heap.size).heap.size<=q):=fun q hq=>by
         obtain⟨S1,S2,S3,⟨vs,Ss,h1,-⟩,-,-,-,-⟩:=id VB.out.ob.own;have h9:=(Zad h1 q hq).1;simp[kt]
         omega
        have Hwq:Hid (ab (kt wo w0.heap.size) (wo.alloc (.cells #[.slice none 0 0] 59))):=ab.after (nE wo YR.sz) qz;clear qz Vh hbn
        go_upto_region 17 with(at_builtin;refine rg (wT:=kt wo w0.heap.size) (base:=w0.heap.size) (v:=.slice (some ⟨g,0,none⟩) M.ends.length q1) (u:=.slice none 0 0) (T:=[]) (es:=[]) rfl _ _ rfl rfl VB.ob.own wo.heap.size rfl zS (uI _ _) (fun j hj=>by simp at hj) Hl8.out Hwq.out VB.out.sz U_.out ?_;intro v8 w8 S8 hv8 SK YB It kK;obtain⟨A8,c8,hq8,-,-,-⟩:=id SK.read.1;have hq9:v8=.slice A8 (M.ends.length+1) c8:=(by rw[hq8];simp);clear hq8;subst hq9;obtain⟨yS,lO⟩:=VB.out.ahb SK (fun j hj=>by rcases YB j hj with h | h | h;exact .inl h;simp at h;right;omega) It;clear k0 k1 k2 f0 f1 f2 hv8 YB It kK;obtain⟨k0,k1,k2,f0,f1,f2⟩:=yS.cells;have vC:=zh lO;clear yS lO SK)
        obtain⟨w9,Cv⟩:=J_ (w8.setCell ⟨bo,0,none⟩ (.slice A8 (M.ends.length+1) c8))
        rw[<- Cv];rw[<- Cv]at vC;clear Cv k0 k1 k2 f0 f1 f2;have qz:ab w9 (w9.alloc (.cells #[.int .i64 0] 3)):=ad _ (aa _);have IE:=zh (vC.out.since qz)
        have WZ:Hid (M.agT.length+[(0:Int)].length<=17592186044416):=by show _<=_;have:=YS.agT;have:=Tn.out;simp;omega
        clear qz;obtain⟨k0,k1,k2,f0,f1,f2⟩:=vC.ob.box.cells
        go_upto_region 18 with(at_builtin;refine fQ (base:=w0.heap.size) rfl _ _ rfl rfl IE.ahg.1.1 rfl (nM _ _) WZ IE.sz ?_;intro v' w11 T dJ tH YN;obtain⟨V,mV,cV,rfl⟩:=fT.one dJ;obtain⟨tw,S6,tU⟩:=IE.ahl dJ tH YN;clear k0 k1 k2 f0 f1 f2 dJ tH YN;obtain⟨k0,k1,k2,f0,f1,f2⟩:=tw.cells;have O3:=zh tU;clear tw tU)
        obtain⟨YM,aaI⟩:=J_ (w11.setCell ⟨bo,2,none⟩ (.slice V mV cV))
        rw[<- aaI];rw[<- aaI]at O3;clear aaI k0 k1 k2 f0 f1 f2 vC IE VB Hwq U_ Hl8 WZ;have LA:Hid (rH bo w0 YM (.slice A8 (M.ends.length+1) c8) (.slice QI M.ids.length qI) (.slice V mV cV) (mP M) S6 (.slice (some ⟨bL,oL,none⟩) xs.length cL) (.slice QX ys.length qX) xs ys):=O3;clear O3;obtain⟨k0,k1,k2,f0,f1,f2⟩:=LA.ob.box.cells;have Hgn:Hid (Gd 5 31 (mP M)):=YS.node Tn;go_wp2_with fail
        refine(mM _ _ _ (mP M) v M.ends.length YM LA.ob.own.read (by rw[rI];have:=HvM.out;omega) (by rw[rI];omega) ((Hgn.out.mono (R':=50) (M':=31) zO zO).small zO zO)).mono ?_
        rintro e w13 ⟨ve2,vi2,vn2,S13,rfl,dD,aS⟩;have tV:ab YM w13:=aS;obtain⟨D0,d0,rfl,-,-,-⟩:=id dD.read.1;obtain⟨D1,d1,rfl,-,-,-⟩:=id dD.read.2.1;obtain⟨D2,d2,rfl,-,-,-⟩:=id dD.read.2.2;obtain⟨J,hJ⟩:=J_ (dR (mP M) v M.ends.length)
        rw[<- hJ]at dD;rw[<- hJ];have sC:=zh (LA.out.assign tV dD);clear k0 k1 k2 f0 f1 f2;obtain⟨k0,k1,k2,f0,f1,f2⟩:=(LA.ob.box.below tV LA.ob.box.lt).cells;have HJ:=zh hJ;clear dD aS tV hJ;go_upto_region 19 with(fail);obtain⟨v_,LC⟩:=J_ (agX w13 bo (.slice D0 J.ends.length d0) (.slice D1 J.ids.length d1) (.slice D2 J.agT.length d2))
        rw[<- LC]at sC;rw[show((w13.setCell ⟨bo,0,none⟩ (.slice D0 J.ends.length d0)).setCell ⟨bo,1,none⟩ (.slice D1 J.ids.length d1)).setCell ⟨bo,2,none⟩ (.slice D2 J.agT.length d2)=v_ from LC.symm];clear LC k0 k1 k2 f0 f1 f2;have HmA:=zh (sC.out.since (ad (.cells #[.int .i64 (M.ends.length:Int)] 3) (aa v_)))
        have Hly:Hid (ys.length+1<=17592186044416):=by show _<=_;have h1:=O5.out;have h2:=Tn.out;omega
        go_wp2_with (at_builtin;refine sa rfl _ _ rfl rfl HmA.ox v_.heap.size (M.ends.length:Int) rfl (by simp[go_sem]) Hly HmA.sz ?_;intro g6 c6 w15 dJ ml iz WD;have acT:=zh (HmA.out.next dJ ml (fun j hj=>(by have e:g6=j:=(by simpa[Value.ownBlock]using hj);subst e;rcases iz with h | h;exact .inl h;exact .inr zO)));clear dJ ml iz WD)
        go_roundw
        case rel=>
         have hvM:=HvM.out;have UY:=rI M;have hJl:J.ends.length=M.ends.length+1:=by rw[HJ.out,ey,UY]
         have hrj:∀q,(bZ J q).length=(bZ (mP M) q).length+(if q=M.ends.length then 1 else 0)+(if q=v then 1 else 0):=fun q=>by rw[HJ.out];exact li zO zO q
         have hrv:(bZ J v).length=(bZ M v).length+1:=by rw[hrj,vG,if_pos hvM,if_neg zO,if_pos rfl]
         have h0:(bZ M 0).length<=(bZ J 0).length:=by rw[hrj,vG,if_pos zO];omega
         have aeS:=gM;rw[ni.out]at aeS
         have OY:(bZ (mP M) v).length<5:=by rw[vG,if_pos hvM];omega
         have pP:(bZ (mP M) M.ends.length).length<5:=by rw[vG,if_neg zO];simp
         refine⟨_,_,_,J,S13,ys++[(M.ends.length:Int)],by simpa using acT.out,by rw[HJ.out];exact Hgn.ahj zO zO zO OY pP zO,by rw[hJl,O5.out];simp;omega,by rw[hrv];have:=Lh.out;simp;omega,fun y hy=>?_,?_⟩
         ·rcases Zar.1 hy with h | h
          ·have:=Hyv y h;omega
          ·rw[Zbm]at h;omega
         ·rcases Rm.out with h | h
          ·exact .inl zO
          ·exact .inr h
        case measure=>
         rw[acT.out.ob.box.cells.1,YR.out.ob.box.cells.1];have hJl:J.ends.length=M.ends.length+1:=by rw[HJ.out,ey,rI]
         have:=Tn.out
         simp[nN]
         omega
       ·go_wp2;go_roundw
        case rel=>
         have h5:(bZ M v).length<=5:=YS.row v _ (df HvM)
         refine⟨t+1,_,_,_,M,T,ys,zO,rfl,YR.out,YS.out,O5.out,zX Lh.out,Hyv.out,?_⟩
         rcases Rm.out with h | h
         ·exact .inl h
         ·left
          rcases O4.out with q | q | q
          ·have hx:=Hx.out;rw[h.2,q.2.1]at hx
           have Qv:v=0:=by simp at hx;omega
           rw[ni.out,Qv]at gM;omega
          ·omega
          ·omega
        simp[intOf];omega
     ·obtain rfl:t=xs.length:=zO
      have m8:IntKind.i64.wrap ((k:Int)+1)=((k+1:Nat):Int):=by rw[bU _ zO zO];omega
      clear YQ;go_wp2;go_roundw
      case rel=>
       have h1:=O5.out;have h2:=Lh.out
       refine⟨k+1,_,_,_,M,T,ys,zO,rfl,YR.out.ahJ,YS.out,Hyv.out,?_,fun _=>?_,zX aaH.out⟩
       ·rcases O4.out with q | q | q
        ·have:xs.length=1:=by rw[q.2.1];rfl
         right;left;omega
        ·right;right;omega
        ·omega
       ·rcases Rm.out with h | h
        ·exact h
        ·omega
      simp[intOf];omega
   ·have el0:xs.length=0:=zO
    obtain⟨w5,rfl⟩:=J_ wr
    have gP:bB w5 w.heap.size (.slice none 0 0) (.slice none 0 0) (.slice none 0 0):=(fX.box.below SF.ob.since fX.box.lt);obtain⟨k0,k1,k2,f0,f1,f2⟩:=SF.ob.box.cells;obtain⟨e0,e1,e2,g0,g1,g2⟩:=gP.cells;have dL:=zh (SF.out.ob.ret ic.out iS.out);clear gP;go_wp2;refine bodyPost_ret (v:=.tuple #[.agg #[.slice JU N.ends.length l8,.slice ts N.ids.length tt,.slice Bj N.agT.length wQ],.bool true]) (by simp[results,Tryz.results103,go_sem, *]) rfl ?_;obtain⟨r1,r2⟩:=dL.out
    exact⟨_,_,_,N,S,rfl,r1,⟨Hg.out.mono zO zO,aaH.out,dT.out (by rcases O4.out with h | h | h;rw[h.2.1]at el0;simp at el0;omega;omega)⟩,r2⟩
  ·obtain rfl:k=dp:=zO
   obtain⟨w5,rfl⟩:=J_ wr
   have gP:bB w5 w.heap.size (.slice none 0 0) (.slice none 0 0) (.slice none 0 0):=(fX.box.below SF.ob.since fX.box.lt);obtain⟨k0,k1,k2,f0,f1,f2⟩:=SF.ob.box.cells;obtain⟨e0,e1,e2,g0,g1,g2⟩:=gP.cells;have dL:=zh (SF.out.ob.ret ic.out iS.out);clear gP;go_wp2;refine bodyPost_ret (v:=.tuple #[.agg #[.slice JU N.ends.length l8,.slice ts N.ids.length tt,.slice Bj N.agT.length wQ],.bool true]) (by simp[results,Tryz.results103,go_sem, *]) rfl ?_;obtain⟨r1,r2⟩:=dL.out;exact⟨_,_,_,N,S,rfl,r1,⟨Hg.mono zO zO,aaH,dT zO⟩,r2⟩
structure CmN (k v i:Nat) (N:ao):Prop where
 ends:N.ends.length=k
 ids:N.ids.length=0
 agT:N.agT.length=k
 row:∀(j:Nat) (es:List (Int×Int)),N.ends[j]?=some es->es.length=(if j<v then k-1 else if j=v then i else 0)/\∀e∈es,∃a b:Nat,e=((a:Int),(b:Int))/\a<k/\b+1<k
def InL (kk:Nat) (n:ao) (e:Int×Int):Prop:=∃a b:Nat,e=((a:Int),(b:Int))/\a<n.ends.length*kk/\b<(bZ n (a/kk)).length
structure af5 (kk:Nat) (n:ao) (t:Nat) (N:ao):Prop where
 ends:N.ends.length=n.ends.length*kk
 agT:N.agT.length=n.ends.length*kk
 ids:N.ids.length=0
 row:∀(j:Nat) (fs:List (Int×Int)),N.ends[j]?=some fs->fs.length<=100/\(j<t->fs.length=(bZ n (j/kk)).length)/\∀e∈fs,InL kk n e
def YT (w:World) (v:Value) (L:Nat):Prop:=∃A c,v=.slice A L c/\L<=c/\c<=maxLen/\∀k,k<L->∃b off x,A=some ⟨b,off,none⟩/\w.cell? ⟨b,off+k,none⟩=some (.int .u8 x)/\0<=x/\x<256
theorem YT.agU {w w':World} {v:Value} {L:Nat} (h:YT w v L) (hb:Below w.heap.size w w'):YT w' v L:=by
 obtain⟨A,c,h1,h2,h3,h4⟩:=h;refine⟨A,c,h1,h2,h3,fun k hk=>?_⟩
 obtain⟨b,off,x,e1,e2,e3,e4⟩:=h4 k hk;exact⟨b,off,x,e1,bc hb e2,e3,e4⟩
theorem MP {w w2:World} {A:Option Addr} {L c cb:Nat} {t:TypeId} (hb:∀k,k<L->∃b off x,A=some ⟨b,off,none⟩/\w.cell? ⟨b,off+k,none⟩=some (.int .u8 x)/\0<=x/\x<256) (hs:ab w w2) (jW:w.heap.size<=cb) (hc:w2.heap[cb]?=some (.cells #[.slice A L c,.int .i64 0,.int .u64 0] t)) (hL:L<=1048576) (hLc:L<=c):dj w2 cb A L c 0:=by
 refine⟨0,0,⟨⟨_,hc⟩,fun k hk=>?_,hL,hLc,zO⟩,Zaj _⟩
 obtain⟨b,off,x,e1,e2,e3,e4⟩:=hb k hk
 have:=MA e2
 exact⟨b,off,x,e1,by simp at this;omega,bc hs e2,e3,e4⟩
theorem Mb.mono {cb B pb:Nat} {A:Option Addr} {L c P P':Nat} {w W:World} {ve vi vn:Value} {N:ao} {S:List Nat} (h:Mb cb B pb A L c P w W ve vi vn N S) (hP:P<=P'):Mb cb B pb A L c P' w W ve vi vn N S:=⟨h.own,h.box,h.nb,h.cur.mono hP,h.far⟩
theorem O6 (cb:Nat) (A:Option Addr) (L c P B g q n:Nat) (xs:List Int) (w:World) (h:dj w cb A L c P) (hP:P<=4611686018427387000) (ho:Own w B (.slice (some ⟨g,0,none⟩) n q) xs) (hn:n=xs.length) (hB:cb<B) (hx:1<=xs.length) (uJ:xs.length<=1048576):
  Calls Tryz.prog 46 #[.pointer (some ⟨cb,0,none⟩),.slice (some ⟨g,0,none⟩) n q] w fun e w'=>∃x,e=.returned (.int .i64 x)/\x∈xs/\dj w' cb A L c (P+2)/\CB cb w.heap.size w w':=by
 subst hn;exact sA cb A L c P B g q xs w h hP ho hB hx uJ
section
variable {P : Program} {ops : Array Oper}
def w_ (P:Program) (o:Oper) (A:Act) (W:World) (post:Value->World->Prop):Prop:=
 match (execOp A.eval o).run P W with
 | .ok (.value u) W'=>post u W'
 | .ok .skip W'=>post undef W'
 | .ok (.enter f args) W'=>Calls P f args W' fun e qP=>∃u,e=.returned u/\post u qP
 | _=>False
theorem pW {o:Oper} {A:Act} {W W':World} {u:Value} {post:Value->World->Prop} (h:(execOp A.eval o).run P W=.ok (.value u) W') (hp:post u W'):w_ P o A W post:=by
 unfold w_;rw[h];exact hp
theorem yc {o:Oper} {A:Act} {W W':World} {f:FuncId} {args:Array Value} {post:Value->World->Prop} (h:(execOp A.eval o).run P W=.ok (.enter f args) W') (hp:Calls P f args W' fun e qP=>∃u,e=.returned u/\post u qP):w_ P o A W post:=by
 unfold w_;rw[h];exact hp
def acU (ops:Array Oper) (k:Nat) (cs:List Nat):Bool:=
 (List.range k).all fun i=>match ops[i]? with
  | none=>true
  | some o=>match cs.findIdx? (fun x=>x==i) with
   | none=>true
   | some r=>r==0||(match cs[r-1]? with | some j=>(da o).contains j | none=>false)
theorem Dc {cs:List Nat} {i j r:Nat} (h:cs.findIdx? (fun x=>x==i)=some r) (h':cs.findIdx? (fun x=>x==j)=some r):i=j:=by
 obtain⟨hr,h1,-⟩:=Zcf.1 h;obtain⟨Jt,QD,-⟩:=Zcf.1 h';have e1:cs[r]=i:=by simpa using h1
 have e2:cs[r]=j:=by simpa using QD
 omega
end
section
variable {P : Program} {ops : Array Oper}
def RW (l:List (Value->World->Prop)):Nat->Value->World->Prop:=fun j u W=>match l[j]? with | some r=>r u W | none=>True
theorem RW.rel {l:List (Value->World->Prop)} {Rel:World->World->Prop} (h:∀r∈l,∀u W W',Rel W W'->r u W->r u W'):∀j u W W',Rel W W'->RW l j u W->RW l j u W':=by
 intro j u W W' hr hw
 unfold RW at hw ⊢
 cases e:l[j]? with
 | none=>trivial
 | some r=>rw[e]at hw;exact h r (Zaq e) u W W' hr hw
end
structure C2 (cb rb:Nat) (W W':World):Prop where
 os:W'.os=W.os
 tape:W'.tape=W.tape
 output:W'.output=W.output
 size:W.heap.size<=W'.heap.size
 block:∀k,k<W.heap.size->k≠cb->k≠rb->W'.heap[k]?=W.heap[k]?
def W8 (v:Value) (u:Value) (_:World):Prop:=u=v
def acV (B:Nat) (u:Value) (W:World):Prop:=∃ve vi vn N S,u=.agg #[ve,vi,vn]/\aw W B ve vi vn N S/\Bd N
structure agz (cb rb:Nat) (A:Option Addr) (L c P0 K nc:Nat) (wS:World) (T:World->Prop) (q:Nat) (W:World):Prop where
 cur:q<=nc->dj W cb A L c (P0+K*q)
 rel:C2 cb rb wS W
 box:q<=nc->bD W rb (.slice none 0 0) (.slice none 0 0) (.slice none 0 0)
 done:nc<q->T W
section
variable {cb rb : Nat} {A : Option Addr} {L c P0 K nc : Nat} {wS W W' : World} {T : World → Prop} {q : Nat}
end
section
variable {P : Program} {ops : Array Oper}
theorem Dd {Q:Exit->Act->World->Prop} {NC:Nat} {a:Act} {w:World} (k:Nat) (cs:List Nat) (R:Nat->Value->World->Prop) (Inv:Nat->World->Prop) (Rel:World->World->Prop) (hrel:∀j u W W',Rel W W'->R j u W->R j u W')
  (hm:P.follows .mixedOrders=true) (hf:xx ops k=true) (Dx:decide (k<=ops.size)=true) (hnd:cs.Nodup) (gh:acU ops k cs=true) (h0:Inv 0 w.drew)
  (eF:∀i o,i<k->ops[i]?=some o->∀V W q,Inv q W->(∀r,cs.findIdx? (fun x=>x==i)=some r->r=q)->(∀r j oj,cs[r]?=some j->ops[j]?=some oj->i∈da oj->q<=r)->(∀d∈da o,R d (V d) W)->Region.wanted o (yielded ops (bh ops (List.range k) V a).tmps)=true/\w_ P o (bh ops (List.range k) V a) W (fun u W'=>Inv (if (cs.findIdx? (fun x=>x==i)).isSome then q+1 else q) W'/\Rel W W'/\R i u W'))
  (CO:∀V W q,Inv q W->q<=cs.length->(∀i r,i<k->cs.findIdx? (fun x=>x==i)=some r->r<q)->(∀j,j<k->R j (V j) W)->wpList P ops Q (ops.toList.drop k) (bh ops (List.range k) V a) W):(Code.region NC ops true).wp P Q a w:=by
 have eZ:=uC hf;have Dx:=of_decide_eq_true Dx
 have frame:∀V,bi a ops V (fun j=>j<k) (bh ops (List.range k) V a):=fun V=>by
  have:=pJ (a:=a) eZ.aha Dx V (List.range k) (fun _=>False) a (fun _ h=>h.elim) (fun j hj=>⟨Zab.1 hj,id⟩) List.nodup_range (bi.start a V)
  exact this.same (fun j=>zS)
 have acW:∀i o r,i<k->ops[i]?=some o->cs.findIdx? (fun x=>x==i)=some r->r=0\/∃j∈da o,cs.findIdx? (fun x=>x==j)=some (r-1):=by
  intro i o r hi ho hr;have h1:=Zbh.1 gh i (Zab.2 hi);rw[ho]at h1;simp only[hr]at h1;rw[Zbp]at h1;rcases h1 with h1 | h1
  ·left;simpa using h1
  ·cases hj:cs[r-1]? with
   | none=>rw[hj]at h1;cases h1
   | some j=>
    rw[hj]at h1
    right
    refine⟨j,by simpa using h1,?_⟩
    rw[Zcf];have aA:=ah hj
    have hge:cs[r-1]=j:=by
     have:=Zbu aA
     rw[hj]at this;exact(Zbx this).symm
    refine⟨aA,by simpa using hge,fun m hm=>?_⟩
    intro hc;have UV:cs[m]=j:=by simpa using hc
    have LD:=Zbg.1 hnd m (r-1) zO aA hm;exact LD (UV.trans hge.symm)
 let J:(Nat->Prop)->Act->World->Prop:=fun D a' W=>
  (∃q,Inv q W/\q<=cs.length/\(∀i r,cs.findIdx? (fun x=>x==i)=some r->(D i↔r<q))/\(∀j,D j->j<k)/\∃V,bi a ops V D a'/\∀j,D j->R j (V j) W) \/
  (∃m,k<=m/\m<=ops.size/\(∀j,j<ops.size->(D j↔j<m))/\wpList P ops Q (ops.toList.drop m) a' W)
 have z8:∀D a' W,J D a' W->(∀j,j<k->D j)->∃m,k<=m/\m<=ops.size/\(∀j,j<ops.size->(D j↔j<m))/\wpList P ops Q (ops.toList.drop m) a' W:=by
  intro D a' W hJ hD;rcases hJ with⟨q,hq,Kh,LF,ux,V,oF,hV⟩ | hJ
  ·have e:a'=bh ops (List.range k) V a:=oF.ext (frame V) (fun j _=>⟨ux j,hD j⟩)
   subst e;exact⟨k,Zaj _,Dx,fun j _=>⟨ux j,hD j⟩,CO V W q hq Kh (fun i r hi hr=>(LF i r hr).1 (hD i hi)) (fun j hj=>hV j (hD j hj))⟩
  ·exact hJ
 refine j3 hm eZ.back J (.inl ⟨0,h0,Zac _,fun i r _=>⟨fun h=>h.elim,fun h=>zO⟩,fun j hj=>hj.elim,fun _=>undef,bi.start a _,fun j hj=>hj.elim⟩) ?_ ?_
 ·intro D a' W i o hJ ho yl lB lC;have cH:i<ops.size:=(Zas.1 ho).1
  by_cases nS:i<k
  ·rcases hJ with⟨q,hq,Kh,LF,ux,V,oF,hV⟩ | ⟨m,h1,h2,h3,_⟩
   rotate_left
   ·exact absurd ((h3 i cH).2 zO) yl
   have hri:∀r,cs.findIdx? (fun x=>x==i)=some r->r=q:=by
    intro r hr;have h1:¬r<q:=fun h=>yl ((LF i r hr).2 h)
    rcases acW i o r nS ho hr with h2 | ⟨j,hj,h2⟩
    ·omega
    ·have:=(LF j _ h2).1 (lB j hj)
     omega
   have lV:∀r j oj,cs[r]?=some j->ops[j]?=some oj->i∈da oj->q<=r:=fun r j oj hj jf PP=>by
    rcases Zbi r q with h | h
    ·exfalso
     have hf:cs.findIdx? (fun x=>x==j)=some r:=by
      rw[Zcf];have aA:=ah hj
      have hge:cs[r]=j:=by
       have:=Zbu aA
       rw[hj]at this;exact(Zbx this).symm
      refine⟨aA,by simpa using hge,fun m hm=>?_⟩
      intro hc;have UV:cs[m]=j:=by simpa using hc
      have LD:=Zbg.1 hnd m r zO aA hm;exact LD (UV.trans hge.symm)
     exact yl (lC j oj ((LF j r hf).2 h) jf i PP)
    ·exact h
   obtain⟨hw,hst⟩:=eF i o nS ho V W q hq hri lV (fun d hd=>hV d (lB d hd))
   obtain⟨he,EM⟩:=jE (ops:=ops) (a':=a') (A:=bh ops (List.range k) V a) (fun t ht=>oF.agree (frame V) t (fun j oj hj jf hd=>by
    have sU:j<k:=hj.elim (fun h=>ux j h) id
    exact⟨lB j (eZ.looks i o nS ho t ht j oj sU jf hd),sU⟩)) (fun cs b=>eZ.ahc i o cs b ho)
   have next:∀u W',Inv (if (cs.findIdx? (fun x=>x==i)).isSome then q+1 else q) W'->Rel W W'->R i u W'->J (fun j=>D j\/j=i) (a'.put o.dst u) W':=by
    intro u W' hI aeT hRi;refine .inl ⟨_,hI,?_,fun i' r' Jt=>?_,fun j hj=>hj.elim (ux j) (fun e=>zO),xF V i u,?_,fun j hj=>?_⟩
    ·cases hr:cs.findIdx? (fun x=>x==i) with
     | none=>simpa using Kh
     | some r=>
      have:=hri r hr
      obtain⟨aA,-,-⟩:=Zcf.1 hr
      simp;omega
    ·cases hr:cs.findIdx? (fun x=>x==i) with
     | none=>
      simp only[Option.isSome_none,Bool.false_eq_true,if_false];constructor
      ·rintro(h | rfl)
       ·exact(LF i' r' Jt).1 h
       ·rw[hr]at Jt;cases Jt
      ·exact fun h=>.inl ((LF i' r' Jt).2 h)
     | some r=>
      have hrq:=hri r hr;simp only[Option.isSome_some,if_true];constructor
      ·rintro(h | rfl)
       ·have:=(LF i' r' Jt).1 h;omega
       ·rw[hr]at Jt;cases Jt;omega
      ·intro h
       by_cases h':r'<q
       ·exact .inl ((LF i' r' Jt).2 h')
       ·have e:r'=r:=zO
        subst e;exact .inr (Dc Jt hr)
    ·have:=(oF.ag_ (v':=xF V i u) (fun j _ hj=>(mC V u (fun e=>by subst e;exact yl hj)).symm)).put (i:=i) ho (fun j oj d hj jf hd jL=>by
      have:=eZ.aha i o nS ho j oj (ux j hj) jf d hd jL
      subst this
      exact yl hj)
     rwa [bX]at this
    ·rcases hj with hj | rfl
     ·have nh:j≠i:=fun e=>by subst e;exact yl hj
      rw[mC V u nh];exact hrel _ _ _ _ aeT (hV j hj)
     ·rw[bX];exact hRi
   rw[if_pos (EM.trans hw)];refine .inl ?_;unfold Oper.wp;rw[he];unfold w_ at hst
   generalize (execOp (bh ops (List.range k) V a).eval o).run P W=r at hst ⊢
   cases r with
   | ok nx W'=>
    cases nx with
    | value u=>exact next u W' hst.1 hst.2.1 hst.2.2
    | skip=>exact next undef W' hst.1 hst.2.1 hst.2.2
    | enter f args=>
     simp only[Oper.upon]
     exact Calls.mono hst fun e qP ⟨u,Nj,h3,h4,h5⟩=>by subst Nj;exact next u qP h3 h4 h5
    | _=>exact hst.elim
   | halt x W'=>exact hst.elim
  ·have c_:∀j,j<i->D j:=fun j hj=>jM lC ho lB (eZ.tail i zO cH j hj)
   obtain⟨m,h1,h2,h3,h4⟩:=z8 D a' W hJ (fun j hj=>c_ j zO)
   have QU:m=i:=by
    by_cases e1:i<m
    ·exact absurd ((h3 i cH).2 e1) yl
    ·by_cases e2:m<i
     ·have:=(h3 m zO).1 (c_ m e2);omega
     ·omega
   subst QU
   have Mg:ops.toList.drop m=o::ops.toList.drop (m+1):=by
    have:m<ops.toList.length:=by simpa using cH
    rw[Zbt this];congr 1
    have:=(Zas.1 ho).2
    simpa using this
   rw[Mg]at h4;unfold wpList at h4
   have next:∀a W,wpList P ops Q (ops.toList.drop (m+1)) a W->J (fun j=>D j\/j=m) a W:=fun a W h=>.inr ⟨m+1,zO,zO,fun j hj=>by
    constructor
    ·rintro(h | rfl)
     ·have:=(h3 j hj).1 h;omega
     ·omega
    ·intro h
     by_cases e:j=m
     ·exact .inr e
     ·exact .inl ((h3 j hj).2 zO),h⟩
   split
   ·rename_i hw
    rw[if_pos hw]at h4;exact h4.imp (Oper.wp_mono next) id
   ·rename_i hw
    rw[if_neg hw]at h4;exact next _ _ h4
 ·intro D a' W hJ c_;obtain⟨m,h1,h2,h3,h4⟩:=z8 D a' W hJ (fun j hj=>c_ j zO)
  have XU:m=ops.size:=by
   by_cases e:m<ops.size
   ·have:=(h3 m e).1 (c_ m e);omega
   ·omega
  subst XU;rw[List.drop_eq_nil_of_le zS]at h4;exact h4
end
structure agA (cb rb:Nat) (A:Option Addr) (L c P0 K nc:Nat) (wS:World) (ve vi vn:Value) (T:World->Prop) (q:Nat) (W:World):Prop where
 cur:dj W cb A L c (P0+K*q)
 rel:C2 cb rb wS W
 box:q<=nc->bB W rb ve vi vn
 done:nc<q->T W
section
variable {cb rb : Nat} {A : Option Addr} {L c P0 K nc : Nat} {wS W W' : World} {ve vi vn : Value} {T : World → Prop} {q : Nat}
end
theorem W9 (cb:Nat) (A:Option Addr) (L c P most M:Nat) (w:World) (hc:dj w cb A L c P) (hP:P<=3800000000000000000) (wI:1<=most) (pV:most<=M) (hM:M<=38):
  Calls Tryz.prog 73 #[.pointer (some ⟨cb,0,none⟩),.int .i64 most] w (Fk cb w.heap.size A L c (P+220000000000000000) w Bd):=by
 have jW:=hc.lt;obtain⟨B,Bl⟩:=J_ (w.heap.size+1)
 obtain⟨w0,bj⟩:=J_ (w.alloc (.cells #[.slice none 0 0,.slice none 0 0,.slice none 0 0] 30))
 have aK:ab w w0:=by rw[bj];exact ad _ (aa _)
 have e_:w0.heap.size=B:=by rw[bj,Bl];simp
 have gh:bD w0 w.heap.size (.slice none 0 0) (.slice none 0 0) (.slice none 0 0):=by
  rw[bj];show(w.heap.push _)[w.heap.size]?=_
  rw[Zbc]
 obtain⟨fX,ic,cD,iA,iS,C6⟩:=E_ gh aK bj Bl e_ (hc.since aK);clear gh aK bj hc Bl e_
 go_enter Tryz.func73,Tryz.ntmps73
 go_upto_region 1 with(fail);rw[<- cD.out];go_wp2_with fail;refine(dF cb A L c P 8 w0 C6 zO zO).mono ?_;rintro e w1 ⟨x,rfl,hx,j_,mc⟩;have jw:=zh j_
 have oz:Hid (CB cb B w0 w1):=by show CB _ _ _ _;rw[<- iS.out];exact mc
 have fG:B<=w1.heap.size:=by rw[<- iS.out];exact mc.size
 have qw:cb<B:=zX iA.out
 have hx8:x<8:=zO
 clear j_ mc hx;rcases(show x=0\/x=1\/x=2\/x=3\/x=4\/x=5\/x=6\/x=7 by omega)with rfl | rfl | rfl | rfl | rfl | rfl | rfl | rfl
 ·skip;go_wp2_with fail;refine(wV cb A L c (P+2) most M w1 jw zO wI pV zO).mono ?_;rintro e w6 ⟨Jz,JA,JB,N6,S6,rfl,dJ,ml,ee,jC⟩;obtain⟨D0,d0,rfl,-,-,-⟩:=id dJ.read.1;obtain⟨D1,d1,rfl,-,-,-⟩:=id dJ.read.2.1;obtain⟨D2,d2,rfl,-,-,-⟩:=id dJ.read.2.2;have bH:CB cb B w0 w6:=oz.trans (jC.mono fG)
  have gP:=bH.ag3 fX.out (zX iA.out) zO
  obtain⟨e0,e1,e2,f0,f1,f2⟩:=gP.box.cells;have aI:=dJ.mono fG;rw[iA.out]at aI bH;have dL:=zh (eP ic.out aI ee bH jW);have tW:Hid (Bd N6):=ml.1.bd zO zO;clear bH gP aI ee jC dJ;go_wp2;refine bodyPost_ret (v:=.agg #[.slice D0 N6.ends.length d0,.slice D1 N6.ids.length d1,.slice D2 N6.agT.length d2]) (by simp[results,Tryz.results73,go_sem, *]) rfl ?_;obtain⟨r1,r2,r3⟩:=dL.out;exact⟨_,_,_,N6,S6,rfl,r1,tW,r2.mono zO,r3⟩
 ·skip;go_wp2_with fail;refine(wV cb A L c (P+2) most M w1 jw zO wI pV zO).mono ?_;rintro e w6 ⟨Jz,JA,JB,N6,S6,rfl,dJ,ml,ee,jC⟩;obtain⟨D0,d0,rfl,-,-,-⟩:=id dJ.read.1;obtain⟨D1,d1,rfl,-,-,-⟩:=id dJ.read.2.1;obtain⟨D2,d2,rfl,-,-,-⟩:=id dJ.read.2.2;have bH:CB cb B w0 w6:=oz.trans (jC.mono fG)
  have gP:=bH.ag3 fX.out (zX iA.out) zO
  obtain⟨e0,e1,e2,f0,f1,f2⟩:=gP.box.cells;have aI:=dJ.mono fG;rw[iA.out]at aI bH;have dL:=zh (eP ic.out aI ee bH jW);have tW:Hid (Bd N6):=ml.1.bd zO zO;clear bH gP aI ee jC dJ;go_wp2;refine bodyPost_ret (v:=.agg #[.slice D0 N6.ends.length d0,.slice D1 N6.ids.length d1,.slice D2 N6.agT.length d2]) (by simp[results,Tryz.results73,go_sem, *]) rfl ?_;obtain⟨r1,r2,r3⟩:=dL.out;exact⟨_,_,_,N6,S6,rfl,r1,tW,r2.mono zO,r3⟩
 ·skip;go_wp2_with fail;refine(rG cb A L c (P+2) most M w1 jw zO wI pV zO).mono ?_;rintro e w6 ⟨Jz,JA,JB,N6,S6,rfl,dJ,ml,ee,jC⟩;obtain⟨D0,d0,rfl,-,-,-⟩:=id dJ.read.1;obtain⟨D1,d1,rfl,-,-,-⟩:=id dJ.read.2.1;obtain⟨D2,d2,rfl,-,-,-⟩:=id dJ.read.2.2;have bH:CB cb B w0 w6:=oz.trans (jC.mono fG)
  have gP:=bH.ag3 fX.out (zX iA.out) zO
  obtain⟨e0,e1,e2,f0,f1,f2⟩:=gP.box.cells;have aI:=dJ.mono fG;rw[iA.out]at aI bH;have dL:=zh (eP ic.out aI ee bH jW);have tW:Hid (Bd N6):=ml.1.bd zO zO;clear bH gP aI ee jC dJ;go_wp2;refine bodyPost_ret (v:=.agg #[.slice D0 N6.ends.length d0,.slice D1 N6.ids.length d1,.slice D2 N6.agT.length d2]) (by simp[results,Tryz.results73,go_sem, *]) rfl ?_;obtain⟨r1,r2,r3⟩:=dL.out;exact⟨_,_,_,N6,S6,rfl,r1,tW,r2.mono zO,r3⟩
 ·skip;go_wp2_with fail;refine(rG cb A L c (P+2) most M w1 jw zO wI pV zO).mono ?_;rintro e w6 ⟨Jz,JA,JB,N6,S6,rfl,dJ,ml,ee,jC⟩;obtain⟨D0,d0,rfl,-,-,-⟩:=id dJ.read.1;obtain⟨D1,d1,rfl,-,-,-⟩:=id dJ.read.2.1;obtain⟨D2,d2,rfl,-,-,-⟩:=id dJ.read.2.2;have bH:CB cb B w0 w6:=oz.trans (jC.mono fG)
  have gP:=bH.ag3 fX.out (zX iA.out) zO
  obtain⟨e0,e1,e2,f0,f1,f2⟩:=gP.box.cells;have aI:=dJ.mono fG;rw[iA.out]at aI bH;have dL:=zh (eP ic.out aI ee bH jW);have tW:Hid (Bd N6):=ml.1.bd zO zO;clear bH gP aI ee jC dJ;go_wp2;refine bodyPost_ret (v:=.agg #[.slice D0 N6.ends.length d0,.slice D1 N6.ids.length d1,.slice D2 N6.agT.length d2]) (by simp[results,Tryz.results73,go_sem, *]) rfl ?_;obtain⟨r1,r2,r3⟩:=dL.out;exact⟨_,_,_,N6,S6,rfl,r1,tW,r2.mono zO,r3⟩
 ·skip;go_wp2_with fail;refine(Li cb A L c (P+2) most M w1 jw zO wI pV zO).mono ?_;rintro e w6 ⟨Jz,JA,JB,N6,S6,rfl,dJ,ml,ee,jC⟩;obtain⟨D0,d0,rfl,-,-,-⟩:=id dJ.read.1;obtain⟨D1,d1,rfl,-,-,-⟩:=id dJ.read.2.1;obtain⟨D2,d2,rfl,-,-,-⟩:=id dJ.read.2.2;have bH:CB cb B w0 w6:=oz.trans (jC.mono fG)
  have gP:=bH.ag3 fX.out (zX iA.out) zO
  obtain⟨e0,e1,e2,f0,f1,f2⟩:=gP.box.cells;have aI:=dJ.mono fG;rw[iA.out]at aI bH;have dL:=zh (eP ic.out aI ee bH jW);have tW:Hid (Bd N6):=ml.1.bd zO zO;clear bH gP aI ee jC dJ;go_wp2;refine bodyPost_ret (v:=.agg #[.slice D0 N6.ends.length d0,.slice D1 N6.ids.length d1,.slice D2 N6.agT.length d2]) (by simp[results,Tryz.results73,go_sem, *]) rfl ?_;obtain⟨r1,r2,r3⟩:=dL.out;exact⟨_,_,_,N6,S6,rfl,r1,tW,r2.mono zO,r3⟩
 ·skip;go_wp2_with fail;refine(Ti cb A L c (P+2) most M w1 jw zO wI pV zO).mono ?_;rintro e w6 ⟨Jz,JA,JB,N6,S6,rfl,dJ,ml,ee,jC⟩;obtain⟨D0,d0,rfl,-,-,-⟩:=id dJ.read.1;obtain⟨D1,d1,rfl,-,-,-⟩:=id dJ.read.2.1;obtain⟨D2,d2,rfl,-,-,-⟩:=id dJ.read.2.2;have bH:CB cb B w0 w6:=oz.trans (jC.mono fG)
  have gP:=bH.ag3 fX.out (zX iA.out) zO
  obtain⟨e0,e1,e2,f0,f1,f2⟩:=gP.box.cells;have aI:=dJ.mono fG;rw[iA.out]at aI bH;have dL:=zh (eP ic.out aI ee bH jW);have tW:Hid (Bd N6):=ml;clear bH gP aI ee jC dJ;go_wp2;refine bodyPost_ret (v:=.agg #[.slice D0 N6.ends.length d0,.slice D1 N6.ids.length d1,.slice D2 N6.agT.length d2]) (by simp[results,Tryz.results73,go_sem, *]) rfl ?_;obtain⟨r1,r2,r3⟩:=dL.out;exact⟨_,_,_,N6,S6,rfl,r1,tW,r2.mono zO,r3⟩
 ·skip;go_wp2_with fail;refine(SM cb A L c (P+2) most M w1 jw zO wI pV zO).mono ?_;rintro e w6 ⟨Jz,JA,JB,N6,S6,rfl,dJ,ml,ee,jC⟩;obtain⟨D0,d0,rfl,-,-,-⟩:=id dJ.read.1;obtain⟨D1,d1,rfl,-,-,-⟩:=id dJ.read.2.1;obtain⟨D2,d2,rfl,-,-,-⟩:=id dJ.read.2.2;have bH:CB cb B w0 w6:=oz.trans (jC.mono fG)
  have gP:=bH.ag3 fX.out (zX iA.out) zO
  obtain⟨e0,e1,e2,f0,f1,f2⟩:=gP.box.cells;have aI:=dJ.mono fG;rw[iA.out]at aI bH;have dL:=zh (eP ic.out aI ee bH jW);have tW:Hid (Bd N6):=ml.1.bd zO zO;clear bH gP aI ee jC dJ;go_wp2;refine bodyPost_ret (v:=.agg #[.slice D0 N6.ends.length d0,.slice D1 N6.ids.length d1,.slice D2 N6.agT.length d2]) (by simp[results,Tryz.results73,go_sem, *]) rfl ?_;obtain⟨r1,r2,r3⟩:=dL.out;exact⟨_,_,_,N6,S6,rfl,r1,tW,r2.mono zO,r3⟩
 ·skip;go_wp2_with fail;refine(SM cb A L c (P+2) most M w1 jw zO wI pV zO).mono ?_;rintro e w6 ⟨Jz,JA,JB,N6,S6,rfl,dJ,ml,ee,jC⟩;obtain⟨D0,d0,rfl,-,-,-⟩:=id dJ.read.1;obtain⟨D1,d1,rfl,-,-,-⟩:=id dJ.read.2.1;obtain⟨D2,d2,rfl,-,-,-⟩:=id dJ.read.2.2;have bH:CB cb B w0 w6:=oz.trans (jC.mono fG)
  have gP:=bH.ag3 fX.out (zX iA.out) zO
  obtain⟨e0,e1,e2,f0,f1,f2⟩:=gP.box.cells;have aI:=dJ.mono fG;rw[iA.out]at aI bH;have dL:=zh (eP ic.out aI ee bH jW);have tW:Hid (Bd N6):=ml.1.bd zO zO;clear bH gP aI ee jC dJ;go_wp2;refine bodyPost_ret (v:=.agg #[.slice D0 N6.ends.length d0,.slice D1 N6.ids.length d1,.slice D2 N6.agT.length d2]) (by simp[results,Tryz.results73,go_sem, *]) rfl ?_;obtain⟨r1,r2,r3⟩:=dL.out;exact⟨_,_,_,N6,S6,rfl,r1,tW,r2.mono zO,r3⟩
def YU (cb B:Nat) (A:Option Addr) (L c P:Nat) (w:World) (e:Ending) (w':World):Prop:=∃a b p ve vi vn N S,e=.returned (.tuple #[.agg #[.int .i64 p.labels,.int .i64 p.degree,a,b],.agg #[ve,vi,vn]])/\fY w' B a b p/\wZ p/\aw w' B ve vi vn N S/\Bd N/\dj w' cb A L c P/\CB cb B w w'
def ag4 (W:World) (b:Nat) (x y z u:Value):World:=(((W.setCell ⟨b,0,none⟩ x).setCell ⟨b,1,none⟩ y).setCell ⟨b,2,none⟩ z).setCell ⟨b,3,none⟩ u
theorem O7 (W:World) (b:Nat) (x y z u:Value):(ag4 W b x y z u).heap.size=W.heap.size:=by simp[ag4,iC]
theorem By (W:World) (b:Nat) (x y z u:Value) {j:Nat} (h:j≠b):(ag4 W b x y z u).heap[j]?=W.heap[j]?:=by
 unfold ag4
 repeat rw[Zan _ _ _ j (by exact h)]
theorem aT.ag4 {W:World} {pb:Nat} {L D:Int} {a b:Value} (h:aT W pb L D a b) (L' D':Int) (a' b':Value):aT (ag4 W pb (.int .i64 L') (.int .i64 D') a' b') pb L' D' a' b':=
 (((h.ahA L').ahB D').aho a').agX b'
structure tX (cb B pb nb:Nat) (A:Option Addr) (L c Q:Nat) (w0 W:World) (lb dg:Int) (a b:Value) (l m:List (List Int)) (ve vi vn:Value) (N:ao) (S:List Nat):Prop where
 pbx:aT W pb lb dg a b
 own:ia W B nb a b l m
 any:wZ ⟨lb,dg,l,m⟩
 net:Mb cb B nb A L c Q w0 W ve vi vn N S
 bd:Bd N
section
variable {cb B pb nb : Nat} {A : Option Addr} {L c Q Q' : Nat} {w0 W W' : World} {lb dg : Int} {a b : Value} {l m : List (List Int)} {ve vi vn : Value} {N : ao} {S : List Nat}
theorem tX.seen (h:tX cb B pb nb A L c Q w0 W lb dg a b l m ve vi vn N S) (hs:bO cb W W') (sZ:dj W' cb A L c Q') (hb:cb<B) (hp:B<=nb) (dV:pb≠cb) (hB:B<=W.heap.size):tX cb B pb nb A L c Q' w0 W' lb dg a b l m ve vi vn N S:=
 ⟨h.pbx.seen hs dV,h.own.seen hs hb,h.any,h.net.seen hs sZ hb hp hB,h.bd⟩
theorem tX.up (h:tX cb B pb nb A L c Q w0 W lb dg a b l m ve vi vn N S) (hQ:Q<=Q'):tX cb B pb nb A L c Q' w0 W lb dg a b l m ve vi vn N S:=⟨h.pbx,h.own,h.any,h.net.mono hQ,h.bd⟩
theorem tX.assign {x y z:Value} {N':ao} {S':List Nat} {B':Nat} (h:tX cb B pb nb A L c Q w0 W lb dg a b l m ve vi vn N S) (hs:bO cb W W') (sZ:dj W' cb A L c Q') (ho:aw W' B' x y z N' S') (hB':nb<B') (hb:cb<B) (hp:B<=nb) (dV:pb≠cb) (XT:pb≠nb) (hB:B<=W.heap.size) (Cu:Bd N'):tX cb B pb nb A L c Q' w0 (agX W' nb x y z) lb dg a b l m x y z N' S':=
 ⟨(h.pbx.seen hs dV).blk (dC _ _ _ _ _ XT),(h.own.seen hs hb).agV fun j hj _ _=>dC _ _ _ _ _ hj,h.any,h.net.assign hs sZ ho hB' hb hp hB,Cu⟩
end
section
variable {P : Program} {ops : Array Oper}
def MQ (ops:Array Oper) (k:Nat) (aQ:List Bool):Bool:=
 xx ops ops.size&&decide (aQ.length=k)&&decide (k<=ops.size) &&
 ((List.range k).all fun i=>match ops[i]? with
  | none=>true
  | some o=>if aQ.getD i true then (List.range i).all fun j => !aQ.getD j true||((kP ops (i+1)).getD i []).contains j
   else (da o).all fun j => !aQ.getD j true) &&
 (List.range ops.size).all fun i=>decide (i<k)||(List.range k).all fun j=>((kP ops (i+1)).getD i []).contains j
theorem lQ {Q:Exit->Act->World->Prop} {NC:Nat} {a:Act} {w w0:World} (k:Nat) (aQ:List Bool) (hm:P.follows .mixedOrders=true) (hc:MQ ops k aQ=true) (aK:ab w0 w)
  (h:oK P ops w0 (fun A=>bP P ops (ab w0) (fun A W=>∃Inv:World->Prop,Inv W/\iH P ops Inv (fun A'=>∀W',Inv W'->Q .normal A' W') (ops.toList.drop k) A) (dM aQ (ops.toList.take k)) A w.drew) (ew aQ (ops.toList.take k)) a):(Code.region NC ops true).wp P Q a w:=by
 unfold MQ at hc;simp only[Zai,decide_eq_true_eq]at hc;obtain⟨⟨⟨⟨hf,UY⟩,Dx⟩,hch⟩,aeU⟩:=hc;have eZ:=uC hf
 have aA:aQ.length=(ops.toList.take k).length:=by simp;omega
 have PU:∀i,i<k->∃b,aQ[i]?=some b:=fun i hi=>⟨_,Zbu zO⟩
 have oH:∀i o,i<k->ops[i]?=some o->(ops.toList.take k)[i]?=some o:=fun i o hi ho=>by
  rw[List.getElem?_take,if_pos hi];simpa using ho
 have ND:∀i b,aQ[i]?=some b->aQ.getD i true=b:=fun i b hb=>by rw[zDd,hb];rfl
 have oS:∀i b,aQ[i]?=some b->i<k:=fun i b hb=>zX ((Zbs.1 hb).1)
 have W_:∀i j,k<=i->i<ops.size->j<k->UW ops j i:=fun i j nR hi hj=>by
  have:=Zbh.1 aeU i (Zab.2 hi)
  rw[Zbp]at this;rcases this with h1 | h1
  ·simp at h1;omega
  ·exact kQ (i+1) i j (by simpa using Zbh.1 h1 j (Zab.2 hj))
 have chT:∀i j,aQ[i]?=some true->aQ[j]?=some true->j<i->UW ops j i:=fun i j hi hj nh=>by
  have nS:=oS i _ hi;have ho:ops[i]?=some ops[i]:=Zcc zO
  have:=Zbh.1 hch i (Zab.2 nS)
  simp only[ho]at this;rw[if_pos (ND i _ hi)]at this
  have:=Zbh.1 this j (Zab.2 nh)
  rw[ND j _ hj,Bool.not_true,Bool.false_or]at this;exact kQ (i+1) i j (by simpa using this)
 have chF:∀i o j,aQ[i]?=some false->ops[i]?=some o->j∈da o->aQ[j]?=some false:=fun i o j hi ho hj=>by
  have nS:=oS i _ hi;have nh:=eZ.back i o ho j hj
  have:=Zbh.1 hch i (Zab.2 nS)
  simp only[ho]at this
  rw[if_neg (by rw[ND i _ hi];simp)]at this
  have:=Zbh.1 this j hj
  obtain⟨b,hb⟩:=PU j zO;rw[ND j _ hb]at this
  cases b <;> simp_all
 obtain⟨agY,F,h0,kV,hst⟩:=EC _ a h
 have GG:∀r,r<=aQ.count false->bi a ops (fun j=>agY (rk false aQ j)) (fun j=>aQ[j]?=some false/\rk false aQ j<r) (F r):=by
  intro r
  induction r with
  | zero=>intro _;rw[h0];exact⟨rfl,rfl,fun j _ _ hj=>zX hj.2,fun _ _=>rfl⟩
  | succ r ih=>
   intro hr;obtain⟨i,yy,yz⟩:=re (b:=false) aQ r zO;have nS:=oS i _ yy;have ho:ops[i]?=some ops[i]:=Zcc zO;have pI:=sj aQ _ i aA yy;rw[oH i _ nS ho,yz]at pI;rw[(hst r _ pI).2]
   have:=((ih zO).put ho (fun j oj d hj jf hd jL=>by
    have:=eZ.aha i _ zO ho j oj (zX (oS j _ hj.1)) jf d hd jL
    subst this
    have:=hj.2
    omega)).same (E:=fun j=>aQ[j]?=some false/\rk false aQ j<r+1) (fun j=>by
     constructor
     ·rintro(⟨a1,a2⟩ | rfl)
      ·exact⟨a1,zO⟩
      ·exact⟨yy,zO⟩
     ·rintro⟨a1,a2⟩
      by_cases e:rk false aQ j=r
      ·exact .inr (wC a1 yy zO)
      ·exact .inl ⟨a1,zO⟩)
   rw[show agY r=agY (rk false aQ i)by rw[yz]]
   exact this
 have hnF:(ew aQ (ops.toList.take k)).length=aQ.count false:=uT _ _ aA;rw[hnF]at kV
 let FIN:Act->World->Prop:=fun A W=>∃Inv:World->Prop,Inv W/\iH P ops Inv (fun A'=>∀W',Inv W'->Q .normal A' W') (ops.toList.drop k) A
 let J:(Nat->Prop)->Act->World->Prop:=fun D a' W=>
  (ab w0 W/\(∀j,D j->j<k)/\∃(V:Nat->Value) (q:Nat) (A:Act),(∀j,aQ[j]?=some false->V j=agY (rk false aQ j))/\(∀j,aQ[j]?=some true->(D j↔rk true aQ j<q)) /\
   bi a ops V D a'/\bi a ops V (fun j=>aQ[j]?=some false\/(aQ[j]?=some true/\rk true aQ j<q)) A /\
   bP P ops (ab w0) FIN ((dM aQ (ops.toList.take k)).drop q) A W) \/
  (∃(Inv:World->Prop) (V:Nat->Value) (G:Nat->Act),Inv W/\(∀j,j<k->D j)/\bi a ops V D a'/\(∀i o,k<=i->ops[i]?=some o->zn P ops Inv o (G (i-k)) (V i)) /\
   (∀i,k<=i->i<=ops.size->bi a ops V (fun j=>j<i) (G (i-k)))/\∀W',Inv W'->Q .normal (G (ops.size-k)) W')
 have htl:(dM aQ (ops.toList.take k)).length=aQ.count true:=uS _ _ aA
 have z8:∀D a' W,J D a' W->(∀j,j<k->D j)->∃(Inv:World->Prop) (V:Nat->Value) (G:Nat->Act),Inv W/\(∀j,j<k->D j)/\bi a ops V D a'/\(∀i o,k<=i->ops[i]?=some o->zn P ops Inv o (G (i-k)) (V i)) /\
   (∀i,k<=i->i<=ops.size->bi a ops V (fun j=>j<i) (G (i-k)))/\∀W',Inv W'->Q .normal (G (ops.size-k)) W':=by
  intro D a' W hJ hD;rcases hJ with⟨hW,ux,V,q,A,hV,hT,oF,QT,NE⟩ | hJ
  ·have hq:aQ.count true<=q:=by
    by_cases e:aQ.count true<=q
    ·exact e
    ·obtain⟨i,yy,yz⟩:=re (b:=true) aQ q zO
     have:=(hT i yy).1 (hD i (oS i _ yy))
     omega
   have Zr:(dM aQ (ops.toList.take k)).drop q=[]:=List.drop_eq_nil_of_le zO;rw[Zr]at NE
   have ea:a'=A:=oF.ext QT (fun j hj=>by
    constructor
    ·intro oC;obtain⟨b,hb⟩:=PU j (ux j oC);cases b
     ·exact .inl hb
     ·exact .inr ⟨hb,(hT j hb).1 oC⟩
    ·rintro(hb | ⟨hb,_⟩) <;> exact hD j (oS j _ hb))
   subst ea;obtain⟨Inv,hI,Za⟩:FIN a' W:=NE
   obtain⟨vt,G,g0,acX,gst⟩:=xy _ _ Za;have zU:(ops.toList.drop k).length=ops.size-k:=zS
   rw[zU]at acX
   have MK:∀i o,k<=i->ops[i]?=some o->(ops.toList.drop k)[i-k]?=some o:=fun i o hi ho=>by
    rw[List.getElem?_drop,show k+(i-k)=i by omega];simpa using ho
   let V':Nat->Value:=fun j=>if j<k then V j else vt (j-k)
   have v1:∀j,j<k->V' j=V j:=fun j hj=>if_pos hj
   have v2:∀j,k<=j->V' j=vt (j-k):=fun j hj=>if_neg zO
   have fr0:bi a ops V' D a':=oF.ag_ (fun j _ hj=>(v1 j (ux j hj)).symm)
   refine⟨Inv,V',G,hI,hD,fr0,fun i o hi ho=>?_,?_,acX⟩
   ·rw[v2 i hi];exact(gst (i-k) o (MK i o hi ho)).1
   ·have step:∀t,k+t<=ops.size->bi a ops V' (fun j=>j<k+t) (G t):=by
     intro t
     induction t with
     | zero=>
      intro _;rw[g0]
      exact fr0.same (fun j=>⟨fun h=>zX (ux j h),fun h=>hD j zO⟩)
     | succ t ih=>
      intro ht;have jS:k+t<ops.size:=zO
      have ho:ops[k+t]?=some ops[k+t]:=Zcc jS;have hg:=MK (k+t) _ zO ho;rw[show k+t-k=t by omega]at hg
      rw[(gst t _ hg).2]
      have:=((ih zO).put ho (fun j oj d hj jf hd jL=>by
       have:=eZ.aha (k+t) _ jS ho j oj zO jf d hd jL
       omega)).same (E:=fun j=>j<k+(t+1)) (fun j=>by show(j<k+t\/j=k+t)↔j<k+(t+1);omega)
      rw[v2 (k+t) zO,show k+t-k=t by omega]at this
      exact this
    intro i hi cH
    have:=step (i-k) zO
    rwa [show k+(i-k)=i by omega]at this
  ·exact hJ
 refine j3 hm eZ.back J (.inl ⟨aj aK,fun j hj=>hj.elim,fun j=>agY (rk false aQ j),0,F (aQ.count false),fun j _=>rfl,fun j _=>⟨fun h=>h.elim,fun h=>zO⟩,⟨rfl,rfl,fun j _ _ hj=>hj.elim,fun _ _=>rfl⟩,?_,?_⟩) ?_ ?_
 ·exact(GG _ (Zaj _)).same (fun j=>by
   constructor
   ·rintro⟨a1,-⟩;exact .inl a1
   ·rintro(a1 | ⟨-,a2⟩)
    ·exact⟨a1,jP a1⟩
    ·omega)
 ·rw[List.drop_zero];exact kV
 ·intro D a' W i o hJ ho yl lB lC;have cH:i<ops.size:=(Zas.1 ho).1
  have To:∀t∈o.looksAt ops,∀j oj,ops[j]?=some oj->oj.dst=some t->D j/\j∈da o:=fun t ht j oj jf hd=>by
   have:=eZ.looks i o cH ho t ht j oj (Zas.1 jf).1 jf hd
   exact⟨lB j this,this⟩
  have NF:∀j oj d,D j->ops[j]?=some oj->o.dst=some d->oj.dst≠some d:=fun j oj d hj jf hd jL=>by
   have:=eZ.aha i o cH ho j oj (Zas.1 jf).1 jf d hd jL
   subst this;exact yl hj
  by_cases nS:i<k
  ·-- one of the first k
   rcases hJ with⟨hW,ux,V,q,A,hV,hT,oF,QT,NE⟩ | ⟨_,_,_,_,h3,-⟩
   rotate_left
   ·exact absurd (h3 i nS) yl
   obtain⟨b,hb⟩:=PU i nS
   cases b with
   | false=>
    have pI:=sj aQ _ i aA hb;rw[oH i _ nS ho]at pI;obtain⟨⟨hw,ig⟩,-⟩:=hst _ _ pI;have hr:=jP hb
    obtain⟨he,EM⟩:=jE (ops:=ops) (a':=a') (A:=F (rk false aQ i)) (fun t ht=>(oF.ag_ (v':=V) (fun _ _ _=>rfl)).agree ((GG _ (Zcd hr)).agY (v':=V) (fun j hj=>(hV j hj.1).symm)) t (fun j oj hj jf hd=>by
     obtain⟨d1,d2⟩:=To t ht j oj jf hd;have hjf:=chF i o j hb ho d2
     exact⟨d1,hjf,z7 (eZ.back i o ho j d2) hjf⟩)) (fun cs b=>eZ.ahc i o cs b ho)
    rw[if_pos (EM.trans hw)];refine .inl ?_;unfold Oper.wp;rw[he,ig W hW];refine .inl ⟨hW,fun j hj=>hj.elim (fun h=>ux j h) (fun h=>zO),V,q,A,hV,fun j hj=>?_,?_,QT,NE⟩
    ·rw[<- hT j hj];constructor
     ·rintro(h | rfl)
      ·exact h
      ·rw[hb]at hj;cases hj
     ·exact .inl
    ·have:=oF.put (i:=i) ho NF
     rwa [hV i hb]at this
   | true=>
    have hq:rk true aQ i=q:=by
     have h1:¬rk true aQ i<q:=fun h=>yl ((hT i hb).2 h)
     by_cases e:rk true aQ i=q
     ·exact e
     ·obtain⟨j,zZ,CE⟩:=re (b:=true) aQ q (zX (jP hb))
      have nh:j<i:=by
       rcases Nat.lt_trichotomy j i with h | h | h
       ·exact h
       ·subst h;omega
       ·have:=z7 h hb;omega
      have:=jM lC ho lB (chT i j hb zZ nh)
      have:=(hT j zZ).1 this
      omega
    have pI:=yB aQ _ i aA hb;rw[oH i _ nS ho,hq]at pI;have VM:q<(dM aQ (ops.toList.take k)).length:=(Zbs.1 pI).1;rw[Zbt VM,(Zbs.1 pI).2]at NE
    obtain⟨he,EM⟩:=jE (ops:=ops) (a':=a') (A:=A) (fun t ht=>oF.agree QT t (fun j oj hj jf hd=>by
     have sU:j<k:=hj.elim (fun h=>ux j h) (fun h=>h.elim (oS j _) (fun h=>oS j _ h.1))
     obtain⟨d1,d2⟩:=To t ht j oj jf hd;refine⟨d1,?_⟩;obtain⟨b,hb'⟩:=PU j sU;cases b
     ·exact .inl hb'
     ·exact .inr ⟨hb',(hT j hb').1 d1⟩)) (fun cs b=>eZ.ahc i o cs b ho)
    have next:∀u W',ab w0 W'->bP P ops (ab w0) FIN ((dM aQ (ops.toList.take k)).drop (q+1)) (A.put o.dst u) W'->J (fun j=>D j\/j=i) (a'.put o.dst u) W':=by
     intro u W' hS ht
     let V':Nat->Value:=fun j=>if j=i then u else V j
     have e1:∀j,j≠i->V' j=V j:=fun j hj=>if_neg hj
     have e2:V' i=u:=if_pos rfl;refine .inl ⟨hS,fun j hj=>hj.elim (fun h=>ux j h) (fun h=>zO),V',q+1,A.put o.dst u,fun j hj=>?_,fun j hj=>?_,?_,?_,ht⟩
     ·rw[e1 j (fun e=>by subst e;rw[hb]at hj;cases hj)];exact hV j hj
     ·constructor
      ·rintro(h | rfl)
       ·have:=(hT j hj).1 h;omega
       ·omega
      ·intro h
       by_cases e:rk true aQ j=q
       ·exact .inr (wC hj hb zO)
       ·exact .inl ((hT j hj).2 zO)
     ·have:=(oF.ag_ (v':=V') (fun j _ hj=>(e1 j (fun e=>by subst e;exact yl hj)).symm)).put (i:=i) ho NF
      rwa [e2]at this
     ·have:=((QT.ag_ (v':=V') (fun j _ hj=>(e1 j (fun e=>by
       subst e;rcases hj with hj | ⟨-,hj⟩
       ·rw[hb]at hj;cases hj
       ·omega)).symm)).put (i:=i) ho (fun j oj d hj jf hd jL=>by
        have:=eZ.aha i o cH ho j oj (Zas.1 jf).1 jf d hd jL
        subst this;rcases hj with hj | ⟨-,hj⟩
        ·rw[hb]at hj;cases hj
        ·omega)).same (E:=fun j=>aQ[j]?=some false\/(aQ[j]?=some true/\rk true aQ j<q+1)) (fun j=>by
        constructor
        ·rintro((h | ⟨h,h'⟩) | rfl)
         ·exact .inl h
         ·exact .inr ⟨h,zO⟩
         ·exact .inr ⟨hb,zO⟩
        ·rintro(h | ⟨h,h'⟩)
         ·exact .inl (.inl h)
         ·by_cases e:rk true aQ j=q
          ·exact .inr (wC h hb zO)
          ·exact .inl (.inr ⟨h,zO⟩))
      rwa [e2]at this
    rcases NE with⟨hw,ig⟩ | ⟨hw,ig⟩
    ·rw[if_pos (EM.trans hw)];refine .inl ?_;unfold Oper.wp;rw[he]
     generalize (execOp A.eval o).run P W=r at ig ⊢
     cases r with
     | ok nx W'=>
      cases nx with
      | value u=>exact next u W' ig.1 ig.2
      | skip=>exact next undef W' ig.1 ig.2
      | row row args=>exact Rows.mono ig fun u qP h=>next u qP h.1 h.2
      | enter f args=>
       simp only[Oper.upon]
       exact Calls.mono ig fun e qP ⟨u,Nj,h3,h4⟩=>by subst Nj;exact next u qP h3 h4
      | _=>exact ig.elim
     | halt x W'=>exact ig.elim
    ·rw[if_neg (by rw[EM.trans hw];simp)]
     exact next _ _ hW ig
  ·-- the flow behind the first k
   have c_:∀j,j<k->D j:=fun j hj=>jM lC ho lB (W_ i j zO cH hj)
   obtain⟨Inv,V,G,hI,hD,oF,aaJ,hGf,hQ⟩:=z8 D a' W hJ c_
   obtain⟨he,EM⟩:=jE (ops:=ops) (a':=a') (A:=G (i-k)) (fun t ht=>oF.agree (hGf i zO zO) t (fun j oj hj jf hd=>by
    obtain⟨d1,d2⟩:=To t ht j oj jf hd
    exact⟨d1,eZ.back i o ho j d2⟩)) (fun cs b=>eZ.ahc i o cs b ho)
   have next:∀W',Inv W'->J (fun j=>D j\/j=i) (a'.put o.dst (V i)) W':=fun W' hI'=>
    .inr ⟨Inv,V,G,hI',fun j hj=>.inl (hD j hj),oF.put (i:=i) ho NF,aaJ,hGf,hQ⟩
   rcases aaJ i o zO ho W hI with⟨h1,h2⟩ | ⟨h1,h2⟩
   ·rw[if_pos (EM.trans h1)];refine .inl ?_;unfold Oper.wp;rw[he];unfold a_ at h2
    generalize (execOp (G (i-k)).eval o).run P W=r at h2 ⊢
    cases r with
    | ok nx W'=>
     cases nx with
     | value u=>simp only at h2;obtain⟨rfl,h3⟩:=h2;exact next W' h3
     | skip=>simp only at h2;obtain⟨h4,h3⟩:=h2;simp only[Oper.upon];rw[h4];exact next W' h3
     | enter f args=>
      simp only at h2
      simp only[Oper.upon]
      exact h2.mono fun e qP ⟨Nj,h3⟩=>by subst Nj;exact next qP h3
     | _=>exact h2.elim
    | halt x W'=>exact h2.elim
   ·rw[if_neg (by rw[EM.trans h1];simp)]
    have:=next W hI
    rw[h2]at this;exact this
 ·intro D a' W hJ c_;obtain⟨Inv,V,G,hI,hD,oF,aaJ,hGf,hQ⟩:=z8 D a' W hJ (fun j hj=>c_ j zO)
  have ea:a'=G (ops.size-k):=oF.ext (hGf ops.size Dx (Zaj _)) (fun j hj=>⟨fun _=>hj,fun _=>c_ j hj⟩)
  rw[ea];exact hQ W hI
end
def eQ (p:aq) (n:ao) (most:Int):List (List Int):=cG p n (aX n) most
def dm (p:aq) (n:ao) (most:Int):Int:=bz p n (aX n) most
def kc (p:aq) (n:ao) (most:Int):Int:=eh p n (aX n) most
theorem s5 (pa pb ve vi vn:Value) (p:aq) (n:ao) (most:Int) (w:World) (hp:el w pa pb p) (h:aR w ve vi vn n) (hm : -9223372036854775808<=most/\most<=9223372036854775807) (PN:wB p<=1048576) (fD:qm n<=1048576):
  Calls Tryz.prog 23 #[.agg #[.int .i64 p.labels,.int .i64 p.degree,pa,pb],.agg #[ve,vi,vn],.int .i64 most] w fun e w'=>∃u S,e=.returned (.tuple #[u,.int .i64 (dm p n most),.int .i64 (kc p n most)])/\bu w' w.heap.size u (eQ p n most) S/\Below w.heap.size w w':=by
 obtain⟨Rl,kR,Hpz,Hmm⟩:=C_ (sd fD) fD PN hm
 unfold eQ dm kc
 obtain⟨F,hF⟩:=K_ (aX n)
 rw[hF];have HF:=zh hF;clear hF
 obtain⟨w0,A,c,A2,c2,A3,c3,P0,iG,P1,it,rfl,rfl,rfl,fR,hm,gC,jz,HA,H,rfl,rfl,jj,jk,jl,jm,jn,jo,HP,cD,aY,fp,fE,fM,ku,nY,oW,oX⟩:=Ah hp h;clear hp h
 obtain⟨gO,iD⟩:=A_ (Ai HP.out) (ET H.out);clear fD PN hm
 go_enter Tryz.func23,Tryz.ntmps23
 go_upto_region 1 with(fail);rw[<- cD.out];have hs:ab w0 w0:=aa _;go_wp2_with fail;refine(fZ _ _ _ n _ (iD _ hs) Rl).mono ?_;rintro e W1 ⟨rfl,hb⟩
 replace hs:ab w0 W1:=hs.trans hb
 clear hb;cases hg:ar n
 ·have hk:qG p n F most=false:=by unfold qG;rw[hg];cases bV p <;> simp
  obtain⟨h0,h1,h2⟩:=X7 hk;obtain⟨HW,H0,H1,H2⟩:=C_ hs h0 h1 h2;clear hs h0 h1 h2 hg hk;go_wp2
  go_ret3
  rw[H0.out,H1.out,H2.out];exact⟨_,_,rfl,sr _ _,ab.after aY HW⟩
 ·obtain⟨iX,iz⟩:=eX hg;have xJ:=zh iz;have hwB:w.heap.size<=w0.heap.size:=aY.size;clear iz hg;go_upto_region 3 with(fail);refine lQ (w0:=w0) 6 [false,false,false,true,false,true] zK zK (hs) ?_;simp only[ew,dM,zT]
  iterate 4 (apply ef rfl;(intro W hW;go_simp;with_reducible rfl);simp only[zA])
  obtain⟨W,dh⟩:=J_ (World.drew W1)
  rw[<- dh]
  have hW:ab w0 W:=by rw[dh];exact aj (hs)
  clear dh;refine Or.inl ⟨rfl,?_⟩
  go_simp
  (with_reducible refine(nZ _ _ _ n _ (iD.out _ hW) zO (fun v es hv=>Zak (xJ.out v es hv) zO)).mono ?_)
  rintro e W' ⟨u1,S1,rfl,gL,aP⟩;refine⟨_,rfl,hW.trans aP,?_⟩
  replace hW:=hW.trans aP
  obtain⟨AU,mU,cU,rfl⟩:=aL.one gL;have Rn:=zh (HF.out ▸ gL.read);have HZ1:Hid (w.heap.size<=W'.heap.size):=Zak hwB (ab.below hW).size;clear gL aP
  (try simp only[zA])
  refine Or.inl ⟨rfl,?_⟩
  go_simp
  (with_reducible refine(Kn _ _ _ _ _ _ p n F most _ (gO.out _ hW) (iD.out _ hW) Rn.out Hmm.out Hpz.out kR.out).mono ?_)
  rintro e W' ⟨uR,SR,rfl,hoR,hbR⟩;refine⟨_,rfl,hW.trans hbR,?_⟩
  replace hW:=hW.trans hbR
  obtain⟨AR,mR,cR,rfl⟩:=aL.one hoR;have HOR:=zh (aL.mono hoR HZ1.out);clear hoR hbR
  (try simp only[zA])
  have HW0:=zh hW;refine⟨fun W=>ab W' W,aa _,?_⟩
  iterate 6 (refine ch rfl ?_;simp only[zA])
  clear hW;intro W hW;have HW:=zh hW;clear hW hs;go_wp2
  go_ret3
  exact⟨_,_,rfl,aL.agU HOR HW.below,ab.after aY (HW0.after HW)⟩
theorem O8 {W:World} {B:Nat} {u:Value} {l:List (List Int)} {S:List Nat} (h:bu W B u l S) (h0:0<l.length):∃g c,u=.slice (some ⟨g,0,none⟩) l.length c:=by
 obtain⟨vs,Ss,r1,-⟩:=h;rcases cj r1 with⟨e,h1⟩ | ⟨g,c,e,-⟩
 ·omega
 ·exact⟨g,c,e⟩
theorem mo {W:World} {B g m c v:Nat} {l:List (List Int)} {S:List Nat} {row:List Int} (h:bu W B (.slice (some ⟨g,0,none⟩) m c) l S) (hv:l[v]?=some row):∃A cr,W.cell? ⟨g,v,none⟩=some (.slice A row.length cr)/\W.frozen? ⟨g,v,none⟩=false/\row.length<=cr/\cr<=maxLen:=by
 obtain⟨u,T,h1,h2,h3,-⟩:=aZ.at_ h hv;obtain⟨A,c',rfl,q1,q2,-⟩:=h3.read;exact⟨A,c',h1,h2,q1,q2⟩
theorem eY {W:World} {B g m c v i:Nat} {l:List (List Int)} {S:List Nat} {row:List Int} {x:Int} (h:bu W B (.slice (some ⟨g,0,none⟩) m c) l S) (hv:l[v]?=some row) (hi:row[i]?=some x):
  ∃gr cr,W.cell? ⟨g,v,none⟩=some (.slice (some ⟨gr,0,none⟩) row.length cr)/\W.cell? ⟨gr,i,none⟩=some (.int .i64 x)/\W.frozen? ⟨gr,i,none⟩=false/\gr∈S/\gr≠g/\∀y,bu (W.setCell ⟨gr,i,none⟩ (.int .i64 y)) B (.slice (some ⟨g,0,none⟩) m c) (l.set v (row.set i y)) S:=by
 obtain⟨u',T',l8,zt,-,CI,-⟩:=aZ.grow fT h hv;obtain⟨u,T,c1,hu,hT,kh⟩:=aZ.ahn fT h hv
 obtain rfl:u'=u:=by rw[l8]at c1;exact Zbx c1
 obtain⟨PZ,hTe⟩:=hu
 have CI:g∉T:=by rw[hTe];rw[zt.2]at CI;exact CI
 rcases PZ.cases with⟨rfl,h0⟩ | ⟨gr,cr,rfl,tC,ut⟩
 ·subst h0;simp at hi
 ·have yi:gr∈T:=by rw[hTe];simp[Value.ownBlock]
  refine⟨gr,cr,c1,PZ.cell hi,PZ.free i,hT gr yi,fun e=>CI (e ▸ yi),fun y=>?_⟩
  have eB:aV T W (W.setCell ⟨gr,i,none⟩ (.int .i64 y)):=(aV.refl _ _).setCell (.inl yi) _
  exact kh (row.set i y) _ ⟨by have:=PZ.set (k:=i) y;simpa using this,hTe⟩ eB
theorem sK {n:ao} {l:List (List Int)} {v i:Nat} {row:List Int} (y:Int) (h:dv n l) (hv:l[v]?=some row):dv n (l.set v (row.set i y)):=by
 refine⟨by rw[Zau];exact h.1,fun q=>?_⟩
 rw[<- h.2 q];simp only[zDd,Zci]
 by_cases e:v=q
 ·subst e;rw[if_pos rfl,if_pos (ah hv),hv];simp
 ·rw[if_neg e]
theorem gz {n:ao} {l:List (List Int)} {v:Nat} {row:List Int} (h:dv n l) (hv:l[v]?=some row):row.length=(n.ends.getD v []).length:=by
 have:=h.2 v
 rwa [ag hv]at this
theorem O9 {n:ao} {l:List (List Int)} (h:dv n l) (h40:n.ends.length<=40) (h6:∀(v:Nat) (es:List (Int×Int)),n.ends[v]?=some es->es.length<=6):l.length<=40/\∀(v:Nat) (row:List Int),l[v]?=some row->row.length<=6:=by
 refine⟨by rw[h.1];exact h40,fun v row hv=>?_⟩
 rw[gz h hv]
 obtain⟨es,aU⟩:=au n.ends v (by have:=ah hv;rw[h.1]at this;exact this)
 rw[ag aU];exact h6 v es aU
end Go.Proofs.YtnioemnkfojmkaaGreat
