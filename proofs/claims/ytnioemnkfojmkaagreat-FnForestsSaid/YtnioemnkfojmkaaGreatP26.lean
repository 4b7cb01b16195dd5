/- Parts of the proof: walks of functions and plain laws. -/
import Derived.Test.YtnioemnkfojmkaaGreatP25
set_option maxRecDepth 100000
set_option maxHeartbeats 16000000
namespace Go.Proofs.YtnioemnkfojmkaaGreat
open Go Go.RowKit
theorem Eu {n:ao} {v:Nat} (h:v<n.ends.length):(mG n)[v]?=some (aH n v:Int):=by
 unfold mG;rw[Zbr,Zcj h];rfl
theorem qj (pa pb va vb vc:Value) (p:aq) (n:ao) (w:World) (hp:el w pa pb p) (h:aR w va vb vc n):
  Calls Tryz.prog 58 #[.agg #[.int .i64 p.labels,.int .i64 p.degree,pa,pb],.agg #[va,vb,vc]] w fun e w'=>e=.returned (.bool (jV p n))/\Below w.heap.size w w':=by
 obtain⟨w0,A,c,A2,c2,A3,c3,P0,iG,P1,it,rfl,rfl,rfl,fR,hm,gC,jz,HA,H,rfl,rfl,jj,jk,jl,jm,jn,jo,HP,cD,aY,fp,fE,fM,ku,nY,oW,oX⟩:=Ah hp h;clear hp h
 obtain⟨gO,iD⟩:=A_ (Ai HP.out) (ET H.out)
 go_enter Tryz.func58,Tryz.ntmps58
 go_upto_region 1 with(fail);rw[<- cD.out];refine aM 11 (ab w0) (aa _) ?_;simp only[zT]
 refine ch rfl ?_;simp only[zA]
 apply dE _ rfl;(intro W hW;unfold a_;go_simp;with_reducible exact zQ (Kb _ _ p W (gO.out W hW)));simp only[zA]
 refine ch rfl ?_;simp only[zA]
 refine iT rfl rfl ?_;simp only[zA]
 apply bn rfl rfl;(intro hb;intro W hW;unfold a_;go_simp;with_reducible exact zQ (pE _ _ _ n W (iD.out W hW)));simp only[zA]
 (first | refine dy rfl rfl ?_ | (refine ch rfl ?_));simp only[zA]
 refine ch rfl ?_;simp only[zA]
 refine iT rfl rfl ?_;simp only[zA]
 apply bn rfl rfl;(intro hb;intro W hW;unfold a_;go_simp;with_reducible exact zQ (FC _ _ _ n W (iD.out W hW) (by simp only[Zai]at hb;first | exact hb.2 | exact hb)));simp only[zA]
 (first | refine dy rfl rfl ?_ | (refine ch rfl ?_));simp only[zA]
 refine ch rfl ?_;simp only[zA]
 intro W hW;have Hf:=zh (ab.after aY.out hW);clear hW;have hr:=zh (show jV p n=(bV p&&ar n&&sX n)from rfl);go_wp2;go_ret;exact⟨bG hr.symm,Hf⟩
theorem yg (pa pb va vb vc vm:Value) (p:aq) (n:ao) (M:List (List Int)) (w:World) (hp:el w pa pb p) (h:aR w va vb vc n) (hm:bS w vm M) (cC:bV p=true) (hn:ar n=true) (hM:uA n M) (gM:p.agW.length<=1048576) (hc:io n):
  Calls Tryz.prog 63 #[.agg #[.int .i64 p.labels,.int .i64 p.degree,pa,pb],.agg #[va,vb,vc],vm] w fun e w'=>e=.returned (.int .i64 (aF (gR p n (lu M) p.labels.toNat (n.ends.length-1) n.ends.length):Nat))/\Below w.heap.size w w':=by
 have HM:=zh hm;obtain⟨AM,cM,rfl,-,-,-⟩:=id hm;have iX:=(bK hn).2;have ly:=(bK hn).1
 obtain⟨w0,A,c,A2,c2,A3,c3,P0,iG,P1,it,rfl,rfl,rfl,fR,hm,gC,jz,HA,H,rfl,rfl,jj,jk,jl,jm,jn,jo,HP,cD,aY,fp,fE,fM,ku,nY,oW,oX⟩:=Ah hp h;clear hp h
 obtain⟨gO,iD,Cn,jB,Hn,JG,Hc⟩:=F_ (Ai HP.out) (ET H.out) (GQ (HM.out.agU aY.out)) cC hn hM hc;obtain⟨lb,eK⟩:=J_ p.labels.toNat
 rw[<- eK];have ka:=zh eK;have aK:ab w0 w0:=aa _;clear cC hn hM hc hm eK
 go_enter Tryz.func63,Tryz.ntmps63
 go_upto_region 1 with(fail);rw[<- cD.out];go_wp2_with fail;refine(H4 _ _ _ n w0 (iD w0 aK) Hn).mono ?_;rintro e w1 ⟨u,rfl,ho,aP⟩;rcases ho.cases with⟨-,h0⟩ | ⟨g,cg,rfl,-,-⟩
 ·exfalso
  have:=sx n
  rw[h0]at this;simp at this
  omega
 rw[sx]at ho ⊢;have dw:ab w0 w1:=aP;obtain⟨Ho,di⟩:=A_ ho dw;clear ho aP aK dw;go_upto_region 3 with(fail)
 go_loopw [7,13] (fun t q wr=>∃k:Nat,k<=n.ends.length/\q=.int .i64 k/\t=.int .i64 (aF (gR p n (lu M) lb (n.ends.length-1) k):Nat)/\ab w1 wr) (fun _ q _=>n.ends.length-(intOf q).toNat)
 case atStart=>exact⟨0,Zac _,rfl,rfl,aa _⟩
 case round=>
  obtain⟨k,hk,rfl,rfl,hs⟩:=hrel;have Hs:=zh hs;obtain⟨pe,qC⟩:=K_ (gR p n (lu M) lb (n.ends.length-1) k)
  rw[qC]
  by_cases aA:k<n.ends.length
  ·have m3:=zw k;have lC:=bc hs.below (Ho.cell (Eu aA))
   have nr:Hid (gR p n (lu M) lb (n.ends.length-1) (k+1)=if aH n k=k then pe*i8 p n (lu M) lb (n.ends.length-1) k else pe):=by show _=_;rw[gR,qC]
   obtain⟨lk,qR⟩:=K_ (aH n k)
   rw[qR]at lC;have lF:=zh (di.out.after hs);clear qC
   by_cases hr:aH n k=k
   ·have LF:((k:Int)==(lk:Int))=true:=by rw[<- qR,hr];simp
    have nP:qg n k (-1):=.inl ⟨rfl,(vK Hn Hc aA).2 hr⟩;have XQ:=pl Hn aA hr;obtain⟨rt,hrt⟩:=K_ (i8 p n (lu M) lb (n.ends.length-1) k)
    have r_:me p n (lu M) p.labels.toNat (n.ends.length-1) k (-1)=[((aF rt:Nat):Int)]:=by
     unfold me;rw[if_pos zO,<- ka.out,hrt]
    have LX:Hid (aF (aF pe*aF rt)=aF (gR p n (lu M) lb (n.ends.length-1) (k+1))):=by show _=_;rw[sM,nr.out,if_pos hr,hrt]
    obtain⟨Vr,FM,Dj⟩:=B_ (FA jB.out Hn.out JG.out gM Hc.out (n.ends.length-1) k (-1) _ _ _ _ _ _ wr (gO.out wr lF.out) (iD.out wr lF.out) (Cn.out wr lF.out) aA zO nP) r_ (fun W=>rL (aF pe) (aF rt) W (eH _) (eH _))
    have y0:=fp wr lF;have y1:=fE wr lF;have y2:=fM wr lF;have y3:=ku wr lF;have y4:=nY wr lF;have y5:=oW wr lF;have y6:=oX wr lF;clear nP XQ r_ hr qR hs hrt;go_wp2_with fail;refine Vr.mono ?_;rintro e w5 ⟨u5,rfl,qy,k8⟩;rw[FM.out]at qy;rcases qy.cases with⟨-,h0⟩ | ⟨g5,c5,rfl,-,-⟩
    ·cases h0
    have Zg:=qy.cell (k:=0) rfl;have jF:=zh (Hs.out.after (show ab wr w5 from k8));clear qy k8 y0 y1 y2 y3 y4 y5 y6 lC;go_wp2_with fail;refine(Dj w5).mono ?_;rintro e w6 ⟨rfl,rfl⟩;go_wp2;go_roundw
    exact⟨k+1,zO,zN,by rw[LX.out],jF⟩
    simp[intOf];omega
   ·have LF:((k:Int)==(lk:Int))=false:=by rw[<- qR];simp;omega
    have LX:Hid (gR p n (lu M) lb (n.ends.length-1) (k+1)=pe):=by show _=_;rw[nr.out,if_neg hr]
    clear hr qR hs;go_wp2;go_roundw
    exact⟨k+1,zO,zN,by rw[LX.out],Hs⟩
    simp[intOf];omega
  ·obtain rfl:k=n.ends.length:=zO
   have Hpe:=zh qC;have dH:Hid (Below w.heap.size w wr):=ab.after aY (di.after hs);clear hs qC;go_wp2;go_ret
   exact⟨by rw[Hpe.out];rfl,dH⟩
theorem FD {l M:List (List Int)} {lb v k x:Nat} (h:Bs l lb M v k) (hx:x<8):lu M v k x=(decide (x<lb)&&(decide (ak l v k<0)||decide (ak l v k=(x:Int)))):=h x hx
theorem LY {p:aq} {n:ao} {M:List (List Int)} (cC:bV p=true) (hn:ar n=true) (hB:∀v i,ax (aX n) v i->Bs (aX n) p.labels.toNat M v i):gR p n (lu M) p.labels.toNat (n.ends.length-1) n.ends.length=FB p n:=by
 have eV:=(aE cC).1;refine yf hn (fun v k x hv hk hx=>?_) _ (Zaj _)
 have cH:ax (aX n) v k:=by unfold ax;rw[(aN n).2 v];exact hk
 rw[FD (hB v k cH) zO,fP cH,decide_eq_true hx];rfl
theorem Ut {c:Nat} (h:c<=1000000000000):aF c=c:=by unfold aF;omega
theorem Uu (pa pb va vb vc:Value) (p:aq) (n:ao) (w:World) (hp:el w pa pb p) (h:aR w va vb vc n) (gM:p.agW.length<=1048576):
  Calls Tryz.prog 22 #[.agg #[.int .i64 p.labels,.int .i64 p.degree,pa,pb],.agg #[va,vb,vc]] w fun e w'=>e=.returned (.tuple #[.int .i64 (qO p n),.bool (ke p n)])/\Below w.heap.size w w':=by
 obtain⟨w0,A,c,A2,c2,A3,c3,P0,iG,P1,it,rfl,rfl,rfl,fR,hm,gC,jz,HA,H,rfl,rfl,jj,jk,jl,jm,jn,jo,HP,cD,aY,fp,fE,fM,ku,nY,oW,oX⟩:=Ah hp h;clear hp h
 obtain⟨gO,iD⟩:=A_ (Ai HP.out) (ET H.out);have aK:ab w0 w0:=aa _;obtain⟨fo,Ev⟩:=K_ (jV p n)
 have JH:=zh Ev;clear Ev;have Y3:=zh (qj _ _ _ _ _ p n w0 (gO.out w0 aK) (iD.out w0 aK));rw[JH.out]at Y3
 go_enter Tryz.func22,Tryz.ntmps22
 go_upto_region 1 with(fail);rw[<- cD.out];go_wp2_with fail;refine Y3.mono ?_;rintro e w1 ⟨rfl,aP⟩;have dw:ab w0 w1:=aP;have di:=zh dw;clear aP aK dw;cases fo
 ·have H1:Hid (qO p n=0):=by show _=_;unfold qO ke;rw[JH.out];rfl
  have H2:Hid (ke p n=false):=by show _=_;unfold ke;rw[JH.out];rfl
  have dH:Hid (Below w.heap.size w w1):=ab.after aY di;go_wp2
  go_ret2
  exact⟨by rw[H1.out,H2.out];rfl,dH⟩
 ·obtain⟨cC,hn,hc⟩:=jD JH;obtain⟨iX,iz⟩:=eX hn;have eV:=(aE cC).1;obtain⟨jB,Hn,Hc⟩:=B_ cC hn hc
  have afo:Hid (n.ends.length<=1048576):=by show _<=_;omega
  have xJ:Hid (∀(v:Nat) (es:List (Int×Int)),n.ends[v]?=some es->es.length<=1048576):=fun v es he=>zX (iz v es he)
  have Hir:Hid (Ju (p.labels-1) (aX n)):=uX zO;have wH:=zh (aN n);have D9:ab w1 w1:=aa _;clear cC hn hc iX iz eV;go_upto_region 3 with(fail);have q0:=fun W (hW:ab w1 W)=>fp W (di.after hW)
  have q1:=fun W (hW:ab w1 W)=>fE W (di.after hW)
  have q2:=fun W (hW:ab w1 W)=>fM W (di.after hW)
  have q3:=fun W (hW:ab w1 W)=>ku W (di.after hW)
  have q4:=fun W (hW:ab w1 W)=>nY W (di.after hW)
  have q5:=fun W (hW:ab w1 W)=>oW W (di.after hW)
  have q6:=fun W (hW:ab w1 W)=>oX W (di.after hW)
  refine dO (w0:=w1) 7 [false,false,false,false,true,true,true] zK zK (D9) ?_;simp only[ew,dM,zT]
  iterate 4 (apply ef rfl;(intro W hW;go_simp;with_reducible rfl);simp only[zA])
  intro W hW;refine Or.inl ⟨rfl,?_⟩
  go_simp
  (with_reducible refine(rm _ _ _ n W (iD.out W (di.out.after hW)) afo.out xJ.out).mono ?_)
  rintro e W' ⟨u1,S1,rfl,ho,hb⟩;refine⟨_,rfl,hW.trans hb,?_⟩
  replace hW:=hW.trans hb
  have HI:=zh ho.read;clear ho
  (try simp only[zA])
  refine Or.inl ⟨rfl,?_⟩
  go_simp
  (with_reducible refine(uj _ _ _ p n (aX n) _ (gO.out _ (di.out.after hW)) HI.out jB.out Hn.out wH.out Hir.out).mono ?_)
  rintro e W' ⟨u2,S2,M,rfl,dD,hM,hB,aS⟩;refine⟨_,rfl,hW.trans aS,?_⟩
  replace hW:=hW.trans aS
  obtain⟨Qi,JG,HBs⟩:=B_ dD.read hM hB;clear dD hM hB
  (try simp only[zA])
  refine Or.inl ⟨rfl,?_⟩
  go_simp
  (with_reducible refine(yg _ _ _ _ _ _ p n M _ (gO.out _ (di.out.after hW)) (iD.out _ (di.out.after hW)) Qi.out jB.out Hn.out JG.out gM Hc.out).mono ?_)
  rintro e W' ⟨rfl,er⟩;refine⟨_,rfl,hW.trans er,?_⟩
  replace hW:=hW.trans er
  rw[LY jB.out Hn.out HBs.out]
  (try simp only[zA])
  simp only[bP];have dH:Hid (Below w.heap.size w W'):=ab.after aY (di.after hW);clear hW q0 q1 q2 q3 q4 q5 q6;obtain⟨c0,xL⟩:=K_ (FB p n)
  rw[xL]
  by_cases BZ:c0<=1000000000000
  ·have H1:Hid (ke p n=true):=by show _=_;unfold ke;rw[JH.out,xL,decide_eq_true BZ];rfl
   have H2:Hid (qO p n=(c0:Int)):=by show _=_;unfold qO;rw[H1.out,if_pos rfl,xL]
   rw[Ut BZ];have hgt:((c0:Int)>1000000000000)=False:=eq_false zO;clear xL BZ;go_wp2
   go_ret2
   exact⟨by rw[H1.out,H2.out];rfl,dH⟩
  ·have H1:Hid (ke p n=false):=by show _=_;unfold ke;rw[JH.out,xL,decide_eq_false BZ];rfl
   have H2:Hid (qO p n=0):=by show _=_;unfold qO;rw[H1.out];rfl
   have Oh:aF c0=1000000000001:=by unfold aF;omega
   rw[Oh];clear xL BZ;go_wp2
   go_ret2
   exact⟨by rw[H1.out,H2.out];rfl,dH⟩
open Classical in
noncomputable def yw (p:aq) (n:ao) (v i:Nat) (a:Nat):Bool:=decide (∃s,lR p n s/\ak s v i=(a:Int))
noncomputable def jJ (p:aq) (n:ao) (v i:Nat) (k:Nat):List Int:=((List.range k).filter (yw p n v i)).map fun a:Nat=>(a:Int)
theorem xl (p:aq) (n:ao) (v i k:Nat):jJ p n v i (k+1)=jJ p n v i k++(if yw p n v i k=true then [(k:Int)] else []):=by
 unfold jJ;rw[Zaa,List.filter_append,List.map_append];congr 1
 by_cases h:yw p n v i k=true
 ·rw[if_pos h,List.filter_cons_of_pos h];rfl
 ·rw[if_neg h,List.filter_cons_of_neg h];rfl
theorem B0 (p:aq) (n:ao) (v i k:Nat):(jJ p n v i k).length<=k:=by
 unfold jJ;rw[List.length_map]
 have:=List.length_filter_le (yw p n v i) (List.range k)
 simpa using this
def rX (n:ao) (v i:Nat) (y:Int):List (List Int):=(aX n).set v (((aX n).getD v []).set i y)
theorem B3 {n:ao} {v:Nat} (hv:v<n.ends.length):(aX n)[v]?=some ((aX n).getD v []):=by
 obtain⟨r,hr⟩:=au (aX n) v (by rw[(aN n).1];exact hv)
 rw[ag hr];exact hr
theorem sR {n:ao} {v i:Nat} (hv:v<n.ends.length) (hi:i<(n.ends.getD v []).length) (y:Int) (u j:Nat):ak (rX n v i y) u j=if u=v/\j=i then y else ak (aX n) u j:=
 eJ (B3 hv) (by rw[(aN n).2 v];exact hi) u j
theorem Ps {n:ao} {v i:Nat} (hv:v<n.ends.length) (hi:i<(n.ends.getD v []).length):rX n v i (-1)=aX n:=by
 have hs:cO (rX n v i (-1)) (aX n):=(sO (B3 hv)).symm;refine xh hs fun u j hj=>?_
 rw[sR hv hi]
 split
 ·rename_i e
  obtain⟨rfl,rfl⟩:=e;exact(fP (hj.same hs)).symm
 ·rfl
theorem B4 (n:ao) {v:Nat} (i:Nat) (hv:v<n.ends.length) (y:Int):dv n (rX n v i y):=sK y (aN n) (B3 hv)
theorem Uv {n:ao} {v i:Nat} (hv:v<n.ends.length) (y y':Int):∃row,(rX n v i y)[v]?=some row/\row.length=(n.ends.getD v []).length/\(rX n v i y).set v (row.set i y')=rX n v i y'/\(i<(n.ends.getD v []).length->row[i]?=some y):=by
 have hl:v<(aX n).length:=by rw[(aN n).1];exact hv
 refine⟨((aX n).getD v []).set i y,?_,?_,?_,fun hi=>?_⟩
 ·unfold rX;rw[Zav hl]
 ·rw[Zau];exact(aN n).2 v
 ·unfold rX;rw[List.set_set,List.set_set]
 ·rw[Zav (by rw[(aN n).2 v];exact hi)]
theorem Xs {p:aq} {n:ao} {v i:Nat} (hv:v<n.ends.length) (hi:i<(n.ends.getD v []).length) {y:Int} (eV : -1<=p.labels-1) (hy : -1<=y/\y<=p.labels-1):Ju (p.labels-1) (rX n v i y):=fun u row j x hu hj=>by
 have e:ak (rX n v i y) u j=x:=by unfold ak;rw[ag hu,ag hj]
 rw[sR hv hi]at e
 split at e
 ·rw[<- e];exact hy
 ·have cH:ax (aX n) u j:=by
   have h1:=(B4 n i hv y).2 u;unfold ax;rw[(aN n).2 u,<- h1,ag hu];exact ah hj
  rw[fP cH]at e;omega
theorem Pt {p:aq} {n:ao} {M:List (List Int)} (cC:bV p=true) (hn:ar n=true) (hc:io n) {v i a:Nat} (hv:v<n.ends.length) (hi:i<(n.ends.getD v []).length) (ha:a<p.labels.toNat) (hB:∀u j,ax (rX n v i (a:Int)) u j->Bs (rX n v i (a:Int)) p.labels.toNat M u j):decide (0<gR p n (lu M) p.labels.toNat (n.ends.length-1) n.ends.length)=yw p n v i a:=by
 have eV:=(aE cC).1;unfold yw
 classical
 refine decide_eq_decide.2 ?_;rw[pp,En cC hn hc];have LK:=B4 n i hv (a:Int);refine exists_congr fun s=>and_congr_right fun hs=>?_
 have uy:∀ {u j:Nat},ax s u j->ax (rX n v i (a:Int)) u j:=fun h=>h.same (hs.shp.two LK)
 have cH:ax s v i:=by unfold ax;rw[hs.shp.2];exact hi
 constructor
 ·intro h;have h1:=h v i cH;have h2:=hs.rng v i cH;rw[FD (hB v i (uy cH)) zO,sR hv hi,if_pos ⟨rfl,rfl⟩,Zai,Zbp,decide_eq_true_eq,decide_eq_true_eq,decide_eq_true_eq]at h1;omega
 ·intro h u j hj;have h2:=hs.rng u j hj;rw[FD (hB u j (uy hj)) zO,sR hv hi,Zai,Zbp,decide_eq_true_eq,decide_eq_true_eq,decide_eq_true_eq];refine⟨zO,?_⟩
  split
  ·rename_i e
   obtain⟨rfl,rfl⟩:=e
   right
   omega
  ·left
   rw[fP ((uy hj).same (LK.two (aN n)))];omega
def kN (p:aq) (n:ao) (v i:Int):Bool:=jV p n&&bg n.ends v i
noncomputable def xm (p:aq) (n:ao) (v i:Int):List Int:=if kN p n v i=true then jJ p n v.toNat i.toNat p.labels.toNat else []
def FE (p:aq) (n:ao) (v i:Int) (w:World) (e:Ending) (w':World):Prop:=
 ∃u,e=.returned (.tuple #[u,.bool (kN p n v i)])/\Own w' w.heap.size u (xm p n v i)/\Below w.heap.size w w'
theorem Uw (pa pb va vb vc:Value) (p:aq) (n:ao) (v i:Int) (w:World) (hp:el w pa pb p) (h:aR w va vb vc n) (gM:p.agW.length<=1048576):
  Calls Tryz.prog 26 #[.agg #[.int .i64 p.labels,.int .i64 p.degree,pa,pb],.agg #[va,vb,vc],.int .i64 v,.int .i64 i] w (FE p n v i w):=by
 obtain⟨w0,A,c,A2,c2,A3,c3,P0,iG,P1,it,rfl,rfl,rfl,fR,hm,gC,jz,HA,H,rfl,rfl,jj,jk,jl,jm,jn,jo,HP,cD,aY,fp,fE,fM,ku,nY,oW,oX⟩:=Ah hp h;clear hp h
 obtain⟨gO,iD⟩:=A_ (Ai HP.out) (ET H.out);have aK:ab w0 w0:=aa _
 go_enter Tryz.func26,Tryz.ntmps26
 go_upto_region 1 with(fail);rw[<- cD.out];refine aM 11 (ab w0) (aa _) ?_;simp only[zT]
 iterate 2 (refine ch rfl ?_;simp only[zA])
 apply dE _ rfl;(intro W hW;unfold a_;go_simp;with_reducible exact zQ (qj _ _ _ _ _ p n W (gO.out W hW) (iD.out W hW)));simp only[zA]
 iterate 2 (refine ch rfl ?_;simp only[zA])
 iterate 3 (refine iT rfl rfl ?_;simp only[zA])
 apply bn rfl rfl;(intro hb;intro W hW;unfold a_;go_simp;with_reducible exact zQ (J1 _ _ _ n v i W (iD.out W hW)));simp only[zA]
 refine iT rfl rfl ?_;simp only[zA]
 (first | refine db rfl rfl ?_ | (refine ch rfl ?_));simp only[zA]
 intro W1 hW;have di:=zh hW;clear hW aK
 cases hg:(!jV p n||(!ar n || !bg n.ends v i))
 ·have eZ:kN p n v i=true:=by
   unfold kN;rw[Zbn,Zbn,Zbo,Zbo,Zbo]at hg;rw[hg.1,hg.2.2];rfl
  have Kc:=zh eZ
  have Ev:jV p n=true:=by rw[Zbn,Zbo]at hg;exact hg.1
  have Di:bg n.ends v i=true:=by rw[Zbn,Zbn,Zbo,Zbo,Zbo]at hg;exact hg.2.2
  obtain⟨cC,hn,hc⟩:=jD Ev;unfold bg at Di;rw[Zai,aB,aB]at Di;obtain⟨v',rfl⟩:=Int.eq_ofNat_of_zero_le Di.1.1;obtain⟨i',rfl⟩:=Int.eq_ofNat_of_zero_le Di.2.1
  have hv:v'<n.ends.length:=zX Di.1.2
  have hi:i'<(n.ends.getD v' []).length:=by have:=Di.2.2;rw[Zag]at this;omega
  obtain⟨lb,eK⟩:∃z:Nat,p.labels=(z:Int):=⟨p.labels.toNat,zX ((aE cC).1)⟩
  have pm:p.labels.toNat=lb:=zO
  have pY:1<=lb/\lb<=8:=zX ((aE cC).1)
  obtain⟨iX,iz⟩:=eX hn;have ly:=(bK hn).1;obtain⟨jB,Hn,Hc,Hv,Hi,ka,po⟩:=F_ cC hn hc hv hi eK pm;have yp:n.ends.length<=1048576:=zO
  have Ux:=zh yp
  have xJ:Hid (∀(v:Nat) (es:List (Int×Int)),n.ends[v]?=some es->es.length<=1048576):=fun v es he=>zX (iz v es he)
  have yt:∀W,ab w0 W->W.cell? ⟨w.heap.size,0,none⟩=some (.int .i64 (lb:Int)):=fun W hW=>by rw[<- eK];exact fp W hW
  have Qk:=zh (rm _ _ _ n W1 (iD.out W1 di.out) Ux.out xJ.out);have y4:=nY W1 di;have y5:=oW W1 di;have y6:=oX W1 di;clear eZ Ev Di cC hn hc eK pm iz iX yp;go_wp2_with fail;refine Qk.mono ?_;rintro e W2 ⟨u,S,rfl,ho,aS⟩
  obtain⟨g,cm,rfl⟩:=jI ho (by rw[(aN n).1];omega)
  rw[(aN n).1]at ho ⊢;have fH:ab W1 W2:=aS;have eU:=zh (di.out.after fH);have Cq:=aL.range ho;obtain⟨Cm,Ho⟩:=A_ Cq (show bu W2 w0.heap.size (.slice (some ⟨g,0,none⟩) n.ends.length cm) (rX n v' i' (-1)) S from by rw[Ps Hv.out Hi.out];exact aL.mono ho di.below.size)
  clear ho aS fH Cq y4 y5 y6;go_upto_region 6 with(fail)
  go_loopw [10,12] (fun u t wr=>∃(a:Nat) (y:Int),a<=lb/\t=.int .i64 a/\bu wr w0.heap.size (.slice (some ⟨g,0,none⟩) n.ends.length cm) (rX n v' i' y) S/\Own wr W2.heap.size u (jJ p n v' i' a)/\ab w0 wr/\W2.heap.size<=wr.heap.size) (fun _ t _=>lb-(intOf t).toNat)
  case atStart=>exact⟨0,-1,Zac _,rfl,Ho,fA _ _,eU,Zaj _⟩
  case round=>
   clear Ho;obtain⟨a,y,ha,rfl,hoL,hoU,hs,hz⟩:=hrel;obtain⟨HoL,HoU,Hs,Hz⟩:=C_ hoL hoU hs hz;have l0:=yt wr hs;clear hoL hoU hz
   by_cases CZ:a<lb
   ·have m5:=zw a;obtain⟨row,aG,nd,adm,hri⟩:=Uv (i:=i') Hv y (a:Int);have hx:=hri Hi;obtain⟨gr,cr,a1,a2,a3,a4,a5,kh⟩:=eY HoL aG hx;obtain⟨dq,FV⟩:=K_ ((n.ends.getD v' []).length)
    rw[nd,FV]at a1;have VJ:=(Cm gr a4).2;have adn:=(aL.range HoL gr a4).1;have HL':=zh (kh (a:Int));rw[adm]at HL'
    have ado:=zh (show Own (wr.setCell ⟨gr,i',none⟩ (.int .i64 (a:Int))) W2.heap.size u10 (jJ p n v' i' a)from aD HoU.out (fun q hq=>Zan _ _ _ q (by
     have h6:=(Zad HoU q (Zcm.1 hq)).1;show q≠gr
     omega)))
    have CX:Hid (ab w0 (wr.setCell ⟨gr,i',none⟩ (.int .i64 (a:Int)))):=Hs.out.setCell (p:=⟨gr,i',none⟩) adn (.int .i64 (a:Int));have agM:v'<n.ends.length:=Hv
    have agN:i'<dq:=by rw[<- FV];exact Hi
    obtain⟨wH,Hir⟩:=A_ (B4 n i' Hv.out (a:Int)) (Xs (p:=p) Hv.out Hi.out (y:=(a:Int)) (zX ka.out) (zX ka.out))
    clear aG nd adm hri hx a4 a5 kh VJ adn hs FV;go_upto_region 9 with(fail);obtain⟨W3,pN⟩:=J_ (wr.setCell ⟨gr,i',none⟩ (.int .i64 (a:Int)))
    rw[<- pN]at HL' ado CX ⊢
    have qt:W2.heap.size<=W3.heap.size:=by rw[pN];simpa using Hz.out
    have yT:=zh qt;have D9:ab W3 W3:=aa _;clear pN l0 a1 a2 a3 qt;have HIL:=zh HL'.out.read;have q0:=fun W (hW:ab W3 W)=>fp W (CX.after hW)
    have q1:=fun W (hW:ab W3 W)=>fE W (CX.after hW)
    have q2:=fun W (hW:ab W3 W)=>fM W (CX.after hW)
    have q3:=fun W (hW:ab W3 W)=>ku W (CX.after hW)
    have q4:=fun W (hW:ab W3 W)=>nY W (CX.after hW)
    have q5:=fun W (hW:ab W3 W)=>oW W (CX.after hW)
    have q6:=fun W (hW:ab W3 W)=>oX W (CX.after hW)
    refine dO (w0:=W3) 6 [false,false,false,false,true,true] zK zK (D9) ?_;simp only[ew,dM,zT]
    iterate 4 (apply ef rfl;(intro W hW;go_simp;with_reducible rfl);simp only[zA])
    intro W hW;refine Or.inl ⟨rfl,?_⟩
    go_simp
    (with_reducible refine(uj _ _ _ p n (rX n v' i' (a:Int)) _ (gO.out _ (CX.out.after hW)) (HIL.out.agU hW.below) jB.out Hn.out wH.out Hir.out).mono ?_)
    rintro e W' ⟨u2,S2,M,rfl,dD,hM,hB,aS⟩;refine⟨_,rfl,hW.trans aS,?_⟩
    replace hW:=hW.trans aS
    obtain⟨Qi,JG,HBs⟩:=B_ dD.read hM hB;clear dD hM hB
    (try simp only[zA])
    refine Or.inl ⟨rfl,?_⟩
    go_simp
    (with_reducible refine(yg _ _ _ _ _ _ p n M _ (gO.out _ (CX.out.after hW)) (iD.out _ (CX.out.after hW)) Qi.out jB.out Hn.out JG.out gM Hc.out).mono ?_)
    rintro e W' ⟨rfl,er⟩;refine⟨_,rfl,hW.trans er,?_⟩
    replace hW:=hW.trans er
    skip
    (try simp only[zA])
    simp only[bP];obtain⟨kD,adp,HL4⟩:=B_ (CX.out.after hW) (ado.out.since hW) (aL.agU HL'.out hW.below);have SH:Hid (W2.heap.size<=W'.heap.size):=Zak yT hW.below.size
    have E6:=Pt jB Hn Hc Hv Hi (by rw[po.out];exact CZ) HBs
    have ym:=zh (xl p n v' i' a);obtain⟨ct,Yn⟩:=K_ (gR p n (lu M) p.labels.toNat (n.ends.length-1) n.ends.length)
    rw[Yn]at E6 ⊢;have adq:=zh E6;clear hW q0 q1 q2 q3 q4 q5 q6 E6 Yn
    by_cases xL:0<ct
    ·have hgt:(0<aF ct)=True:=eq_true (yX.2 xL)
     have HF:Hid (jJ p n v' i' (a+1)=jJ p n v' i' a++[(a:Int)]):=by
      show _=_
      rw[ym.out,<- adq.out,decide_eq_true xL,if_pos rfl]
     have Hln:Hid ((jJ p n v' i' a).length+[(a:Int)].length<=17592186044416):=by
      show _<=_
      have:=B0 p n v' i' a
      simp only[List.length_singleton];omega
     have Pu:=zh (adp.out.since (ad (.cells #[.int .i64 (a:Int)] 3) (aa W')));have HL5:=zh (aL.agU HL4.out (am W' (.cells #[.int .i64 (a:Int)] 3)));have jF:=zh (ad (.cells #[.int .i64 (a:Int)] 3) kD.out);have JC:Hid (W2.heap.size<=(W'.alloc (.cells #[.int .i64 (a:Int)] 3)).heap.size):=Zak SH zS;clear xL
     go_wp2_with (at_builtin;refine fQ (base:=W2.heap.size) rfl _ _ rfl rfl Pu rfl (nM _ _) Hln JC ?_;intro v9 w9 T gj fg OZ)
     obtain⟨BC,-⟩:=id gj
     have yK:=zh (show Own w9 W2.heap.size v9 (jJ p n v' i' (a+1))from by rw[HF.out];exact BC)
     have nt:∀q∈S,q∉u10.ownBlock.toList:=fun q hq EQ=>by
      have h6:=(Zad Pu q (Zcm.1 EQ)).1;have h7:=(Cm q hq).2;omega
     have HL9:=zh (aL.agV HL5.out (fun q hq=>fg.block q (aL.range HL5.out q hq).2 (nt q hq)))
     have yL:Hid (ab w0 w9):=aV.since jF fg (fun q hq=>Zak (show w0.heap.size<=W2.heap.size from eU.below.size) (Zad Pu q (Zcm.1 hq)).1)
     have vW:Hid (W2.heap.size<=w9.heap.size):=Zak JC fg.size;clear BC gj fg OZ nt;go_roundw
     exact⟨a+1,(a:Int),zO,zN,HL9,yK,yL,vW⟩
     simp[intOf];omega
    ·have hgt:(0<aF ct)=False:=eq_false (by unfold aF;omega)
     have HF:Hid (jJ p n v' i' (a+1)=jJ p n v' i' a):=by
      show _=_
      rw[ym.out,<- adq.out,decide_eq_false xL];simp
     clear xL;go_wp2;go_roundw
     exact⟨a+1,(a:Int),zO,zN,HL4,by rw[HF.out];exact adp,kD,SH⟩
     simp[intOf];omega
   ·obtain rfl:a=lb:=zO
    have HR:Hid (xm p n (v':Int) (i':Int)=jJ p n v' i' a):=by
     show _=_
     unfold xm;rw[Kc.out,if_pos rfl,Zag,Zag,po.out]
    have dH:Hid (Below w.heap.size w wr):=ab.after aY Hs;have Hbs:Hid (w.heap.size<=W2.heap.size):=(ab.after aY eU:Below w.heap.size w W2).size;clear hs;go_wp2
    go_ret2
    refine⟨_,by rw[Kc.out];rfl,?_,dH⟩
    rw[HR.out];exact Own.mono HoU Hbs
 ·have H1:Hid (kN p n v i=false):=by
   show _=_
   unfold kN;cases hf:jV p n
   ·rfl
   ·rw[hf]at hg;have hn:=(jD hf).2.1;rw[hn]at hg;simpa using hg
  have H2:Hid (xm p n v i=[]):=by show _=_;unfold xm;rw[H1.out];rfl
  have dH:Hid (Below w.heap.size w W1):=ab.after aY di;go_wp2
  go_ret2
  exact⟨_,by rw[H1.out];rfl,by rw[H2.out];exact fA _ _,dH⟩
theorem aa8 {p:aq} {n:ao} {M:List (List Int)} (cC:bV p=true) (hn:ar n=true) (hc:io n) (hS:dv n M) (hM:AC p n M):∃s,lR p n s/\Sub s M:=by
 by_cases h:∃v i,ax M v i
 ·obtain⟨v,i,hi⟩:=h
  have hv:v<n.ends.length:=by rw[<- hS.1];exact hi.lt
  have jS:i<(n.ends.getD v []).length:=by unfold ax at hi;rw[hS.2]at hi;exact hi
  obtain⟨a,a1,a2⟩:=hM.some v i hv jS;obtain⟨s,h1,h2,-⟩:=uc cC hn hc hS hM hi a1 a2;exact⟨s,h1,h2⟩
 ·have i_:∀v i,¬ax M v i:=fun v i hi=>h ⟨v,i,hi⟩
  have KX:∀v i,¬ax (aX n) v i:=fun v i hi=>i_ v i (hi.same ((aN n).two hS))
  refine⟨aX n,⟨aN n,fun v i hi=>absurd hi (KX v i),?_⟩,fun v i hi=>absurd hi (KX v i)⟩
  rw[eO];intro v hv;refine⟨(vo cC _).2 fun hd=>?_,fun i hi=>absurd hi (KX v i)⟩
  have vP:=cC;unfold bV at vP;simp only[Zai,aB]at vP
  have:=KX v 0
  unfold ax at this;omega
theorem Uy {s M:List (List Int)} (h:Sub s M) (hs:cO M s):∀v i,ax M v i->ak M v i≠0:=fun v i hi h0=>by
 have h1:=h v i (hi.same hs);rw[h0]at h1;unfold aO at h1;simp at h1
structure MI (p:aq) (n:ao) (l M:List (List Int)):Prop where
 ms:uA n M
 nz:∀v i,ax M v i->ak M v i≠0
 dn:JF p n M p.labels.toNat n.ends.length 0 0
 sol:∀s,lR p n s->yY l s->Sub s M
 sub:∀v i c:Nat,c<8->ax M v i->aO (ak M v i) c=true->c<p.labels.toNat/\(ak l v i<0\/ak l v i=(c:Int))
section
variable {p : aq} {n : ao} {l M : List (List Int)} (cC : bV p = true) (hn : ar n = true) (hc : io n)
theorem MI.rng (h:MI p n l M) {v i:Nat} (hi:ax M v i):0<=ak M v i/\ak M v i<256:=by
 obtain⟨es,aU⟩:=au n.ends v (by rw[<- h.ms.shp.1];exact hi.lt)
 obtain⟨row,x,_,_,_,h4,h5⟩:=h.ms.at aU (j:=i) (by unfold ax at hi;rw[h.ms.shp.2,ag aU]at hi;exact hi)
 rw[h4];exact h5
include cC hn hc
theorem MI.ac (h:MI p n l M):AC p n M:=by
 refine Xl cC hn h.ms.shp hc (fun v i hv hi=>?_) (fun v i c lC hi hb=>h.dn v i c lC hi (.inl (by rw[<- h.ms.shp.1];exact hi.lt)) hb)
 have cH:ax M v i:=by unfold ax;rw[h.ms.shp.2];exact hi
 obtain⟨c,c1,c2⟩:=rS (h.rng cH) (h.nz v i cH);exact⟨c,(h.sub v i c c1 cH c2).1,c2⟩
omit hn hc in
theorem MI.ext (h:MI p n l M) (hl:dv n l) {s:List (List Int)} (hs:lR p n s) (hS:Sub s M):yY l s:=fun v i hi h0=>by
 have eV:=(aE cC).1;have jS:ax s v i:=hi.same (hl.two hs.shp);have hr:=hs.rng v i jS;have h1:=h.sub v i _ zO (hi.same (hl.two h.ms.shp)) (hS v i jS)
 rcases h1.2 with h2 | h2 <;> omega
theorem MI.ex (h:MI p n l M) (hl:dv n l):∃s,lR p n s/\yY l s:=by
 obtain⟨s,h1,h2⟩:=aa8 cC hn hc h.ms.shp (h.ac cC hn hc);exact⟨s,h1,h.ext cC hl h1 h2⟩
omit cC hn hc in
theorem M4 {v i:Nat} {row:List Int} {x:Int} (hv:l[v]?=some row) (hi:row[i]?=some (-1)) {s:List (List Int)} (he:yY (l.set v (row.set i x)) s) (hx:0<=x):yY l s/\ak s v i=x:=by
 have iR:=sO (i:=i) (y:=x) hv;have hc:=fun u j=>eJ (y:=x) hv (ah hi) u j
 have cH:ax l v i:=by unfold ax;rw[ag hv];exact ah hi
 constructor
 ·intro u j hj h0
  by_cases e:u=v/\j=i
  ·exfalso
   obtain⟨rfl,rfl⟩:=e;unfold ak at h0;rw[ag hv,ag hi]at h0;omega
  ·have:=he u j (hj.same iR) (by rw[hc,if_neg e];exact h0)
   rw[hc,if_neg e]at this;exact this
 ·have:=he v i (cH.same iR) (by rw[hc,if_pos ⟨rfl,rfl⟩];exact hx)
  rw[hc,if_pos ⟨rfl,rfl⟩]at this;exact this
omit hn hc in
theorem MI.same (h:MI p n l M) (hl:dv n l) {v i x:Nat} {row:List Int} (hv:l[v]?=some row) (hi:row[i]?=some (-1)) (hx:x<p.labels.toNat) (hM:ak M v i=((2^x:Nat):Int)):MI p n (l.set v (row.set i (x:Int))) M where
 ms:=h.ms
 nz:=h.nz
 dn:=h.dn
 sol:=fun s hs he=>h.sol s hs (M4 hv hi he zO).1
 sub:=fun u j c Xt cH hb=>by
  have eV:=(aE cC).1;have h1:=h.sub u j c Xt cH hb;refine⟨h1.1,?_⟩;rw[eJ hv (ah hi)]
  split
  ·rename_i e
   obtain⟨rfl,rfl⟩:=e;rw[hM,vL zO Xt]at hb
   right
   have:=of_decide_eq_true hb
   omega
  ·exact h1.2
theorem MI.next (h:MI p n l M) (hl:dv n l) {v i x:Nat} {row kq:List Int} {y:Int} (hv:l[v]?=some row) (hi:row[i]?=some (-1)) (hx:x<p.labels.toNat) (hmv:M[v]?=some kq) (QU:kq[i]?=some y) (hb:aO y x=true) {M2:List (List Int)} (h2:Qn p n (M.set v (kq.set i ((2^x:Nat):Int))) M2) (hd:JF p n M2 p.labels.toNat n.ends.length 0 0):MI p n (l.set v (row.set i (x:Int))) M2:=by
 have eV:=(aE cC).1
 have M6:ak M v i=y:=by unfold ak;rw[ag hmv,ag QU]
 have cH:ax M v i:=by unfold ax;rw[ag hmv];exact ah QU
 have hce:=fun u j=>eJ (y:=((2^x:Nat):Int)) hmv (ah QU) u j
 have Uz:∀s,lR p n s->Sub s M->ak s v i=(x:Int)->Sub s (M.set v (kq.set i ((2^x:Nat):Int))):=fun s hs hS hsx u j hj=>by
  rw[hce]
  split
  ·rename_i e
   obtain⟨rfl,rfl⟩:=e;rw[hsx,Zag,vL zO zO];exact decide_eq_true rfl
  ·exact hS u j hj
 have LR:∀s,lR p n s->yY (l.set v (row.set i (x:Int))) s->Sub s M2:=fun s hs he=>by
  obtain⟨e1,e2⟩:=M4 hv hi he zO;exact h2.sol s hs (Uz s hs (h.sol s hs e1) e2)
 refine⟨h2.ms,?_,hd,LR,fun u j c Xt afp t_=>?_⟩
 ·obtain⟨s,s1,s2,s3⟩:=uc cC hn hc h.ms.shp (h.ac cC hn hc) cH hx (by rw[M6];exact hb)
  exact Uy (h2.sol s s1 (Uz s s1 s2 s3)) (h2.ms.shp.two s1.shp)
 ·have aP:=h2.sub u j c Xt t_;rw[hce]at aP;have FF:ax M u j:=afp.same (h2.ms.shp.two h.ms.shp);rw[eJ hv (ah hi)]
  split at aP
  ·rename_i e
   rw[if_pos e];rw[vL zO Xt]at aP
   have:=of_decide_eq_true aP
   exact⟨zO,.inr zO⟩
  ·rename_i e
   rw[if_neg e];exact h.sub u j c Xt FF aP
omit hn hc in
theorem MI.start {M0:List (List Int)} (h0:uA n M0) (hB:∀v i,ax (aX n) v i->Bs (aX n) p.labels.toNat M0 v i) (h:Qn p n M0 M) (hd:JF p n M p.labels.toNat n.ends.length 0 0) (JE:∀v i,ax M v i->ak M v i≠0):MI p n (aX n) M where
 ms:=h.ms
 nz:=JE
 dn:=hd
 sol:=fun s hs _=>h.sol s hs fun v i hi=>by
  have eV:=(aE cC).1;have hr:=hs.rng v i hi;have cH:ax (aX n) v i:=hi.same (hs.shp.two (aN n));rw[hB v i cH _ zO,fP cH,decide_eq_true (show(ak s v i).toNat<p.labels.toNat by omega)]
  rfl
 sub:=fun v i c Xt hi hb=>by
  have cH:ax (aX n) v i:=hi.same (h.ms.shp.two (aN n));have h1:=h.sub v i c Xt hb;rw[hB v i cH c Xt,Zai,decide_eq_true_eq]at h1
  exact⟨h1.1,.inl (by rw[fP cH];omega)⟩
omit hn hc in
theorem aa9 {M0:List (List Int)} (hB:∀v i,ax (aX n) v i->Bs (aX n) p.labels.toNat M0 v i) (h:Qn p n M0 M) {v i:Nat} (hi:ax M v i) (h0:ak M v i=0):¬ ∃s,lR p n s:=fun ⟨s,hs⟩=>by
 refine Uy (h.sol s hs fun v i hi=>?_) (h.ms.shp.two hs.shp) v i hi h0
 have eV:=(aE cC).1;have hr:=hs.rng v i hi;have cH:ax (aX n) v i:=hi.same (hs.shp.two (aN n));rw[hB v i cH _ zO,fP cH,decide_eq_true (show(ak s v i).toNat<p.labels.toNat by omega)]
 rfl
omit cC hn hc in
theorem MI.low (h:MI p n l M) {v i x:Nat} (hi:ax l v i) (hl:dv n l) (i_:∀c,c<x->aO (ak M v i) c=false) {t:List (List Int)} (ht:lR p n t) (he:yY l t):(x:Int)<=ak t v i:=by
 have jS:=hi.same (hl.two ht.shp);have h1:=h.sol t ht he v i jS;have h2:=ht.rng v i jS
 by_cases h3:(ak t v i).toNat<x
 ·rw[i_ _ h3]at h1;cases h1
 ·omega
end
def Pv (p:aq) (n:ao) (w:World) (e:Ending) (w':World):Prop:=
 ∃u S l ok,e=.returned (.tuple #[u,.bool ok])/\bu w' w.heap.size u l S/\(ok=true->p_ p n l)/\(ok=false->l=[]/\¬ ∃s,lR p n s)/\Below w.heap.size w w'
theorem Ew (B:Nat) (pa pb va vb vc vm:Value) (p:aq) (n:ao) (M:List (List Int)) (w:World) (hp:el w pa pb p) (h:aR w va vb vc n) (hm:bS w vm M) (cC:bV p=true) (hn:ar n=true) (hM:uA n M) (gM:p.agW.length<=1048576) (hc:io n) (hB:B<=w.heap.size):
  Calls Tryz.prog 109 #[.agg #[.int .i64 p.labels,.int .i64 p.degree,pa,pb],.agg #[va,vb,vc],vm] w fun e w'=>∃(g cm:Nat) (M':List (List Int)) (S:List Nat),e=.returned (.slice (some ⟨g,0,none⟩) n.ends.length cm)/\bu w' B (.slice (some ⟨g,0,none⟩) n.ends.length cm) M' S/\Qn p n M M'/\JF p n M' p.labels.toNat n.ends.length 0 0/\Below w.heap.size w w':=
 (I7 pa pb va vb vc vm p n M w hp h hm cC hn hM gM hc).mono fun _ _ hq=>by
  unfold Er at hq;obtain⟨g,cm,M',S,h1,h2,h3,h4,h5⟩:=hq;exact⟨g,cm,M',S,h1,aL.mono h2 hB,h3,h4,h5⟩
theorem Jh (pa pb va vb vc:Value) (p:aq) (n:ao) (w:World) (hp:el w pa pb p) (h:aR w va vb vc n) (cC:bV p=true) (hn:ar n=true) (gM:p.agW.length<=1048576) (hc:io n):
  Calls Tryz.prog 59 #[.agg #[.int .i64 p.labels,.int .i64 p.degree,pa,pb],.agg #[va,vb,vc]] w (Pv p n w):=by
 obtain⟨iX,iz⟩:=eX hn;have ly:=(bK hn).1
 obtain⟨lb,eK⟩:∃z:Nat,p.labels=(z:Int):=⟨p.labels.toNat,zX ((aE cC).1)⟩
 have pm:p.labels.toNat=lb:=zO
 have pY:1<=lb/\lb<=8:=zX ((aE cC).1)
 obtain⟨m,vU⟩:=J_ n.ends.length
 have TG:1<=m/\m<=40:=zO
 obtain⟨w0,A,c,A2,c2,A3,c3,P0,iG,P1,it,rfl,rfl,rfl,fR,hm,gC,jz,HA,H,rfl,rfl,jj,jk,jl,jm,jn,jo,HP,cD,aY,fp,fE,fM,ku,nY,oW,oX⟩:=Ah hp h;clear hp h
 obtain⟨gO,iD⟩:=A_ (Ai HP.out) (ET H.out);have aK:ab w0 w0:=aa _;obtain⟨jB,Hn,Hc,ka,po,Hm⟩:=E_ cC hn hc eK pm vU;have yp:n.ends.length<=1048576:=zO
 obtain⟨Ux,H6⟩:=A_ yp iz
 have xJ:Hid (∀(v:Nat) (es:List (Int×Int)),n.ends[v]?=some es->es.length<=1048576):=fun v es he=>zX (iz v es he)
 obtain⟨Qk,wH⟩:=A_ (rm _ _ _ n w0 (iD.out w0 aK) Ux.out xJ.out) (aN n);have Hir:Hid (Ju (p.labels-1) (aX n)):=uX zO;clear cC hn hc eK pm iz iX yp ly vU
 go_enter Tryz.func59,Tryz.ntmps59
 go_upto_region 1 with(fail);rw[<- cD.out];go_wp2_with fail;refine Qk.mono ?_;rintro e W1 ⟨ul,Sl,rfl,xk,aP⟩
 obtain⟨gl,cl,rfl⟩:=jI xk (by rw[(aN n).1,<- Hm.out];omega)
 rw[(aN n).1,<- Hm.out]at xk ⊢;have dw:ab w0 W1:=aP;obtain⟨di,HSl,vZ,HIl⟩:=C_ dw (aL.range xk) xk xk.read;have D9:ab W1 W1:=aa _;clear xk aP aK dw;go_upto_region 2 with(fail);have q0:=fun W (hW:ab W1 W)=>fp W (di.after hW)
 have q1:=fun W (hW:ab W1 W)=>fE W (di.after hW)
 have q2:=fun W (hW:ab W1 W)=>fM W (di.after hW)
 have q3:=fun W (hW:ab W1 W)=>ku W (di.after hW)
 have q4:=fun W (hW:ab W1 W)=>nY W (di.after hW)
 have q5:=fun W (hW:ab W1 W)=>oW W (di.after hW)
 have q6:=fun W (hW:ab W1 W)=>oX W (di.after hW)
 refine dO (w0:=W1) 6 [false,false,false,false,true,true] zK zK (D9) ?_;simp only[ew,dM,zT]
 iterate 4 (apply ef rfl;(intro W hW;go_simp;with_reducible rfl);simp only[zA])
 intro W hW;refine Or.inl ⟨rfl,?_⟩
 go_simp
 (with_reducible refine(uj _ _ _ p n (aX n) _ (gO.out _ (di.out.after hW)) (HIl.out.agU hW.below) jB.out Hn.out wH.out Hir.out).mono ?_)
 rintro e W' ⟨u2,S2,M0,rfl,dD,hM,hB,aS⟩;refine⟨_,rfl,hW.trans aS,?_⟩
 replace hW:=hW.trans aS
 obtain⟨Qi,JG,HBs⟩:=B_ dD.read hM hB;clear dD hM hB
 (try simp only[zA])
 refine Or.inl ⟨rfl,?_⟩
 go_simp
 (with_reducible refine(Ew W1.heap.size _ _ _ _ _ _ p n M0 _ (gO.out _ (di.out.after hW)) (iD.out _ (di.out.after hW)) Qi.out jB.out Hn.out JG.out gM Hc.out hW.below.size).mono ?_)
 rintro e W' ⟨gm,cm,M,Sm,rfl,M7,hPm,hDn,er⟩;refine⟨_,rfl,hW.trans er,?_⟩
 replace hW:=hW.trans er
 skip
 (try simp only[zA])
 simp only[bP];obtain⟨W2,rfl⟩:=J_ W'
 have qF:=zh hW;rw[<- Hm.out]at M7 ⊢;obtain⟨Pw,HPm,HDn⟩:=B_ M7 hPm hDn;clear hW q0 q1 q2 q3 q4 q5 q6 M7 hPm hDn;go_upto_region 4 with(fail)
 go_loopw [24] (fun t wr=>∃k:Nat,k<=m/\t=.int .i64 k/\(∀v i,v<k->ax M v i->ak M v i≠0)/\wr=W2) (fun t _=>m-(intOf t).toNat)
 case atStart=>exact⟨0,Zac _,rfl,fun v i hv=>zO,rfl⟩
 case round=>
  obtain⟨k,hk,rfl,JE,Ua⟩:=hrel;have LU:=Ua.symm;clear Ua;subst LU;have Qm:=zh JE;clear JE
  by_cases aA:k<m
  ·have m3:=zw k
   obtain⟨row,aG⟩:=au M k (by rw[HPm.out.ms.shp.1,<- Hm.out];exact aA)
   obtain⟨AL,cL2,eL,-,-,sL⟩:=id Pw.out.read
   injection eL with eL1 eL2 eL3
   subst eL1;obtain⟨bL,oL,uL,eA,Df,s9⟩:=sL k row aG
   injection eA with eA
   injection eA with eA1 eA2
   subst eA1 eA2;obtain⟨AR,cR,rfl,-,-,-⟩:=id s9;obtain⟨MT,dT⟩:=A_ s9 aG;rw[Zba]at Df;obtain⟨hz,hhz⟩:=K_ (nj row 0)
   have HcH:=zh (sc _ row 0 W2 MT.out);rw[hhz]at HcH;have Hhz:=zh hhz;clear aG sL s9 hhz eL3 eL2;go_wp2_with fail;refine HcH.mono ?_;rintro e w5 ⟨rfl,rfl⟩;cases hz
   ·have i_:∀i,ax M k i->ak M k i≠0:=fun i hi h0=>by
     have h1:=Hhz.out;unfold nj at h1
     have h2:(0:Int)∈row:=by
      unfold ax at hi;rw[ag dT.out]at hi
      have h3:ak M k i=row.getD i 0:=by unfold ak;rw[ag dT.out]
      rw[<- h0,h3];exact gJ hi
     rw[Zbv.2 h2]at h1;cases h1
    have qo:=zh i_;clear i_ Df;go_wp2;go_roundw
    exact⟨k+1,zO,zN,fun v i hv hi=>(by rcases Zbi v k with h2 | h2;exact Qm v i h2 hi;rw[show v=k by omega]at hi ⊢;exact qo i hi),trivial⟩
    simp[intOf];omega
   ·have Hns:Hid (¬ ∃s,lR p n s):=by
     have h1:=Hhz.out;unfold nj at h1;obtain⟨i,hi⟩:=List.getElem?_of_mem (Zbv.1 h1)
     exact aa9 jB HBs HPm (v:=k) (i:=i) (by unfold ax;rw[ag dT.out];exact ah hi) (by unfold ak;rw[ag dT.out,ag hi])
    have dH:Hid (Below w.heap.size w W2):=ab.after aY (di.after qF);clear Df;go_wp2
    go_ret2
    exact⟨_,[],[],false,rfl,iW _ _,(fun h=>by cases h),fun _=>⟨rfl,Hns.out⟩,dH.out⟩
  ·obtain rfl:k=m:=zO
   have Ji:Hid (MI p n (aX n) M):=MI.start jB JG HBs HPm HDn fun v i hi=>Qm v i (by have:=hi.lt;rw[HPm.out.ms.shp.1,<- Hm.out]at this;exact this) hi
   clear Qm;obtain⟨Vq,KY,Hzk⟩:=B_ (aL.agU vZ.out qF.out.below) (di.out.after qF.out) qF.out.below.size;go_upto_region 10 with(fail)
   go_loopw [7,33] (fun um t wr=>∃(v:Nat) (l M:List (List Int)) (gm cm:Nat) (Sm:List Nat),v<=k/\t=.int .i64 v/\um=.slice (some ⟨gm,0,none⟩) k cm/\bu wr w0.heap.size (.slice (some ⟨gl,0,none⟩) k cl) l Sl/\bu wr W1.heap.size (.slice (some ⟨gm,0,none⟩) k cm) M Sm/\Gr p n l v 0/\MI p n l M/\ab w0 wr/\W1.heap.size<=wr.heap.size) (fun _ t _=>k-(intOf t).toNat)
   case atStart=>exact⟨0,aX n,M,gm,cm,Sm,Zac _,rfl,rfl,Vq,Pw,Gr.start p n,Ji,KY,Hzk⟩
   case round=>
    clear Vq Pw Ji KY Hzk HPm HDn JG HBs Qi qF vZ;obtain⟨v,l,M,gm,cm,Sm,hv,rfl,rfl,xk,M7,M8,hMI,hs,hz⟩:=hrel;obtain⟨vZ,Pw,tA,Ji,Hs,Hz⟩:=E_ xk M7 M8 hMI hs hz;clear xk M7 M8 hMI hz
    by_cases ij:v<k
    ·have m1:=zw v;obtain⟨q,hq⟩:=J_ ((n.ends.getD v []).length)
     have Y4:v<n.ends.length:=by rw[<- Hm.out];exact ij
     have hq6:q<=6:=by
      obtain⟨es,aU⟩:=au n.ends v Y4;rw[hq,ag aU];exact H6 v es aU
     have TQ:Hid (∀M2,dv n M2->∃row,M2[v]?=some row/\row.length=q):=fun M2 h2=>by
      obtain⟨row,aG⟩:=au M2 v (by rw[h2.1];exact Y4)
      exact⟨row,aG,by rw[gz h2 aG,hq]⟩
     obtain⟨Hq,HvN⟩:=A_ hq Y4;obtain⟨row,aG,nd⟩:=TQ l tA.shp;obtain⟨AR,cR,pd,-,-,-⟩:=mo vZ aG;rw[nd]at pd;clear aG nd hq Y4 hs;go_upto_region 13 with(fail);clear pd
     go_loopw [7,40] (fun um t wr=>∃(i:Nat) (l M:List (List Int)) (gm cm:Nat) (Sm:List Nat),i<=q/\t=.int .i64 i/\um=.slice (some ⟨gm,0,none⟩) k cm/\bu wr w0.heap.size (.slice (some ⟨gl,0,none⟩) k cl) l Sl/\bu wr W1.heap.size (.slice (some ⟨gm,0,none⟩) k cm) M Sm/\Gr p n l v i/\MI p n l M/\ab w0 wr/\W1.heap.size<=wr.heap.size) (fun _ t _=>q-(intOf t).toNat)
     case atStart=>exact⟨0,l,M,gm,cm,Sm,Zac _,rfl,rfl,vZ,Pw,tA,Ji,Hs,Hz⟩
     case round=>
      clear vZ Pw tA Ji Hs Hz;obtain⟨i,l,M,gm,cm,Sm,hi,rfl,rfl,xk,M7,M8,hMI,hs,hz⟩:=hrel;obtain⟨vZ,Pw,tA,Ji,Hs,Hz⟩:=E_ xk M7 M8 hMI hs hz;clear xk M7 M8 hMI hz
      by_cases Xg:i<q
      ·have m2:=zw i;obtain⟨kq,iP,Dk⟩:=TQ M Ji.ms.shp;obtain⟨y,hy⟩:=au kq i zO;obtain⟨od,lS,Px⟩:=TQ l tA.shp;obtain⟨x0,nG⟩:=au od i zO
       have Py:ax l v i:=by unfold ax;rw[ag lS];exact ah nG
       have FF:ax M v i:=by unfold ax;rw[ag iP];exact ah hy
       have yj:x0 = -1:=by
        have h1:=tA.rest v i Py (by unfold xg;omega)
        unfold ak at h1;rw[ag lS,ag nG]at h1;exact h1
       subst yj
       have M6:ak M v i=y:=by unfold ak;rw[ag iP,ag hy]
       have qv:=Ji.rng FF;rw[M6]at qv
       obtain⟨cb,cb1,cb2⟩:=rS qv (by rw[<- M6];exact Ji.nz v i FF)
       have adr:=(Ji.sub v i cb cb1 FF (by rw[M6];exact cb2)).1
       obtain⟨Vn,WX,a1,a2,a3,a4,a5,-⟩:=eY Pw iP hy;rw[Dk]at a1;obtain⟨rV,Xu,Hy,qB,ads,Nu,UA,Hyc,IP⟩:=H_ iP Dk hy lS Px nG Py M6 qv;obtain⟨Hcb,agO⟩:=A_ cb2 adr;obtain⟨wi,rfl⟩:=J_ wr
       clear iP Dk hy lS Px nG Py FF M6 qv cb2 a3 a4 a5 hs adr;go_upto_region 16 with(fail)
       go_loopw [13] (fun t wr=>∃x:Nat,x<=cb/\t=.int .i64 x/\(∀c,c<x->aO y c=false)/\wr=wi) (fun t _=>8-(intOf t).toNat)
       case atStart=>exact⟨0,Zac _,rfl,fun c hc=>zO,rfl⟩
       case round=>
        obtain⟨x,hx,rfl,i_,Ua⟩:=hrel;have LU:=Ua.symm;clear Ua;subst LU;have qo:=zh i_;clear i_;have m4:=zw x;go_wp2_with fail;refine(mT y x wi IP zO).mono ?_;rintro e w5 ⟨rfl,rfl⟩;cases dK:aO y x
        ·have hxc:x≠cb:=fun e=>by rw[e,Hcb.out]at dK;cases dK
         have Ox:Hid (∀c,c<x+1->aO y c=false):=fun c hc=>by
          rcases Zbi c x with h1 | h1
          ·exact qo c h1
          ·rw[show c=x by omega];exact dK
         go_wp2;go_roundw
         exact⟨x+1,zO,zN,Ox,trivial⟩
         simp[intOf];omega
        ·have ou:x<p.labels.toNat:=by
          have cH:ax M v i:=by unfold ax;rw[ag rV.out,Xu.out];exact Xg
          exact(Ji.sub v i x zO cH (by rw[Hyc.out];exact dK)).1
         obtain⟨P,hP⟩:=K_ (((2^x:Nat):Int):Int)
         have LD:IntKind.i64.wrap ((2:Int)^x)=P:=by rw[<- hP];exact(pZ ⟨x,zO⟩).1
         have Y5:0<=P/\P<256:=by have h9:=(pZ ⟨x,zO⟩).2.1;simp only at h9;rw[<- hP];exact⟨Int.natCast_nonneg _,zO⟩
         have m64:min x 64=x:=zO
         obtain⟨oA,cr1,b1,b2,b3,b4,b5,bup⟩:=eY vZ qB Nu;rw[ads.out]at b1;have tC:=(HSl oA b4);have hg0:=(aL.range vZ oA b4).1;obtain⟨W3,pN⟩:=J_ (wi.setCell ⟨oA,i,none⟩ (.int .i64 (x:Int)))
         have U2:=bup (x:Int)
         have Pz:bu W3 W1.heap.size (.slice (some ⟨gm,0,none⟩) k cm) M Sm:=by
          rw[pN]
          exact aL.agV Pw.out (fun z hz=>Zan _ _ _ z (by
           have h6:=(aL.range Pw z hz).1;show z≠oA
           omega))
         have oi:ab w0 W3:=by rw[pN];exact Hs.out.setCell (p:=⟨oA,i,none⟩) hg0 _
         have qt:W1.heap.size<=W3.heap.size:=by rw[pN];simpa using Hz.out
         rw[<- pN]at U2;obtain⟨Xv,agP,c1,yG,FX,c4,c5,cup⟩:=eY Pz rV Hy;rw[Xu.out]at c1;obtain⟨Hl3,UB,lM,yT⟩:=C_ U2 Pz oi qt
         have LO:∀t,lR p n t->yY l t->(x:Int)<=ak t v i:=fun t ht he=>Ji.low UA tA.shp (fun c hc=>by rw[Hyc.out];exact qo c hc) ht he
         have Xw:Hid (Gr p n (l.set v (od.set i (x:Int))) v (i+1)):=tA.out.step qB.out (ah Nu.out) ⟨zO,zY po.out ka.out⟩ LO
         obtain⟨M9,PA,GI,md,uZ⟩:=D_ hP Y5 pN ou dK;clear ou hP Y5 b4 b5 bup U2 Pz oi qt pN LO a1 a2 hg0;go_upto_region 19 with(fail);rw[<- GI.out];clear b1 b2 b3
         by_cases hyP:y=P
         ·have jh:(y != P)=false:=by simp[hyP]
          have afq:Hid (MI p n (l.set v (od.set i (x:Int))) M):=Ji.same jB tA.shp qB Nu md (by rw[Hyc.out,hyP,M9.out]);clear hyP FX c4 c5 cup;go_wp2;go_roundw
          exact⟨i+1,_,M,gm,cm,Sm,zO,zN,rfl,Hl3,UB,Xw,afq,lM,yT⟩
          simp[intOf];omega
         ·have jh:(y != P)=true:=by simp[hyP]
          obtain⟨W4,qS⟩:=J_ (W3.setCell ⟨Xv,i,none⟩ (.int .i64 P))
          have aa_:=cup P;have ut:=(aL.range UB Xv c4).1
          have Ym:bu W4 w0.heap.size (.slice (some ⟨gl,0,none⟩) k cl) (l.set v (od.set i (x:Int))) Sl:=by
           rw[qS]
           exact aL.agV Hl3.out (fun z hz=>Zan _ _ _ z (by
            have h6:=(HSl z hz).2;show z≠Xv
            omega))
          have oh:ab w0 W4:=by rw[qS];exact lM.out.setCell (p:=⟨Xv,i,none⟩) (Zak di.out.below.size ut) _
          have VX:W1.heap.size<=W4.heap.size:=by rw[qS];simpa using yT.out
          rw[<- qS]at aa_;obtain⟨afr,Hl4,kD,SH,Kj⟩:=D_ aa_ Ym oh VX qS;have ZF:Hid (uA n (M.set v (kq.set i P))):=Ji.ms.put rV PA;have HcM:=zh (Ew W1.heap.size _ _ _ _ _ _ p n (M.set v (kq.set i P)) W4 (gO.out W4 oh) (iD.out W4 oh) afr.out.read jB.out Hn.out ZF.out gM Hc.out VX);have y0:=fp W4 oh;have y1:=fE W4 oh;have y2:=fM W4 oh;have y3:=ku W4 oh;have y4:=nY W4 oh;have y5:=oW W4 oh;have y6:=oX W4 oh;clear hyP c4 c5 cup aa_ Ym oh VX qS;go_upto_region 21 with(fail);rw[<- Kj.out];clear c1 yG FX;go_wp2_with fail;refine HcM.mono ?_;rintro e W5 ⟨gm5,cm5,M5,S5,rfl,aba,adt,abb,k8⟩;rw[<- Hm.out]at aba abb ⊢
          have afs:Hid (MI p n (l.set v (od.set i (x:Int))) M5):=Ji.next jB Hn Hc tA.shp qB Nu md rV Hy uZ (by rw[M9.out];exact adt) (by rw[<- Hm.out];exact abb)
          obtain⟨aft,Hl5,jF,JC⟩:=C_ aba (aL.agU Hl4.out k8) (kD.out.after (show ab W4 W5 from k8)) (Zak SH.out k8.size);clear aba adt abb k8 y0 y1 y2 y3 y4 y5 y6;go_wp2;go_roundw
          exact⟨i+1,_,M5,gm5,cm5,S5,zO,zN,rfl,Hl5,aft,Xw,afs,jF,JC⟩
          simp[intOf];omega
      ·obtain rfl:i=q:=zO
       clear hs;go_wp2;go_roundw
       exact⟨v+1,l,M,gm,cm,Sm,zO,zN,rfl,vZ,Pw,tA.row (by unfold ax;rw[tA.out.shp.2 v,<- Hq.out];omega),Ji.out,Hs.out,Hz.out⟩
       simp[intOf];omega
    ·obtain rfl:v=k:=zO
     obtain⟨s,s1,s2⟩:=Ji.ex jB Hn Hc tA.shp
     have Hfs:Hid (p_ p n l):=tA.fin (by rw[<- Hm.out];exact Zaj _) s1 s2
     have dH:Hid (Below w.heap.size w wr):=ab.after aY Hs;have HoE:=zh (aL.mono vZ.out aY.out.size);clear hs s1 s2;go_wp2
     go_ret2
     exact⟨_,Sl,l,true,rfl,HoE.out,(fun _=>Hfs.out),(fun h=>by cases h),dH.out⟩
def UC (p:aq) (n:ao) (w:World) (e:Ending) (w':World):Prop:=
 ∃u S l ok,e=.returned (.tuple #[u,.bool ok])/\bu w' w.heap.size u l S/\(ok=true->jV p n=true/\p_ p n l)/\(ok=false->l=[]/\(jV p n=false\/¬ ∃s,lR p n s))/\Below w.heap.size w w'
theorem Xx (pa pb va vb vc:Value) (p:aq) (n:ao) (w:World) (hp:el w pa pb p) (h:aR w va vb vc n) (gM:p.agW.length<=1048576):
  Calls Tryz.prog 20 #[.agg #[.int .i64 p.labels,.int .i64 p.degree,pa,pb],.agg #[va,vb,vc]] w (UC p n w):=by
 obtain⟨w0,A,c,A2,c2,A3,c3,P0,iG,P1,it,rfl,rfl,rfl,fR,hm,gC,jz,HA,H,rfl,rfl,jj,jk,jl,jm,jn,jo,HP,cD,aY,fp,fE,fM,ku,nY,oW,oX⟩:=Ah hp h;clear hp h
 obtain⟨gO,iD⟩:=A_ (Ai HP.out) (ET H.out);have aK:ab w0 w0:=aa _;obtain⟨fo,Ev⟩:=K_ (jV p n)
 have JH:=zh Ev;clear Ev;have Y3:=zh (qj _ _ _ _ _ p n w0 (gO.out w0 aK) (iD.out w0 aK));rw[JH.out]at Y3
 go_enter Tryz.func20,Tryz.ntmps20
 go_upto_region 1 with(fail);rw[<- cD.out];go_wp2_with fail;refine Y3.mono ?_;rintro e w1 ⟨rfl,aP⟩;have dw:ab w0 w1:=aP;have di:=zh dw;clear aP aK dw;cases fo
 ·have dH:Hid (Below w.heap.size w w1):=ab.after aY di;go_wp2
  go_ret2
  exact⟨_,[],[],false,rfl,iW _ _,(fun h=>by cases h),(fun _=>⟨rfl,.inl JH.out⟩),dH.out⟩
 ·obtain⟨cC,hn,hc⟩:=jD JH;have Gh:=zh (Jh _ _ _ _ _ p n w1 (gO.out w1 di.out) (iD.out w1 di.out) cC hn gM hc);have y0:=fp w1 di;have y1:=fE w1 di;have y2:=fM w1 di;have y3:=ku w1 di;have y4:=nY w1 di;have y5:=oW w1 di;have y6:=oX w1 di;clear cC hn hc;go_wp2_with fail;refine Gh.mono ?_;rintro e w2 ⟨u,S,l,ok,rfl,ho,eZ,i_,aS⟩;obtain⟨Ho,Kc,qo⟩:=B_ (aL.mono ho (Zak aY.out.size di.out.below.size)) eZ i_;have dH:Hid (Below w.heap.size w w2):=ab.after aY (di.after (show ab w1 w2 from aS));clear ho eZ i_ aS y0 y1 y2 y3 y4 y5 y6;go_wp2
  go_ret2
  exact⟨u,S,l,ok,rfl,Ho,(fun h=>⟨JH,Kc h⟩),(fun h=>⟨(qo h).1,.inr (qo h).2⟩),dH⟩
theorem B5 {p:aq} {n:ao} {l:List (List Int)} (hs:dv n l) (cH:Ju (p.labels-1) l):fB p n l=true:=by
 unfold fB kC jd GO
 simp only[Zai,decide_eq_true_eq,Zbh,Zab,Bool.not_eq_true',List.any_eq_false];refine⟨⟨hs.1,fun v _=>hs.2 v⟩,fun row hm=>?_⟩
 suffices h:lX row (-1) (p.labels-1)=true by simpa using h
 unfold lX;rw[Zbh];intro x hx;obtain⟨v,hv⟩:=List.getElem?_of_mem hm;obtain⟨i,hi⟩:=List.getElem?_of_mem hx;exact aB.2 (cH v row i x hv hi)
theorem M_ {p:aq} {n:ao} {s:List (List Int)} (hs:lR p n s):yY (aX n) s:=fun v i hi h0=>by rw[fP hi]at h0;omega
theorem Na {p:aq} {n:ao} {M:List (List Int)} (cC:bV p=true) (hn:ar n=true) (hc:io n) (hR:Xi p n (aX n) M) (jh:∀v i,ax M v i->ak M v i≠0) {v i a:Nat} (hv:v<n.ends.length) (hi:i<(n.ends.getD v []).length) (ha:a<p.labels.toNat):aO (ak M v i) a=yw p n v i a:=by
 have eV:=(aE cC).1
 have cH:ax (aX n) v i:=by unfold ax;rw[(aN n).2 v];exact hi
 unfold yw
 classical
 cases hb:aO (ak M v i) a
 ·symm
  rw[decide_eq_false_iff_not];rintro⟨s,hs,he⟩;have h1:=hR.sol s hs (M_ hs) v i (cH.same ((aN n).two hs.shp));rw[he,Zag,hb]at h1;cases h1
 ·symm
  rw[decide_eq_true_eq];obtain⟨s,h1,-,h3⟩:=LP cC hn hc hR (aN n) jh cH zO hb;exact⟨s,h1,h3⟩
theorem B7 {p:aq} {n:ao} {M:List (List Int)} (hR:Xi p n (aX n) M) {v i:Nat} (hi:ax M v i) (h0:ak M v i=0):¬ ∃s,lR p n s:=fun ⟨s,hs⟩=>Y1 hR (aN n) hs (M_ hs) v i hi h0
theorem Xy {p:aq} {n:ao} (h:¬ ∃s,lR p n s) (v i k:Nat):jJ p n v i k=[]:=by
 unfold jJ;rw[List.filter_eq_nil_iff.2]
 ·rfl
 ·intro a _;unfold yw
  classical
  rw[decide_eq_false fun ⟨s,hs,_⟩=>h ⟨s,hs⟩]
  simp
theorem PB {p:aq} {n:ao} (h:jV p n=true):0<FB p n↔∃s,lR p n s:=by
 obtain⟨h1,h2,h3⟩:=jD h;unfold FB;rw[pp,En h1 h2 h3];exact exists_congr fun s=>⟨fun h=>h.1,fun h=>⟨h,fun _ _ _=>rfl⟩⟩
structure UD (p:aq) (n:ao) (l:List (List Int)) (ok:Bool):Prop where
 yes:ok=true->jV p n=true/\p_ p n l
 no:ok=false->l=[]/\(jV p n=false\/¬ ∃s,lR p n s)
theorem UD.same {p:aq} {n:ao} {l l':List (List Int)} {ok ok':Bool} (h:UD p n l ok) (h':UD p n l' ok'):ok'=ok/\l'=l:=by
 cases ok <;> cases ok'
 ·exact⟨rfl,by rw[(h.no rfl).1,(h'.no rfl).1]⟩
 ·exfalso
  obtain⟨a,b⟩:=h'.yes rfl;rcases(h.no rfl).2 with h1 | h1
  ·rw[a]at h1;cases h1
  ·exact h1 ⟨_,b.ok⟩
 ·exfalso
  obtain⟨a,b⟩:=h.yes rfl;rcases(h'.no rfl).2 with h1 | h1
  ·rw[a]at h1;cases h1
  ·exact h1 ⟨_,b.ok⟩
 ·exact⟨rfl,BP (h'.yes rfl).2 (h.yes rfl).2⟩
theorem UD.count {p:aq} {n:ao} {l:List (List Int)} {ok:Bool} (h:UD p n l ok) (hc:ke p n=true):decide (0<qO p n)=ok:=by
 have hf:jV p n=true:=by unfold ke at hc;rw[Zai]at hc;exact hc.1
 have e:qO p n=(FB p n:Int):=by unfold qO;rw[if_pos hc]
 have lw:=PB hf;rw[e];cases ok
 ·refine decide_eq_false fun h1=>?_
  rcases(h.no rfl).2 with h3 | h3
  ·rw[hf]at h3;cases h3
  ·exact h3 (lw.1 zO)
 ·refine decide_eq_true ?_
  have:=lw.2 ⟨_,(h.yes rfl).2.ok⟩
  omega
theorem UD.sol {p:aq} {n:ao} {l:List (List Int)} (h:UD p n l true):pU p n l=true/\wO p n l=true:=by
 obtain⟨hf,hs⟩:=h.yes rfl;obtain⟨h1,h2,-⟩:=jD hf;exact RQ h1 h2 (aN n) (BQ hs.ok)
theorem UD.on {p:aq} {n:ao} {l:List (List Int)} (h:UD p n l true) {most:Int} (hm:0<=most/\most<=200000):(dm p n most=1/\eQ p n most=l)\/dm p n most=3:=by
 obtain⟨hf,hs⟩:=h.yes rfl;obtain⟨h1,h2,-⟩:=jD hf;have h3:dm p n most=1\/dm p n most=3:=Wh (BQ hs.ok) (O0 h1 h2 hm);rcases h3 with h3 | h3
 ·exact .inl ⟨h3,BP (TZ h3) hs⟩
 ·exact .inr h3
def mZ:List Int->Int
 | []=>0
 | x::l=>2^x.toNat+mZ l
theorem B8 (l m:List Int):mZ (l++m)=mZ l+mZ m:=by
 induction l with
 | nil=>simp[mZ]
 | cons x l ih=>simp only[List.cons_append,mZ,ih];omega
theorem Nb (l:List Int):0<=mZ l:=by
 induction l with
 | nil=>simp[mZ]
 | cons x l ih=>
  simp only[mZ]
  have:(0:Int)<=2^x.toNat:=Int.pow_nonneg (by decide)
  omega
theorem Ex (l:List Int) (k:Nat):0<=mZ (l.take k)/\mZ (l.take k)<=mZ l:=by
 refine⟨Nb _,?_⟩;have h1:=B8 (l.take k) (l.drop k);rw[List.take_append_drop]at h1
 have:=Nb (l.drop k)
 omega
theorem PC {l:List Int} {k:Nat} {x:Int} (h:l[k]?=some x):mZ (l.take (k+1))=mZ (l.take k)+2^x.toNat:=by
 rw[bJ h,B8];simp[mZ]
theorem Jj {p:aq} {n:ao} {v i:Nat} {x:Int}:∀k,(∀a,a<k->aO x a=yw p n v i a)->mZ (jJ p n v i k)=qc x k
 | 0,_=>by simp[jJ,mZ,qc]
 | k+1,h=>by
  rw[xl,B8,Jj k fun a ha=>h a zO,show qc x (k+1)=qc x k+(if aO x k=true then (2:Int)^k else 0)from rfl,h k zO]
  split <;> simp[mZ]
theorem Jk {p:aq} {n:ao} {v i k:Nat} {y:Int} (h:y∈jJ p n v i k):0<=y/\y<(k:Int)/\∃s,lR p n s:=by
 unfold jJ at h;obtain⟨a,ha,rfl⟩:=List.mem_map.1 h;obtain⟨h1,h2⟩:=List.mem_filter.1 ha;rw[Zab]at h1;unfold yw at h2
 classical
 obtain⟨s,hs,-⟩:=of_decide_eq_true h2;exact⟨zO,zO,s,hs⟩
theorem Xz {p:aq} {n:ao} {M:List (List Int)} (hf:jV p n=true) (hR:Xi p n (aX n) M) (jh:∀v i,ax M v i->ak M v i≠0) {v i:Nat} (hv:v<n.ends.length) (hi:i<(n.ends.getD v []).length):mZ (jJ p n v i p.labels.toNat)=ak M v i/\(0<=ak M v i/\ak M v i<256):=by
 obtain⟨cC,hn,hc⟩:=jD hf;have eV:=(aE cC).1;obtain⟨es,aU⟩:=au n.ends v hv;rw[ag aU]at hi;obtain⟨row,x,h1,h2,h3,h4,h5⟩:=hR.ms.at aU hi
 have cH:ax M v i:=by unfold ax;rw[ag h1];omega
 rw[h4]
 rw[Jj (x:=x) _ fun a ha=>by rw[<- h4];exact Na cC hn hc hR jh hv (by rw[ag aU];exact hi) ha]
 refine⟨T1 h5 zO fun c hc hb=>(hR.sub v i c hc cH (by rw[h4];exact hb)).1,h5⟩
theorem UE {p:aq} {n:ao} {v i:Int} (h:kN p n v i=true):jV p n=true/\∃a b:Nat,v=(a:Int)/\i=(b:Int)/\a<n.ends.length/\b<(n.ends.getD a []).length:=by
 unfold kN bg at h
 simp only[Zai,aB]at h;obtain⟨h1,h2,h3⟩:=h;refine⟨h1,v.toNat,i.toNat,zO,zO,zO,zO⟩
theorem UF {α:Type} {l:List α} {k:Nat} {x:α} (h:l[k]?=some x):l.set k x=l:=by
 apply Zck
 intro i;rw[Zci]
 split
 ·rename_i e
  subst e;rw[if_pos (ah h),h]
 ·rfl
end Go.Proofs.YtnioemnkfojmkaaGreat
