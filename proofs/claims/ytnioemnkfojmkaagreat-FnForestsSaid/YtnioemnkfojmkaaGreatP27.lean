/- Parts of the proof: walks of functions and plain laws. -/
import Derived.Test.YtnioemnkfojmkaaGreatP26
set_option maxRecDepth 100000
set_option maxHeartbeats 16000000
namespace Go.Proofs.YtnioemnkfojmkaaGreat
open Go Go.RowKit
theorem Jl {p:aq} (cC:bV p=true):eR p.nodes:=by
 unfold bV at cC;simp only[Zai]at cC;exact jO cC.2.2.1
theorem UG (pa pb va vb vc:Value) (p:aq) (n:ao) (v i:Int) (w:World) (hp:el w pa pb p) (h:aR w va vb vc n) (iM:p.nodes.length<=1048576) (gM:p.agW.length<=1048576) (rq:n.ids.length<=17592186044416):
  Calls Tryz.prog 25 #[.agg #[.int .i64 p.labels,.int .i64 p.degree,pa,pb],.agg #[va,vb,vc],.int .i64 v,.int .i64 i] w (FE p n v i w):=by
 have Ao:=zh rq
 obtain⟨w0,A,c,A2,c2,A3,c3,P0,iG,P1,it,rfl,rfl,rfl,fR,hm,gC,jz,HA,H,rfl,rfl,jj,jk,jl,jm,jn,jo,HP,cD,aY,fp,fE,fM,ku,nY,oW,oX⟩:=Ah hp h;clear hp h
 obtain⟨gO,iD⟩:=A_ (Ai HP.out) (ET H.out);have aK:ab w0 w0:=aa _;clear rq
 go_enter Tryz.func25,Tryz.ntmps25
 go_upto_region 1 with(fail);rw[<- cD.out];refine aM 20 (ab w0) (aa _) ?_;simp only[zT]
 refine ch rfl ?_;simp only[zA]
 apply dE _ rfl;(intro W hW;unfold a_;go_simp;with_reducible exact zQ (iq _ _ p W (gO.out W hW)));simp only[zA]
 iterate 2 (refine ch rfl ?_;simp only[zA])
 refine iT rfl rfl ?_;simp only[zA]
 apply bn rfl rfl;(intro hb;intro W hW;unfold a_;go_simp;with_reducible exact zQ (fZ _ _ _ n W (iD.out W hW) Ao.out));simp only[zA]
 refine iT rfl rfl ?_;simp only[zA]
 (first | refine db rfl rfl ?_ | (refine ch rfl ?_));simp only[zA]
 refine ch rfl ?_;simp only[zA]
 refine iT rfl rfl ?_;simp only[zA]
 apply bn rfl rfl;(intro hb;intro W hW;unfold a_;go_simp;with_reducible exact zQ (qh _ _ _ n W (iD.out W hW) (by have h9:=hb;revert h9;cases ar n <;> simp)));simp only[zA]
 refine iT rfl rfl ?_;simp only[zA]
 (first | refine db rfl rfl ?_ | (refine ch rfl ?_));simp only[zA]
 refine ch rfl ?_;simp only[zA]
 iterate 3 (refine iT rfl rfl ?_;simp only[zA])
 apply bn rfl rfl;(intro hb;intro W hW;unfold a_;go_simp;with_reducible exact zQ (qY _ _ _ n.ends _ _ W (iD.out W hW).es));simp only[zA]
 refine iT rfl rfl ?_;simp only[zA]
 (first | refine db rfl rfl ?_ | (refine ch rfl ?_));simp only[zA]
 intro W1 hW;have di:=zh hW;clear hW aK
 cases hg:(!bV p || !ar n || !sX n || !bg n.ends v i)
 ·simp only[Zbn,Zbo]at hg;obtain⟨⟨⟨cC,hn⟩,tZ⟩,Di⟩:=hg
  have Ev:jV p n=true:=by unfold jV;rw[cC,hn,tZ];rfl
  have eZ:kN p n v i=true:=by unfold kN;rw[Ev,Di];rfl
  have Kc:=zh eZ;obtain⟨-,-,hc⟩:=jD Ev;unfold bg at Di;rw[Zai,aB,aB]at Di;obtain⟨v',rfl⟩:=Int.eq_ofNat_of_zero_le Di.1.1;obtain⟨i',rfl⟩:=Int.eq_ofNat_of_zero_le Di.2.1
  have hv:v'<n.ends.length:=zX Di.1.2
  have hi:i'<(n.ends.getD v' []).length:=by have:=Di.2.2;rw[Zag]at this;omega
  obtain⟨lb,eK⟩:∃z:Nat,p.labels=(z:Int):=⟨p.labels.toNat,zX ((aE cC).1)⟩
  have pm:p.labels.toNat=lb:=zO
  have pY:1<=lb/\lb<=8:=zX ((aE cC).1)
  obtain⟨iX,iz⟩:=eX hn;have ly:=(bK hn).1;obtain⟨dq,FV⟩:=K_ ((n.ends.getD v' []).length)
  obtain⟨My,jB,Hn,Hc,Hv,Hi,ka,po⟩:=G_ FV cC hn hc hv hi eK pm;have yp:n.ends.length<=1048576:=zO
  have Ux:=zh yp
  have xJ:Hid (∀(v:Nat) (es:List (Int×Int)),n.ends[v]?=some es->es.length<=1000000):=fun v es he=>zX (iz v es he)
  have afu:Hid (fB p n (aX n)=true):=B5 (aN n) (uX zO)
  have yt:∀W,ab w0 W->W.cell? ⟨w.heap.size,0,none⟩=some (.int .i64 (lb:Int)):=fun W hW=>by rw[<- eK];exact fp W hW
  have q0:=fun W (hW:ab W1 W)=>fp W (di.after hW)
  have q1:=fun W (hW:ab W1 W)=>fE W (di.after hW)
  have q2:=fun W (hW:ab W1 W)=>fM W (di.after hW)
  have q3:=fun W (hW:ab W1 W)=>ku W (di.after hW)
  have q4:=fun W (hW:ab W1 W)=>nY W (di.after hW)
  have q5:=fun W (hW:ab W1 W)=>oW W (di.after hW)
  have q6:=fun W (hW:ab W1 W)=>oX W (di.after hW)
  have D9:ab W1 W1:=aa _;clear eZ Ev Di cC hn hc eK pm iz iX yp tZ FV;go_upto_region 4 with(fail);refine lQ (w0:=W1) 5 [false,false,false,true,true] zK zK (D9) ?_;simp only[ew,dM,zT]
  iterate 3 (apply ef rfl;(intro W hW;go_simp;with_reducible rfl);simp only[zA])
  obtain⟨W,dh⟩:=J_ (World.drew W1)
  rw[<- dh]
  have hW:ab W1 W:=by rw[dh];exact aj (D9)
  clear dh;refine Or.inl ⟨rfl,?_⟩
  go_simp
  (with_reducible refine(nZ _ _ _ n W (iD.out W (di.out.after hW)) Ux.out xJ.out).mono ?_)
  rintro e W' ⟨u1,S1,rfl,ho,hb⟩;refine⟨_,rfl,hW.trans hb,?_⟩
  replace hW:=hW.trans hb
  have HI:=zh ho.read;clear ho
  (try simp only[zA])
  refine Or.inl ⟨rfl,?_⟩
  go_simp
  (with_reducible refine(p8 _ _ _ _ _ _ p n (aX n) _ (gO.out _ (di.out.after hW)) (iD.out _ (di.out.after hW)) HI.out jB.out Hn.out afu.out (Jl jB.out) iM gM).mono ?_)
  rintro e W' ⟨u2,ok,M,S2,rfl,dD,hR,hz,JE,aS⟩;refine⟨_,rfl,hW.trans aS,?_⟩
  replace hW:=hW.trans aS
  skip
  (try simp only[zA])
  have HW0:=zh hW;refine⟨fun W=>ab W' W,aa _,?_⟩
  iterate 5 (refine ch rfl ?_;simp only[zA])
  clear hW;intro W hW;have eU:=zh (di.out.after (HW0.out.after hW))
  replace dD:=aL.agU dD hW.below
  obtain⟨HR,Hz,Qm,mg⟩:=C_ hR hz JE dD;obtain⟨W2,rfl⟩:=J_ W
  clear hW q0 q1 q2 q3 q4 q5 q6 hR hz JE dD;cases ok
  ·have HRl:Hid (xm p n (v':Int) (i':Int)=[]):=by
    show _=_
    unfold xm;rw[Kc.out,if_pos rfl];obtain⟨a,b,h1,h2⟩:=Hz rfl;exact Xy (B7 HR h1 h2) _ _ _
   have dH:Hid (Below w.heap.size w W2):=ab.after aY eU;go_wp2
   go_ret2
   exact⟨_,by rw[Kc.out];rfl,by rw[HRl.out];exact fA _ _,dH⟩
  ·have jh:=Qm rfl;have Hne:=zh jh;have PD:=mg.out;rw[if_pos rfl]at PD
   obtain⟨gm,cm,rfl⟩:=jI PD (by rw[HR.out.ms.shp.1];omega)
   rw[HR.out.ms.shp.1]at PD;rw[HR.out.ms.shp.1];have HoM:=zh PD
   obtain⟨kq,iP⟩:=au M v' (by rw[HR.out.ms.shp.1];exact Hv)
   have Dk:kq.length=dq:=by rw[gz HR.out.ms.shp iP,My.out]
   obtain⟨y,hy⟩:=au kq i' (by rw[Dk,<- My.out];exact Hi)
   have qv:=HR.ms.rng v' kq i' y iP hy
   have M6:ak M v' i'=y:=by unfold ak;rw[ag iP,ag hy]
   obtain⟨gr,cr,a1,a2,-,-,-,-⟩:=eY PD iP hy;rw[Dk]at a1;have z1:=ae a1;have z2:=ae a2;have IP:=zh qv
   have Hbt:Hid (∀a,a<lb->aO y a=yw p n v' i' a):=fun a ha=>by
    rw[<- M6]
    exact Na jB Hn Hc HR jh Hv Hi (by rw[po.out];exact ha)
   have l0:=yt W2 eU;have hv9:v'<n.ends.length:=Hv
   have hi9:i'<dq:=by rw[<- My.out];exact Hi
   clear jh PD iP Dk hy qv M6 a1 a2 mg;go_upto_region 8 with(fail);clear l0
   go_loopw [10,47] (fun u t wr=>∃a:Nat,a<=lb/\t=.int .i64 a/\Own wr W2.heap.size u (jJ p n v' i' a)/\ab W2 wr) (fun _ t _=>lb-(intOf t).toNat)
   case atStart=>exact⟨0,Zac _,rfl,fA _ _,aa _⟩
   case round=>
    obtain⟨a,ha,rfl,hoU,hs⟩:=hrel;obtain⟨HoU,Hs⟩:=A_ hoU hs;clear hoU
    by_cases CZ:a<lb
    ·have m5:=zw a;obtain⟨z,hz,dP,e_,Xh⟩:=rK IP.out (show a<8 by omega)
     obtain⟨yN,iS⟩:=A_ dP e_;have d1:=z1 wr hs;have d2:=z2 wr hs;obtain⟨ym,Qf⟩:=A_ (xl p n v' i' a) (Hbt.out a CZ);clear dP e_ hs;cases oc:aO y a
     ·have abc:(z=1)=False:=by rw[iS.out oc];simp
      have Qj:(z==1)=false:=by rw[iS.out oc];rfl
      have HF:Hid (jJ p n v' i' (a+1)=jJ p n v' i' a):=by
       show _=_
       rw[ym.out,<- Qf.out,oc];simp
      go_wp2;go_roundw
      exact⟨a+1,zO,zN,by rw[HF.out];exact HoU,Hs⟩
      simp[intOf];omega
     ·have abc:(z=1)=True:=by rw[yN.out oc];simp
      have Qj:(z==1)=true:=by rw[yN.out oc];rfl
      have HF:Hid (jJ p n v' i' (a+1)=jJ p n v' i' a++[(a:Int)]):=by
       show _=_
       rw[ym.out,<- Qf.out,oc,if_pos rfl]
      have Hln:Hid ((jJ p n v' i' a).length+[(a:Int)].length<=17592186044416):=by
       show _<=_
       have:=B0 p n v' i' a
       simp only[List.length_singleton];omega
      have Pu:=zh (HoU.out.since (ad (.cells #[.int .i64 (a:Int)] 3) (aa wr)));have jF:=zh (ad (.cells #[.int .i64 (a:Int)] 3) Hs.out)
      go_wp2_with (at_builtin;refine fQ (base:=W2.heap.size) rfl _ _ rfl rfl Pu rfl (nM _ _) Hln jF.below.size ?_;intro v9 w9 T gj fg OZ)
      obtain⟨BC,-⟩:=id gj
      have yK:=zh (show Own w9 W2.heap.size v9 (jJ p n v' i' (a+1))from by rw[HF.out];exact BC)
      have yL:Hid (ab W2 w9):=aV.since jF fg (fun q hq=>(Zad Pu q (Zcm.1 hq)).1)
      clear BC gj fg OZ;go_roundw
      exact⟨a+1,zO,zN,yK,yL⟩
      simp[intOf];omega
    ·obtain rfl:a=lb:=zO
     have HRl:Hid (xm p n (v':Int) (i':Int)=jJ p n v' i' a):=by
      show _=_
      unfold xm;rw[Kc.out,if_pos rfl,Zag,Zag,po.out]
     have dH:Hid (Below w.heap.size w wr):=ab.after aY (eU.after Hs);have Hbs:Hid (w.heap.size<=W2.heap.size):=(ab.after aY eU:Below w.heap.size w W2).size;clear hs;go_wp2
     go_ret2
     refine⟨_,by rw[Kc.out];rfl,?_,dH⟩
     rw[HRl.out];exact Own.mono HoU Hbs
 ·have H1:Hid (kN p n v i=false):=by
   show _=_
   unfold kN jV
   revert hg
   cases bV p <;> cases ar n <;> cases sX n <;> cases bg n.ends v i <;> simp
  have H2:Hid (xm p n v i=[]):=by show _=_;unfold xm;rw[H1.out];rfl
  have dH:Hid (Below w.heap.size w W1):=ab.after aY di;go_wp2
  go_ret2
  exact⟨_,by rw[H1.out];rfl,by rw[H2.out];exact fA _ _,dH⟩
theorem Gr.inr {p:aq} {n:ao} {l:List (List Int)} {v i:Nat} (h:Gr p n l v i) (eV:1<=p.labels):Ju (p.labels-1) l:=fun u row j x hu hj=>by
 have e:ak l u j=x:=by unfold ak;rw[ag hu,ag hj]
 have cH:ax l u j:=by unfold ax;rw[ag hu];exact ah hj
 by_cases hb:xg u j v i
 ·have:=h.done u j cH hb;omega
 ·have:=h.rest u j cH hb;omega
theorem Jm {W:World} {a:Addr} {x:Nat} (h:W.cell? a=some (.int .i64 (x:Int))):vH W a=x:=by
 unfold vH;rw[h];exact Zag x
def UH (p:aq) (n:ao) (l:List (List Int)):Prop:=l=aX n\/∃s,lR p n s/\yY l s
theorem UH.no {p:aq} {n:ao} {l M:List (List Int)} (h:UH p n l) (hs:dv n l) (hR:Xi p n l M) (hz:∃v i,ax M v i/\ak M v i=0):¬ ∃s,lR p n s:=by
 obtain⟨v,i,h1,h2⟩:=hz;rcases h with h | ⟨s,h3,h4⟩
 ·subst h;exact B7 hR h1 h2
 ·exact absurd h2 (Y1 hR hs h3 h4 v i h1)
theorem XA {l:List (List Int)} {v i a:Nat} {row:List Int} (hv:l[v]?=some row) (hi:i<row.length) {s:List (List Int)} (he:yY l s) (ha:ak s v i=(a:Int)):yY (l.set v (row.set i (a:Int))) s:=fun u j hj h0=>by
 rw[eJ hv hi]at h0 ⊢
 split
 ·rename_i e
  obtain⟨rfl,rfl⟩:=e;exact ha
 ·rename_i e
  rw[if_neg e]at h0;exact he u j (hj.same (sO hv).symm) h0
theorem XB (pa pb va vb vc:Value) (p:aq) (n:ao) (w:World) (hp:el w pa pb p) (h:aR w va vb vc n) (iM:p.nodes.length<=1048576) (gM:p.agW.length<=1048576) (rq:n.ids.length<=17592186044416):
  Calls Tryz.prog 19 #[.agg #[.int .i64 p.labels,.int .i64 p.degree,pa,pb],.agg #[va,vb,vc]] w (UC p n w):=by
 have Ao:=zh rq
 obtain⟨w0,A,c,A2,c2,A3,c3,P0,iG,P1,it,rfl,rfl,rfl,fR,hm,gC,jz,HA,H,rfl,rfl,jj,jk,jl,jm,jn,jo,HP,cD,aY,fp,fE,fM,ku,nY,oW,oX⟩:=Ah hp h;clear hp h
 obtain⟨gO,iD⟩:=A_ (Ai HP.out) (ET H.out);have aK:ab w0 w0:=aa _;clear rq
 go_enter Tryz.func19,Tryz.ntmps19
 go_upto_region 1 with(fail);rw[<- cD.out];refine aM 13 (ab w0) (aa _) ?_;simp only[zT]
 refine ch rfl ?_;simp only[zA]
 apply dE _ rfl;(intro W hW;unfold a_;go_simp;with_reducible exact zQ (iq _ _ p W (gO.out W hW)));simp only[zA]
 iterate 2 (refine ch rfl ?_;simp only[zA])
 refine iT rfl rfl ?_;simp only[zA]
 apply bn rfl rfl;(intro hb;intro W hW;unfold a_;go_simp;with_reducible exact zQ (fZ _ _ _ n W (iD.out W hW) Ao.out));simp only[zA]
 refine iT rfl rfl ?_;simp only[zA]
 (first | refine db rfl rfl ?_ | (refine ch rfl ?_));simp only[zA]
 refine ch rfl ?_;simp only[zA]
 refine iT rfl rfl ?_;simp only[zA]
 apply bn rfl rfl;(intro hb;intro W hW;unfold a_;go_simp;with_reducible exact zQ (qh _ _ _ n W (iD.out W hW) (by have h9:=hb;revert h9;cases ar n <;> simp)));simp only[zA]
 refine iT rfl rfl ?_;simp only[zA]
 (first | refine db rfl rfl ?_ | (refine ch rfl ?_));simp only[zA]
 intro Wa hW;have py:=zh hW;clear hW aK
 cases hg:(!bV p || !ar n || !sX n)
 ·simp only[Zbn,Zbo]at hg;obtain⟨⟨cC,hn⟩,tZ⟩:=hg
  have Ev:jV p n=true:=by unfold jV;rw[cC,hn,tZ];rfl
  have JH:=zh Ev;obtain⟨-,-,hc⟩:=jD Ev
  obtain⟨lb,eK⟩:∃z:Nat,p.labels=(z:Int):=⟨p.labels.toNat,zX ((aE cC).1)⟩
  have pm:p.labels.toNat=lb:=zO
  have pY:1<=lb/\lb<=8:=zX ((aE cC).1)
  obtain⟨iX,iz⟩:=eX hn;have ly:=(bK hn).1;obtain⟨m,vU⟩:=J_ n.ends.length
  have TG:1<=m/\m<=40:=zO
  obtain⟨Hm,jB,Hn,Hc,ka,po,H6⟩:=F_ vU cC hn hc eK pm iz;have yp:n.ends.length<=1048576:=zO
  have adu:∀(v:Nat) (es:List (Int×Int)),n.ends[v]?=some es->es.length<=1000000:=fun v es he=>zX (iz v es he)
  have HcU:=zh (nZ _ _ _ n Wa (iD.out Wa py.out) yp adu);have y4:=nY Wa py;have y5:=oW Wa py;have y6:=oX Wa py;clear Ev cC hn hc eK pm iz iX yp tZ adu ly vU;go_wp2_with fail;refine HcU.mono ?_;rintro e W1 ⟨ul,Sl,rfl,xk,aP⟩
  obtain⟨gl,cl,rfl⟩:=jI xk (by rw[(aN n).1,<- Hm.out];omega)
  rw[(aN n).1,<- Hm.out]at xk ⊢;have dw:ab Wa W1:=aP;obtain⟨di,HSl,vZ⟩:=B_ (py.out.after dw) (aL.range xk) (aL.mono xk py.out.below.size)
  have hpm:∀(W:World) (l:List (List Int)) (v i:Nat),ab w0 W->bu W w0.heap.size (.slice (some ⟨gl,0,none⟩) m cl) l Sl->Gr p n l v i->W1.heap.size<=W.heap.size->Calls Tryz.prog 44 #[.agg #[.int .i64 p.labels,.int .i64 p.degree,.slice P0 p.nodes.length iG,.slice P1 p.agW.length it],.agg #[.slice A n.ends.length c,.slice A2 n.ids.length c2,.slice A3 n.agT.length c3],.slice (some ⟨gl,0,none⟩) m cl] W fun e w'=>∃(u:Value) (ok:Bool) (M:List (List Int)) (S:List Nat),e=.returned (.tuple #[u,.bool ok])/\bu w' W1.heap.size u (if ok=true then M else []) S/\Xi p n l M/\(ok=false->∃v i,ax M v i/\ak M v i=0)/\(ok=true->∀v i,ax M v i->ak M v i≠0)/\Below W.heap.size W w':=fun W l v i hW ho M8 hz=>by
   have eV:=(aE jB).1;refine(p8 _ _ _ _ _ _ p n l W (gO W hW) (iD W hW) ho.read jB Hn (B5 M8.shp (M8.inr eV.1)) (Jl jB) iM gM).mono ?_;rintro e w' ⟨u,ok,M,S,h1,h2,h3⟩;exact⟨u,ok,M,S,h1,aL.mono h2 hz,h3⟩
  have Hpm:=zh hpm;clear xk aP dw hpm y4 y5 y6;go_upto_region 5 with(fail)
  go_loopw [30] (fun t wr=>∃(v:Nat) (l:List (List Int)),v<=m/\t=.int .i64 v/\bu wr w0.heap.size (.slice (some ⟨gl,0,none⟩) m cl) l Sl/\Gr p n l v 0/\UH p n l/\ab w0 wr/\W1.heap.size<=wr.heap.size) (fun t _=>m-(intOf t).toNat)
  case atStart=>exact⟨0,aX n,Zac _,rfl,vZ,Gr.start p n,.inl rfl,di,Zaj _⟩
  case round=>
   clear vZ;obtain⟨v,l,hv,rfl,xk,M8,hGo,hs,hz⟩:=hrel;obtain⟨vZ,tA,HGo,Hs,Hz⟩:=D_ xk M8 hGo hs hz;clear xk M8 hGo hz
   by_cases aA:v<m
   ·have m1:=zw v;obtain⟨q,hq⟩:=J_ ((n.ends.getD v []).length)
    have Y4:v<n.ends.length:=by rw[<- Hm.out];exact aA
    have hq6:q<=6:=by
     obtain⟨es,aU⟩:=au n.ends v Y4;rw[hq,ag aU];exact H6 v es aU
    have TQ:Hid (∀M2,dv n M2->∃row,M2[v]?=some row/\row.length=q):=fun M2 h2=>by
     obtain⟨row,aG⟩:=au M2 v (by rw[h2.1];exact Y4)
     exact⟨row,aG,by rw[gz h2 aG,hq]⟩
    have Hq:=zh hq;obtain⟨row,aG,nd⟩:=TQ l tA.shp;obtain⟨AR,cR,pd,-,-,-⟩:=mo vZ aG;rw[nd]at pd;clear aG nd hq Y4 hs;go_upto_region 8 with(fail);clear pd
    go_loopw [38] (fun t wr=>∃(i:Nat) (l:List (List Int)),i<=q/\t=.int .i64 i/\bu wr w0.heap.size (.slice (some ⟨gl,0,none⟩) m cl) l Sl/\Gr p n l v i/\UH p n l/\ab w0 wr/\W1.heap.size<=wr.heap.size) (fun t _=>q-(intOf t).toNat)
    case atStart=>exact⟨0,l,Zac _,rfl,vZ,tA,HGo,Hs,Hz⟩
    case round=>
     clear vZ tA HGo Hs Hz;obtain⟨i,l,hi,rfl,xk,M8,hGo,hs,hz⟩:=hrel;obtain⟨vZ,tA,HGo,Hs,Hz⟩:=D_ xk M8 hGo hs hz;clear xk M8 hGo hz
     by_cases Xg:i<q
     ·have m2:=zw i;have Vt:=zh (Hpm.out wr l v i Hs.out vZ.out tA.out Hz.out);have y0:=fp wr hs;have y1:=fE wr hs;have y2:=fM wr hs;have y3:=ku wr hs;have y4:=nY wr hs;have y5:=oW wr hs;have y6:=oX wr hs;clear hs;go_wp2_with fail;refine Vt.mono ?_;rintro e W2 ⟨um,ok,M,Sm,rfl,M7,hR,Wr,JE,aS⟩;have fH:ab wr W2:=aS;obtain⟨eU,XC⟩:=A_ (Hs.out.after fH) (aL.agU vZ.out aS);have qU:Hid (W1.heap.size<=W2.heap.size):=Zak Hz aS.size;obtain⟨HR,OP,Qm,Pw⟩:=C_ hR Wr JE M7;clear y0 y1 y2 y3 y4 y5 y6 M7 hR Wr JE aS fH;cases ok
      ·have Hns:=zh (HGo.out.no tA.out.shp HR.out (OP.out rfl));have dH:Hid (Below w.heap.size w W2):=ab.after aY eU;go_wp2
       go_ret2
       exact⟨_,[],[],false,rfl,iW _ _,(fun h=>by cases h),(fun _=>⟨rfl,.inr Hns.out⟩),dH.out⟩
      ·have jh:=Qm rfl;have Hne:=zh jh;have PD:=Pw.out;rw[if_pos rfl]at PD;have UY:M.length=m:=by rw[HR.out.ms.shp.1,<- Hm.out]
       obtain⟨gm,cm,rfl⟩:=jI PD (by rw[UY];omega)
       rw[UY]at PD ⊢;obtain⟨kq,iP,Dk⟩:=TQ M HR.ms.shp;obtain⟨y,hy⟩:=au kq i zO;obtain⟨od,lS,Px⟩:=TQ l tA.shp;obtain⟨x0,nG⟩:=au od i zO
       have Py:ax l v i:=by unfold ax;rw[ag lS];exact ah nG
       have FF:ax M v i:=by unfold ax;rw[ag iP];exact ah hy
       have M6:ak M v i=y:=by unfold ak;rw[ag iP,ag hy]
       have qv:=HR.ms.rng v kq i y iP hy
       obtain⟨cb,cb1,cb2⟩:=rS qv (by rw[<- M6];exact jh v i FF)
       obtain⟨oA,cr1,b1,b2,b3,b4,b5,bup⟩:=eY XC lS nG;rw[Px]at b1;have tC:=(HSl oA b4).2;have hg0:=(aL.range XC oA b4).1;have abd:gl≠oA:=fun e=>b5 e.symm
       obtain⟨W3,pN⟩:=J_ (W2.setCell ⟨oA,i,none⟩ (.int .i64 ((0:Nat):Int)))
       have U2:=bup ((0:Nat):Int)
       have Pz:bu W3 W1.heap.size (.slice (some ⟨gm,0,none⟩) m cm) M Sm:=by
        rw[pN]
        exact aL.agV PD (fun z hz=>Zan _ _ _ z (by
         have h6:=(aL.range PD z hz).1;show z≠oA
         omega))
       have oi:ab w0 W3:=by rw[pN];exact eU.out.setCell (p:=⟨oA,i,none⟩) hg0 _
       have qt:W1.heap.size<=W3.heap.size:=by rw[pN];simpa using qU.out
       have abe:W3.cell? ⟨gl,v,none⟩=some (.slice (some ⟨oA,0,none⟩) q cr1):=by
        rw[pN,Zam (a:=⟨gl,v,none⟩) (Zan _ _ _ gl (by exact abd))];exact b1
       rw[<- pN]at U2;obtain⟨gr9,cr9,e1,e2,-,-,-,-⟩:=eY U2 (v:=v) (i:=i) (row:=od.set i ((0:Nat):Int)) (x:=((0:Nat):Int)) (by rw[Zav (ah lS)]) (by rw[Zav (ah nG)]);rw[abe]at e1
       injection e1 with e1
       injection e1 with e1 e8 e9
       clear e8 e9
       injection e1 with e1
       injection e1 with e1
       subst e1;obtain⟨HL3,UB,lM,yT,GI,adv,He2,rV,Xu,Hy⟩:=I_ U2 Pz oi qt pN abe e2 iP Dk hy;obtain⟨qB,ads,Nu,UA,Hyc,IP,Hcb,j5,afv⟩:=H_ lS Px nG Py M6 qv cb2 b4 abd;clear jh PD UY iP Dk hy lS Px nG Py FF M6 qv cb2 U2 Pz oi qt pN abe e2 bup b4 b5 hg0 abd;go_upto_region 14 with(fail);have adw:W2.setCell ⟨oA,i,none⟩ (.int .i64 0)=W3:=GI.out.symm;rw[adw];clear b1 b2 b3 adw
       go_loopw [] (fun wr=>∃x:Nat,x<=cb/\bu wr w0.heap.size (.slice (some ⟨gl,0,none⟩) m cl) (l.set v (od.set i (x:Int))) Sl/\bu wr W1.heap.size (.slice (some ⟨gm,0,none⟩) m cm) M Sm/\(∀c,c<x->aO y c=false)/\ab w0 wr/\W1.heap.size<=wr.heap.size/\wr.cell? ⟨gl,v,none⟩=some (.slice (some ⟨oA,0,none⟩) q cr1)/\wr.cell? ⟨oA,i,none⟩=some (.int .i64 (x:Int))) (fun wr=>8-vH wr ⟨oA,i,none⟩)
       case atStart=>exact⟨0,Zac _,HL3,UB,fun c hc=>zO,lM,yT,adv,He2⟩
       case round=>
        clear HL3 UB lM yT adv He2;obtain⟨x,hx,hlx,abf,i_,hsx,hzx,abg,ti⟩:=hrel;obtain⟨Hlx,adx,qo,Hsx,Hzx,afw,TH⟩:=F_ hlx abf i_ hsx hzx abg ti;obtain⟨Vn,WX,c1,yG,-,c4,-,-⟩:=eY abf rV Hy;rw[Xu.out]at c1;obtain⟨z,hz,dP,e_,Xh⟩:=rK IP.out (show x<8 by omega)
        obtain⟨yN,iS⟩:=A_ dP e_;have d1:=ae c1;have d2:=ae yG;have d3:=ae abg;have d4:=ae ti
        have m4:IntKind.i64.wrap ((x:Int)+1)=((x+1:Nat):Int):=by rw[bU _ zO zO];omega
        have Hme:Hid (vH wr ⟨oA,i,none⟩=x):=Jm ti;obtain⟨wi,rfl⟩:=J_ wr
        clear hlx abf i_ hsx hzx abg ti c1 yG c4 dP e_;cases oc:aO y x
        ·have abc:(z=0)=True:=by rw[iS.out oc];simp
         have Qj:(z==0)=true:=by rw[iS.out oc];rfl
         have hxc:x≠cb:=fun e=>by rw[e,Hcb.out]at oc;cases oc
         have Ox:Hid (∀c,c<x+1->aO y c=false):=fun c hc=>by
          rcases Zbi c x with h1 | h1
          ·exact qo c h1
          ·rw[show c=x by omega];exact oc
         have afx:Hid (∀(W:World),ab wi W->W.cell? ⟨gl,v,none⟩=some (.slice (some ⟨oA,0,none⟩) q cr1)/\W.cell? ⟨oA,i,none⟩=some (.int .i64 (x:Int))/\W.frozen? ⟨oA,i,none⟩=false/\bu (W.setCell ⟨oA,i,none⟩ (.int .i64 ((x+1:Nat):Int))) w0.heap.size (.slice (some ⟨gl,0,none⟩) m cl) (l.set v (od.set i ((x+1:Nat):Int))) Sl/\bu (W.setCell ⟨oA,i,none⟩ (.int .i64 ((x+1:Nat):Int))) W1.heap.size (.slice (some ⟨gm,0,none⟩) m cm) M Sm/\ab w0 (W.setCell ⟨oA,i,none⟩ (.int .i64 ((x+1:Nat):Int)))/\W1.heap.size<=(W.setCell ⟨oA,i,none⟩ (.int .i64 ((x+1:Nat):Int))).heap.size/\(W.setCell ⟨oA,i,none⟩ (.int .i64 ((x+1:Nat):Int))).cell? ⟨gl,v,none⟩=some (.slice (some ⟨oA,0,none⟩) q cr1)/\(W.setCell ⟨oA,i,none⟩ (.int .i64 ((x+1:Nat):Int))).cell? ⟨oA,i,none⟩=some (.int .i64 ((x+1:Nat):Int))):=fun W hW=>by
          have k1:=bc hW.below afw;have k2:=bc hW.below TH;have Ge:v<l.length:=ah qB;have hiv:i<od.length:=ah Nu;have hoW:=aL.agU Hlx hW.below;obtain⟨gr9,cr9,e1,e2,e3,e4,e5,eup⟩:=eY hoW (v:=v) (i:=i) (row:=od.set i (x:Int)) (x:=(x:Int)) (by rw[Zav Ge]) (by rw[Zav hiv]);rw[k1]at e1
          injection e1 with e1
          injection e1 with e1 e8 e9
          injection e1 with e1
          injection e1 with e1
          subst e1;have f1:=eup ((x+1:Nat):Int);rw[List.set_set,List.set_set]at f1
          have f2:bu (W.setCell ⟨oA,i,none⟩ (.int .i64 ((x+1:Nat):Int))) W1.heap.size (.slice (some ⟨gm,0,none⟩) m cm) M Sm:=
           aL.agV (aL.agU adx.out hW.below) (fun z hz=>Zan _ _ _ z (by
            have h6:=(aL.range adx z hz).1;show z≠oA
            omega))
          have f3:ab w0 (W.setCell ⟨oA,i,none⟩ (.int .i64 ((x+1:Nat):Int))):=(Hsx.out.after hW).setCell (p:=⟨oA,i,none⟩) (aL.range hoW oA e4).1 _
          have f4:W1.heap.size<=(W.setCell ⟨oA,i,none⟩ (.int .i64 ((x+1:Nat):Int))).heap.size:=by
           have:=Zak Hzx hW.below.size
           simpa using this
          have f5:(W.setCell ⟨oA,i,none⟩ (.int .i64 ((x+1:Nat):Int))).cell? ⟨gl,v,none⟩=some (.slice (some ⟨oA,0,none⟩) q cr1):=by
           rw[Zam (a:=⟨gl,v,none⟩) (Zan _ _ _ gl (by exact afv.out))];exact k1
          obtain⟨gr8,cr8,g1,g2,-,-,-,-⟩:=eY f1 (v:=v) (i:=i) (row:=od.set i ((x+1:Nat):Int)) (x:=((x+1:Nat):Int)) (by rw[Zav Ge]) (by rw[Zav hiv]);rw[f5]at g1
          injection g1 with g1
          injection g1 with g1 g8 g9
          injection g1 with g1
          injection g1 with g1
          subst g1;exact⟨k1,k2,e3,f1,f2,f3,f4,f5,g2⟩
         go_upto_region 14 with(fail);refine ap 17 (ab wi) zK zK zS (aj (aa _)) ?_;simp only[zT]
         iterate 17 (refine ch rfl ?_;simp only[zA])
         intro W hW;obtain⟨k1,k2,k3,f1,f2,f3,f4,f5,f6⟩:=afx W hW;obtain⟨F1,F2,F3,F4,F5,F6⟩:=E_ f1 f2 f3 f4 f5 f6
         have afy:Hid (8-vH (W.setCell ⟨oA,i,none⟩ (.int .i64 ((x+1:Nat):Int))) ⟨oA,i,none⟩<8-vH wi ⟨oA,i,none⟩):=by
          show _<_
          rw[Hme.out,Jm f6];omega
         clear f1 f2 f3 f4 f5 f6 hW d1 d2 d3 d4 hz;go_wp2;go_roundw
         exact⟨x+1,zO,F1,F2,Ox,F3,F4,F5,F6⟩
         case measure=>exact afy
        ·have abc:(z=0)=False:=by rw[yN.out oc];simp
         have Qj:(z==0)=false:=by rw[yN.out oc];rfl
         have SS:=HR.sub v i x zO (UA.same (tA.shp.two HR.ms.shp)) (by rw[Hyc.out];exact oc)
         have LO:∀t,lR p n t->yY l t->(x:Int)<=ak t v i:=fun t ht he=>aaZ HR UA tA.shp (fun c hc=>by rw[Hyc.out];exact qo c hc) ht he
         have OY:0<=(x:Int)/\(x:Int)<=p.labels-1:=by have h8:=SS.1;rw[po.out]at h8;have h9:=ka.out;omega
         have Xw:Hid (Gr p n (l.set v (od.set i (x:Int))) v (i+1)):=tA.step qB (ah Nu) OY LO
         have afz:Hid (UH p n (l.set v (od.set i (x:Int)))):=by
          obtain⟨s,s1,s2,s3⟩:=LP jB.out Hn.out Hc.out HR.out tA.out.shp Hne.out UA.out (show x<8 by omega) (by rw[Hyc.out];exact oc)
          exact .inr ⟨s,s1,XA qB (ah Nu) s2 s3⟩
         clear SS LO OY;go_upto_region 14 with(fail);refine ap 17 (ab wi) zK zK zS (aj (aa _)) ?_;simp only[zT]
         iterate 17 (refine ch rfl ?_;simp only[zA])
         intro W hW;obtain⟨F1,F3⟩:=A_ (aL.agU Hlx.out hW.below) (Hsx.out.after hW);have F4:Hid (W1.heap.size<=W.heap.size):=Zak Hzx hW.below.size;clear hW d1 d2 d3 d4 hz;go_wp2;go_roundw
         exact⟨i+1,_,zO,zN,F1,Xw,afz,F3,F4⟩
         simp[intOf];omega
     ·obtain rfl:i=q:=zO
      clear hs;go_wp2;go_roundw
      exact⟨v+1,l,zO,zN,vZ,tA.row (by unfold ax;rw[tA.out.shp.2 v,<- Hq.out];omega),HGo.out,Hs.out,Hz.out⟩
      simp[intOf];omega
   ·obtain rfl:v=m:=zO
    have Vt:=zh (Hpm.out wr l v 0 Hs.out vZ.out tA.out Hz.out);have y0:=fp wr hs;have y1:=fE wr hs;have y2:=fM wr hs;have y3:=ku wr hs;have y4:=nY wr hs;have y5:=oW wr hs;have y6:=oX wr hs;clear hs;go_wp2_with fail;refine Vt.mono ?_;rintro e W2 ⟨um,ok,M,Sm,rfl,M7,hR,Wr,JE,aS⟩;obtain⟨tc,XC,HR,OP,Qm⟩:=D_ (ab.after aY.out (Hs.out.after (show ab wr W2 from aS))) (aL.mono (aL.agU vZ.out aS) aY.out.size) hR Wr JE;clear y0 y1 y2 y3 y4 y5 y6 M7 hR Wr JE aS;cases ok
    ·have Hns:=zh (HGo.out.no tA.out.shp HR.out (OP.out rfl));go_wp2
     go_ret2
     exact⟨_,[],[],false,rfl,iW _ _,(fun h=>by cases h),(fun _=>⟨rfl,.inr Hns.out⟩),tc.out⟩
    ·obtain⟨s,s1,s2⟩:=aaY jB Hn Hc HR tA.shp (Qm rfl)
     have Hfs:Hid (p_ p n l):=tA.fin (by rw[<- Hm.out];exact Zaj _) s1 s2
     clear s1 s2;go_wp2
     go_ret2
     exact⟨_,Sl,l,true,rfl,XC.out,(fun _=>⟨JH.out,Hfs.out⟩),(fun h=>by cases h),tc.out⟩
 ·have H1:Hid (jV p n=false):=by
   show _=_
   unfold jV
   revert hg
   cases bV p <;> cases ar n <;> cases sX n <;> simp
  have dH:Hid (Below w.heap.size w Wa):=ab.after aY py;go_wp2
  go_ret2
  exact⟨_,[],[],false,rfl,iW _ _,(fun h=>by cases h),(fun _=>⟨rfl,.inl H1.out⟩),dH.out⟩
def m_ (L d:Nat) (i:Int) (ws:Nat->Nat->Nat):List Int:=if i<0 then ((aF (jx (jH i 0 ws) L d 0):Nat):Int)::List.replicate (L-1) 0 else List.replicate L ((aF (jx (jH i 0 ws) L d 0):Nat):Int)
theorem XD (L:Nat) (x:Int) (h:1<=L):(List.replicate L (0:Int)).set 0 x=x::List.replicate (L-1) 0:=by
 obtain⟨k,rfl⟩:∃k,L=k+1:=⟨L-1,zO⟩
 rw[List.replicate_succ];rfl
theorem Jn (pa pb va vb vc um:Value) (p:aq) (Wl:List (List Int)) (ws:Nat->Nat->Nat) (i:Int) (L:Nat) (w:World) (hu:bS w um Wl) (hL:p.labels=(L:Int)) (Vp:1<=L/\L<=8) (hW8:Wl.length<=100) (hi : -1<=i/\i<=100) (Pn:Pm Wl ws i L):
  Calls Tryz.prog 157 #[.agg #[.int .i64 p.labels,.int .i64 p.degree,pa,pb,va,vb,vc],um,.int .i64 i] w fun e w'=>∃u,e=.returned u/\Own w' w.heap.size u (m_ L Wl.length i ws)/\Below w.heap.size w w':=by
 have HU:=zh hu;obtain⟨AM,cM,rfl,-,hcM,-⟩:=hu;unfold maxLen at hcM;have Cx:=zh Pn;obtain⟨w0,bj⟩:=J_ (w.alloc (.cells #[.int .i64 p.labels,.int .i64 p.degree,pa,pb,va,vb,vc] 92))
 have ks:ab w w0:=by rw[bj];exact ad _ (aa _)
 have r0:∀W,ab w0 W->W.cell? ⟨w.heap.size,0,none⟩=some (.int .i64 (L:Int)):=ae (by rw[bj,<- hL];simp)
 obtain⟨aY,cD,Cn⟩:=B_ ks bj (GQ (HU.out.agU ks.below));have aK:ab w0 w0:=aa _;clear Pn hL ks bj
 go_enter Tryz.func157,Tryz.ntmps157
 go_upto_region 1 with(fail);rw[<- cD.out];go_upto_region 3 with(fail)
 go_loopw [7,16] (fun t q wr=>∃k:Nat,k<=Wl.length/\q=.int .i64 k/\t=.int .i64 (aF (jx (jH i 0 ws) L k 0):Nat)/\ab w0 wr) (fun _ q _=>Wl.length-(intOf q).toNat)
 case atStart=>exact⟨0,Zac _,rfl,rfl,aK⟩
 case round=>
  obtain⟨k,hk,rfl,rfl,hs⟩:=hrel;have Hs:=zh hs;clear aK;obtain⟨pe,qC⟩:=K_ (jx (jH i 0 ws) L k 0)
  rw[qC]
  by_cases aA:k<Wl.length
  ·have m3:=zw k;have eF:=uh (jH i 0 ws) L k 0;rw[qC,Zba]at eF;have lL:=zh eF;obtain⟨y,hy⟩:=au Wl k aA;obtain⟨AL,cl,eL,-,-,sL⟩:=Cn wr hs;cases eL;obtain⟨bL,oL,uL,rfl,Df,s9⟩:=sL k y hy;obtain⟨AR,cR,rfl,-,hRm,-⟩:=id s9;unfold maxLen at hRm;obtain⟨MT,Hy⟩:=A_ (zpI s9) hy;obtain⟨wo,rfl⟩:=J_ wr
   by_cases nR:(k:Int)=i
   ·have lW:((k:Int)==i)=true:=by simp[nR]
    have xi:Hid (bt L (jH i 0 ws k)=1):=MW (a':=0) nR rfl zO;clear sL s9 hy eF qC nR;go_wp2;go_roundw
    exact⟨k+1,zO,zN,by rw[lL.out,xi.out,Nat.mul_one],Hs⟩
    simp[intOf];omega
   ·have lW:((k:Int)==i)=false:=by simp[nR]
    obtain⟨y',g1,g2,g3⟩:=Cx k aA nR;rw[Hy.out]at g1;obtain rfl:=Zbx g1
    obtain⟨Lh,Hyx⟩:=A_ g2 g3
    have xi:Hid (bt L (jH i 0 ws k)=bt L (ws k)):=by show _=_;rw[I5 nR]
    rw[g2]at Df;clear sL s9 hy eF qC g1 g2 g3 nR;go_upto_region 8 with(fail)
    go_loopw [10,26] (fun t q wr=>∃x:Nat,x<=L/\q=.int .i64 x/\t=.int .i64 (aF (bt x (ws k)):Nat)/\wr=wo) (fun _ q _=>L-(intOf q).toNat)
    case atStart=>exact⟨0,Zac _,rfl,rfl,rfl⟩
    case round=>
     obtain⟨x,hx,rfl,rfl,Ua⟩:=hrel;have LU:=Ua.symm;clear Ua;subst LU
     by_cases hlx:x<L
     ·obtain⟨b4,o4,e4,JS⟩:=kU (MT wo (aa _)) (Hyx x hlx);cases e4;have m5:=zw x;obtain⟨sv,hsv⟩:=K_ (aF (ws k x))
      have kj:=ze (ws k) x;rw[hsv]at JS kj;obtain⟨se,O_⟩:=K_ (aF (bt x (ws k)))
      rw[O_]at kj ⊢
      have Xo:se<=1000000000001:=by rw[<- O_];exact eH _
      have Xp:sv<=1000000000001:=by rw[<- hsv];exact eH _
      obtain⟨t,ht⟩:=K_ ((se:Int)+(sv:Int):Int)
      obtain⟨r,hr⟩:=K_ (aF (se+sv))
      have lD:IntKind.i64.wrap ((se:Int)+(sv:Int))=t:=by rw[bU _ zO zO,ht]
      have XU:min t 1000000000001=(r:Int):=by rw[<- hr,<- ht];unfold aF;omega
      rw[hr]at kj;have ym:=zh kj;clear O_ hsv kj Xo Xp ht hr;go_wp2;go_roundw
      exact⟨x+1,zO,zN,by rw[<- ym.out],trivial⟩
      simp[intOf];omega
     ·obtain rfl:x=L:=zO
      have Dj:=zh (fun W=>xc (aF pe) (aF (bt x (ws k))) W (eH _) (eH _))
      go_wp2_with fail;refine(Dj wo).mono ?_;rintro e w2 ⟨rfl,rfl⟩;go_wp2;go_roundw
      exact⟨k+1,zO,zN,by rw[lL.out,xi.out,sM],Hs⟩
      simp[intOf];omega
  ·obtain rfl:k=Wl.length:=zO
   obtain⟨sp,LZ⟩:=K_ (aF pe)
   rw[LZ]
   have HE:Hid (((aF (jx (jH i 0 ws) L Wl.length 0):Nat):Int)=(sp:Int)):=by show _=_;rw[qC,LZ]
   have l0:=r0 wr hs;have hL1:0<L:=zO
   obtain⟨wo,rfl⟩:=J_ wr
   clear qC hs LZ
   go_upto_region 15 with(at_make;refine lT _ rfl _ _ rfl _ _ L rfl rfl rfl rfl zO ?_;intro W2 dD aS dY)
   obtain⟨bo,kv⟩:=J_ wo.heap.size
   rw[<- kv]at dD ⊢;have fH:ab wo W2:=aS;have dU:=dD.cell (k:=0) (x:=0) (by rw[Zch,if_pos hL1]);have hfz:=gX dD 0;have n_:=zh (Own.set (k:=0) (sp:Int) dD);obtain⟨W3,pN⟩:=J_ (W2.setCell ⟨bo,0,none⟩ (.int .i64 (sp:Int)))
   have oi:ab w0 W3:=by rw[pN];exact(Hs.out.after fH).setCell (p:=⟨bo,0,none⟩) (by show w0.heap.size<=bo;rw[kv];exact Hs.below.size) _
   rw[<- pN]at n_;obtain⟨GI,lM⟩:=A_ pN oi
   have Hbz:Hid (w.heap.size<=bo):=by show _<=_;rw[kv];exact(aY.after Hs).below.size
   clear pN oi fH aS dY dD kv l0
   by_cases PO:i<0
   ·have hig:(i>=0)=False:=eq_false zO;have afA:(0<=i)=False:=eq_false zO
    have HR:Hid (m_ L Wl.length i ws=(List.replicate L 0).set 0 (sp:Int)):=by
     show _=_
     unfold m_;rw[if_pos PO,HE.out,XD L _ Vp.1]
    go_upto_region 16 with(fail);rw[<- GI.out];have dH:Hid (Below w.heap.size w W3):=(aY.after lM);clear PO dU hfz;go_wp2;go_ret
    exact⟨_,rfl,by rw[HR.out];exact Own.mono n_ Hbz,dH⟩
   ·have hig:(i>=0)=True:=eq_true zO;have afA:(0<=i)=True:=eq_true zO
    have HR:Hid (m_ L Wl.length i ws=List.replicate L (sp:Int)):=by
     show _=_
     unfold m_;rw[if_neg PO,HE.out]
    go_upto_region 16 with(fail);rw[<- GI.out];clear PO dU hfz;obtain⟨W4,qS⟩:=J_ (W3.alloc (.cells #[.int .i64 (sp:Int)] 3))
    have oh:ab w0 W4:=by rw[qS];exact ad _ lM
    have JS:W4.cell? ⟨W3.heap.size,0,none⟩=some (.int .i64 (sp:Int)):=by rw[qS];simp
    have l4:=r0 (W3.alloc (.cells #[.int .i64 (sp:Int)] 3)) (ad _ lM);obtain⟨HcR,Kj,kD⟩:=B_ (IF W3.heap.size 1 (sp:Int) L W4 zO JS) qS oh;clear qS oh JS;go_wp2_with fail;rw[<- Kj.out];refine HcR.mono ?_;rintro e W5 ⟨u5,rfl,qy,k8⟩;have dH:Hid (Below w.heap.size w W5):=(aY.after (kD.after (show ab W4 W5 from k8)));have vR:=zh (Own.mono qy (aY.out.after kD.out).below.size);clear qy k8 l4;go_wp2;go_ret
    exact⟨_,rfl,by rw[HR.out];exact vR,dH⟩
def FG (i:Int) (xs:List Int):Nat:=if i<0 then 0 else (xs.getD i.toNat 0).toNat
def Vw (ws:Nat->Nat->Nat) (i:Int) (k x:Nat):Nat:=if (k:Int)=i then 1 else ws k x
def vO (p:aq) (i:Int) (xs:List Int) (P a:Nat):Nat:=if FG i xs=a then P*vJ p xs else 0
def kg (p:aq) (ws:Nat->Nat->Nat) (i:Int) (L:Nat):Nat->List Int->Nat->Nat->Nat
 | 0,xs,P,a=>vO p i xs P a
 | r+1,xs,P,a=>bt L fun x=>kg p ws i L r (xs++[(x:Int)]) (P*Vw ws i xs.length x) a
theorem Ca (p:aq) (ws:Nat->Nat->Nat) (i:Int) (L:Nat):∀(r:Nat) (xs:List Int) (a:Nat),kg p ws i L r xs 0 a=0
 | 0,xs,a=>by unfold kg vO;simp
 | r+1,xs,a=>by
  unfold kg
  exact mW fun x _=>by rw[Nat.zero_mul];exact Ca p ws i L r _ a
def Nc (i:Int) (xs:List Int) (a:Nat):Prop:=if i<0 then a=0 else (i.toNat<xs.length->(xs.getD i.toNat 0).toNat=a)
theorem Jo {i:Int} {xs:List Int} {a:Nat} {x:Int} (h:(xs.length:Int)≠i):Nc i (xs++[x]) a↔Nc i xs a:=by
 unfold Nc
 split
 ·exact Iff.rfl
 ·rename_i h0
  by_cases hl:i.toNat<xs.length
  ·have h3:(xs++[x]).getD i.toNat 0=xs.getD i.toNat 0:=by
    rw[zDd,Zcb hl,<- zDd]
   rw[h3,Zay];exact⟨fun h1 _=>h1 zO,fun h1 _=>h1 hl⟩
  ·have h2:¬i.toNat<(xs++[x]).length:=by rw[Zay];show ¬_<xs.length+1;omega
   exact⟨fun _ h3=>absurd h3 hl,fun _ h3=>absurd h3 h2⟩
theorem UI {i:Int} {xs:List Int} {a x:Nat} (h:(xs.length:Int)=i):Nc i (xs++[(x:Int)]) a↔x=a:=by
 unfold Nc;rw[if_neg zO];have h2:i.toNat=xs.length:=zO
 have h3:(xs++[(x:Int)]).getD xs.length 0=(x:Int):=by
  rw[zDd,Zca (Zaj _),Nat.sub_self];rfl
 rw[h2,Zay,h3,Zag]
 exact⟨fun h4=>h4 (by show _<xs.length+1;omega),fun h4 _=>h4⟩
theorem sS (p:aq) (ws:Nat->Nat->Nat) (i:Int) (L a:Nat):∀(r:Nat) (xs:List Int) (P:Nat),i<xs.length+r->(Nc i xs a->kg p ws i L r xs P a=P*je (jH i a ws) L r xs.length fun ys=>vJ p (xs++ys))/\(¬Nc i xs a->kg p ws i L r xs P a=0)
 | 0,xs,P,hi=>by
  have lw:Nc i xs a↔FG i xs=a:=by
   unfold Nc FG
   split
   ·exact eq_comm
   ·exact⟨fun h=>h zO,fun h _=>h⟩
  unfold kg vO
  rw[lw];refine⟨fun h=>?_,fun h=>by rw[if_neg h]⟩
  rw[if_pos h,je,List.append_nil]
 | r+1,xs,P,hi=>by
  have ih:=fun (x:Nat)=>sS p ws i L a r (xs++[(x:Int)]) (P*Vw ws i xs.length x) (by rw[Zay];show i<((xs.length+1:Nat):Int)+_;omega)
  have hF:∀x:Nat,(je (jH i a ws) L r (xs.length+1) fun ys=>vJ p (xs++(x:Int)::ys))=je (jH i a ws) L r (xs++[(x:Int)]).length fun ys=>vJ p ((xs++[(x:Int)])++ys):=fun x=>by
   rw[Zay];show _=je (jH i a ws) L r (xs.length+1) _
   congr 1
   funext ys
   rw[List.append_assoc];rfl
  unfold kg
  by_cases he:(xs.length:Int)=i
  ·have eZ:Nc i xs a:=by unfold Nc;rw[if_neg zO];intro h;omega
   refine⟨fun _=>?_,fun h=>absurd eZ h⟩
   unfold je;rw[<- Ei];refine fh fun x _=>?_
   have hS:jH i (a:Int) ws xs.length x=if x=a then 1 else 0:=by
    unfold jH;rw[if_pos he]
    by_cases e:x=a
    ·rw[if_pos e,if_pos zO]
    ·rw[if_neg e,if_neg zO]
   have hX:Vw ws i xs.length x=1:=if_pos he
   by_cases e:x=a
   ·rw[(ih x).1 ((UI he).2 e),hS,if_pos e,hX,Nat.mul_one,Nat.one_mul,<- hF x]
   ·rw[(ih x).2 fun h=>e ((UI he).1 h),hS,if_neg e,Nat.zero_mul,Nat.mul_zero]
  ·have hX:∀x,Vw ws i xs.length x=ws xs.length x:=fun x=>if_neg he
   have hS:∀x,jH i (a:Int) ws xs.length x=ws xs.length x:=fun x=>if_neg he
   refine⟨fun h=>?_,fun h=>?_⟩
   ·unfold je;rw[<- Ei];refine fh fun x _=>?_
    rw[(ih x).1 ((Jo he).2 h),hS,hX,<- hF x,Nat.mul_assoc]
   ·exact mW fun x _=>(ih x).2 fun h2=>h ((Jo he).1 h2)
theorem PE (p:aq) (ws:Nat->Nat->Nat) (L d:Nat):kg p ws (-1) L d [] 1 0=mY p L d ws:=by
 rw[(sS p ws (-1) L 0 d [] 1 zO).1 (by unfold Nc;rw[if_pos zO]),Nat.one_mul]
 rw[show((0:Nat):Int)=0 from rfl,Fz];rfl
theorem PF (p:aq) (ws:Nat->Nat->Nat) (L d i a:Nat) (hi:i<d):kg p ws (i:Int) L d [] 1 a=mY p L d (jH (i:Int) (a:Int) ws):=by
 rw[(sS p ws (i:Int) L a d [] 1 (by simp;omega)).1 (by unfold Nc;rw[if_neg zO];intro h;simp at h),Nat.one_mul]
 rfl
theorem PG {p:aq} {xs:List Int} (h:(xs.length:Int)=p.degree):vJ p xs=if p.nodes.contains (dz xs)=true then 1 else 0:=by
 unfold vJ l_
 rw[beq_iff_eq.2 h];rfl
def Cb (p:aq) (L d:Nat) (i:Int) (ws:Nat->Nat->Nat):List Int:=if i<0 then ((aF (mY p L d ws):Nat):Int)::List.replicate (L-1) 0 else iO L fun a=>mY p L d (jH i a ws)
theorem Ey {ws:Nat->Nat->Nat} {L:Nat} {i:Int} {a b:Nat} (ha:a<L) (hb:b<L):∀r k,jx (jH i (a:Int) ws) L r k=jx (jH i (b:Int) ws) L r k
 | 0,_=>rfl
 | r+1,k=>by
  unfold jx;rw[Ey ha hb r (k+1)];congr 1
  by_cases e:(k:Int)=i
  ·rw[MW e rfl ha,MW e rfl hb]
  ·rw[I5 e,I5 e]
theorem Cc (L:Nat) (f:Nat->Nat) (c:Nat) (h:∀a,a<L->f a=c):iO L f=List.replicate L ((aF c:Nat):Int):=by
 rw[qd (g:=fun _=>c) h]
 unfold iO;refine Zck fun x=>?_
 rw[Zbr,Zch]
 by_cases e:x<L
 ·rw[Zcj e,if_pos e];rfl
 ·rw[Zce (by simpa using e),if_neg e];rfl
theorem UJ {L a:Nat} {o:Nat->Nat} (c:Nat):(iO L o).set a ((aF (o a+c):Nat):Int)=iO L fun x=>o x+if a=x then c else 0:=by
 refine Zck fun x=>?_
 rw[Zci]
 by_cases h:x<L
 ·rw[lq h,lq h,jy]
  by_cases e:a=x
  ·subst e;rw[if_pos rfl,if_pos h,if_pos rfl]
  ·rw[if_neg e,if_neg e,Nat.add_zero]
 ·rw[Zce (l:=iO L o) (by rw[jy];omega),Zce (l:=iO L _) (by rw[jy];omega),jy]
  split
  ·rename_i e;subst e;rw[if_neg h]
  ·rfl
structure FcC (wL:World) (bW bF bl bp bo bf gl go d lb cM:Nat) (AM:Option Addr) (p:aq) (pa pb:Value) (Wl:List (List Int)) (ws:Nat->Nat->Nat) (i:Int):Prop where
 qW:∀W,ab wL W->W.cell? ⟨bW,0,none⟩=some (.slice AM d cM)
 qp:∀W,ab wL W->W.cell? ⟨bp,0,none⟩=some (.int .i64 i)
 m0:∀W,ab wL W->W.cell? ⟨bF,0,none⟩=some (.int .i64 lb)
 m1:∀W,ab wL W->W.cell? ⟨bF,1,none⟩=some (.int .i64 d)
 m2:∀W,ab wL W->W.cell? ⟨bF,2,none⟩=some pa
 m3:∀W,ab wL W->W.cell? ⟨bF,3,none⟩=some pb
 iw:∀W,ab wL W->bS W (.slice AM d cM) Wl
 pr:∀W,ab wL W->el W pa pb p
 st:eR p.nodes
 nl:p.nodes.length<=1048576
 lab:p.labels=(lb:Int)
 deg:p.degree=(d:Int)
 lb8:1<=lb/\lb<=8
 d4:1<=d/\d<=4
 ir : -1<=i/\i<d
 wk:Pm Wl ws i lb
 dl:Wl.length=d
 nn:bl≠gl/\bl≠go/\bo≠gl/\bo≠go/\bf≠gl/\bf≠go/\gl≠go
 gg:wL.heap.size<=gl/\wL.heap.size<=go
structure CA (wL:World) (bW bF bl bp bo bf gl go d lb cl co:Nat) (xs Lx:List Int) (o:Nat->Nat) (w:World):Prop where
 sn:ab wL w
 kl:w.cell? ⟨bl,0,none⟩=some (.slice (some ⟨gl,0,none⟩) d cl)
 ko:w.cell? ⟨bo,0,none⟩=some (.slice (some ⟨go,0,none⟩) lb co)
 kf:w.cell? ⟨bf,0,none⟩=some (.func (.func 156) #[] #[.pointer (some ⟨bW,0,none⟩),.pointer (some ⟨bF,0,none⟩),.pointer (some ⟨bl,0,none⟩),.pointer (some ⟨bp,0,none⟩),.pointer (some ⟨bo,0,none⟩),.pointer (some ⟨bf,0,none⟩)])
 ol:Own w wL.heap.size (.slice (some ⟨gl,0,none⟩) d cl) Lx
 oo:Own w wL.heap.size (.slice (some ⟨go,0,none⟩) lb co) (iO lb o)
 ln:Lx.length=d
 tk:Lx.take xs.length=xs
section
variable {wL w w' : World} {bW bF bl bp bo bf gl go d lb cl co : Nat} {xs Lx : List Int} {o o' : Nat → Nat}
theorem CA.agU (h:CA wL bW bF bl bp bo bf gl go d lb cl co xs Lx o w) (hs:ab w w'):CA wL bW bF bl bp bo bf gl go d lb cl co xs Lx o w':=
 ⟨h.sn.after hs,(ae h.kl) w' hs,(ae h.ko) w' hs,(ae h.kf) w' hs,h.ol.since hs,h.oo.since hs,h.ln,h.tk⟩
theorem CA.cg (h:CA wL bW bF bl bp bo bf gl go d lb cl co xs Lx o w) (ho:∀x,x<lb->o x=o' x):CA wL bW bF bl bp bo bf gl go d lb cl co xs Lx o' w:=
 ⟨h.sn,h.kl,h.ko,h.kf,h.ol,by rw[<- qd ho];exact h.oo,h.ln,h.tk⟩
theorem CA.back {y:Int} (h:CA wL bW bF bl bp bo bf gl go d lb cl co (xs++[y]) Lx o w):CA wL bW bF bl bp bo bf gl go d lb cl co xs Lx o w:=
 ⟨h.sn,h.kl,h.ko,h.kf,h.ol,h.oo,h.ln,by
  have h1:=congrArg (List.take xs.length) h.tk;rw[List.take_take,Nat.min_eq_left zS]at h1
  rw[h1,List.take_append_of_le_length (Zaj _),Zbz (Zaj _)]⟩
theorem CA.put (h:CA wL bW bF bl bp bo bf gl go d lb cl co xs Lx o w) (hk:xs.length<d) (nn:bl≠gl/\bl≠go/\bo≠gl/\bo≠go/\bf≠gl/\bf≠go/\gl≠go) (hg:wL.heap.size<=gl) (y:Int):
  CA wL bW bF bl bp bo bf gl go d lb cl co (xs++[y]) (Lx.set xs.length y) o (w.setCell ⟨gl,xs.length,none⟩ (.int .i64 y)):=by
 obtain⟨n1,n2,n3,n4,n5,n6,n7⟩:=nn
 refine⟨h.sn.setCell hg _,?_,?_,?_,by have:=h.ol.set (k:=xs.length) y;simpa using this,?_,by rw[Zau];exact h.ln,?_⟩
 ·rw[Zam (Zan _ _ _ bl (by exact n1))];exact h.kl
 ·rw[Zam (Zan _ _ _ bo (by exact n3))];exact h.ko
 ·rw[Zam (Zan _ _ _ bf (by exact n5))];exact h.kf
 ·exact aD h.oo fun q hq=>Zan _ _ _ q (by
   have h7:q=go:=by simpa[Value.ownBlock,eq_comm]using hq
   show q≠gl
   rw[h7]
   exact n7.symm)
 ·have ht:=h.tk;rw[Zay];show List.take (xs.length+1) _=_
  rw[List.take_add_one,List.take_set];have hl:(Lx.take xs.length).length=xs.length:=by rw[ht]
  rw[ht,List.set_eq_of_length_le (Zaj _),Zav (by rw[h.ln];exact hk)]
  rfl
theorem CA.add (h:CA wL bW bF bl bp bo bf gl go d lb cl co xs Lx o w) (nn:bl≠gl/\bl≠go/\bo≠gl/\bo≠go/\bf≠gl/\bf≠go/\gl≠go) (hg:wL.heap.size<=go) (a c:Nat):
  CA wL bW bF bl bp bo bf gl go d lb cl co xs Lx (fun x=>o x+if a=x then c else 0) (w.setCell ⟨go,a,none⟩ (.int .i64 (aF (o a+c):Nat))):=by
 obtain⟨n1,n2,n3,n4,n5,n6,n7⟩:=nn
 refine⟨h.sn.setCell hg _,?_,?_,?_,?_,by have:=h.oo.set (k:=a) ((aF (o a+c):Nat):Int);rw[UJ]at this;exact this,h.ln,h.tk⟩
 ·rw[Zam (Zan _ _ _ bl (by exact n2))];exact h.kl
 ·rw[Zam (Zan _ _ _ bo (by exact n4))];exact h.ko
 ·rw[Zam (Zan _ _ _ bf (by exact n6))];exact h.kf
 ·exact aD h.ol fun q hq=>Zan _ _ _ q (by
   have h7:q=gl:=by simpa[Value.ownBlock,eq_comm]using hq
   show q≠go
   rw[h7]
   exact n7)
end
def UK (wL:World) (bW bF bl bp bo bf gl go d lb cl co:Nat) (xs:List Int) (o:Nat->Nat) (e:Ending) (w':World):Prop:=(∃v,e=.returned v)/\∃Lx',CA wL bW bF bl bp bo bf gl go d lb cl co xs Lx' o w'
theorem Cd {wL:World} {bW bF bl bp bo bf gl go d lb cl co:Nat} {p:aq} {ws:Nat->Nat->Nat} {i:Int} (k r:Nat) (xs Lx:List Int) (o:Nat->Nat) (w:World) (hS:CA wL bW bF bl bp bo bf gl go d lb cl co xs Lx o w):
  Calls Tryz.prog 156 #[.int .i64 k,.int .i64 (aF 0:Nat),.pointer (some ⟨bW,0,none⟩),.pointer (some ⟨bF,0,none⟩),.pointer (some ⟨bl,0,none⟩),.pointer (some ⟨bp,0,none⟩),.pointer (some ⟨bo,0,none⟩),.pointer (some ⟨bf,0,none⟩)] w (UK wL bW bF bl bp bo bf gl go d lb cl co xs fun a=>o a+kg p ws i lb r xs 0 a):=by
 have HR:=zh (show CA wL bW bF bl bp bo bf gl go d lb cl co xs Lx (fun a=>o a+kg p ws i lb r xs 0 a) w from hS.cg fun a _=>by rw[Ca,Nat.add_zero])
 have h0:((aF 0:Nat):Int)=0:=rfl;rw[h0];clear hS h0
 go_enter Tryz.func156,Tryz.ntmps156
 go_wp2
 go_end0
 exact⟨⟨_,rfl⟩,Lx,HR⟩
theorem PH {wL:World} {bW bF bl bp bo bf gl go d lb cM cl co:Nat} {AM:Option Addr} {p:aq} {pa pb:Value} {Wl:List (List Int)} {ws:Nat->Nat->Nat} {i:Int} (hC:FcC wL bW bF bl bp bo bf gl go d lb cM AM p pa pb Wl ws i):
  ∀(r k:Nat) (xs Lx:List Int) (o:Nat->Nat) (P:Nat) (w:World),r+k=d->xs.length=k->(∀(j:Nat) (x:Int),xs[j]?=some x->0<=x/\x<(lb:Int))->CA wL bW bF bl bp bo bf gl go d lb cl co xs Lx o w ->
  Calls Tryz.prog 156 #[.int .i64 k,.int .i64 (aF P:Nat),.pointer (some ⟨bW,0,none⟩),.pointer (some ⟨bF,0,none⟩),.pointer (some ⟨bl,0,none⟩),.pointer (some ⟨bp,0,none⟩),.pointer (some ⟨bo,0,none⟩),.pointer (some ⟨bf,0,none⟩)] w (UK wL bW bF bl bp bo bf gl go d lb cl co xs fun a=>o a+kg p ws i lb r xs P a):=by
 intro r
 induction r with
 | zero=>
  intro k xs Lx o P w hk ou JX hS
  by_cases hP:P=0
  ·subst hP;exact Cd k 0 xs Lx o w hS
  obtain rfl:k=d:=zO
  obtain⟨sp,LZ⟩:=K_ (aF P)
  have afB:0<sp:=by rw[<- LZ];exact yX.2 zO
  have ady:sp<=1000000000001:=by rw[<- LZ];exact eH _
  have dV:((sp:Int)==0)=false:=by simp;omega
  have XT:((sp:Int)=0)=False:=by simp;omega
  rw[LZ];obtain⟨Hsp,HC,HS⟩:=B_ LZ hC hS;have c1:=hC.qW w hS.sn;have e1:=hC.m1 w hS.sn
  have hLx:Lx=xs:=by rw[<- hS.tk,Zbz (by rw[hS.ln,ou];exact Zaj _)]
  have HL:=zh hLx;have Zv:=hC.d4;have pY:=hC.lb8;obtain⟨md,Hrg⟩:=A_ ou JX
  have xi:Hid (vJ p xs=if p.nodes.contains (dz xs)=true then 1 else 0):=PG (by rw[ou];exact hC.deg.symm)
  clear hC hS hLx hk ou JX LZ hP
  go_enter Tryz.func156,Tryz.ntmps156
  go_upto_region 2 with(fail)
  have HcN:=zh (show ∀W,ab w W->Calls Tryz.prog 93 #[.agg #[.int .i64 lb,.int .i64 k,pa,pb],.slice (some ⟨gl,0,none⟩) k cl] W fun e w'=>e=.returned (.bool (p.nodes.contains (dz xs)))/\Below W.heap.size W w' from fun W hW=>by
   have h1:=tY pa pb p (.slice (some ⟨gl,0,none⟩) k cl) Lx W (HC.pr W (HS.sn.after hW)) (by have h9:=(HS.ol.since hW).ints;exact h9) HC.st HC.nl (by rw[HS.out.ln];omega)
   rw[HC.out.lab,HC.out.deg,HL.out]at h1
   exact h1)
  have p0:=fun W (hW:ab w W)=>HC.m0 W (HS.sn.after hW)
  have p1:=fun W (hW:ab w W)=>HC.m1 W (HS.sn.after hW)
  have p2:=fun W (hW:ab w W)=>HC.m2 W (HS.sn.after hW)
  have p3:=fun W (hW:ab w W)=>HC.m3 W (HS.sn.after hW)
  have p9:=ae HS.kl;clear c1 e1;refine aM 11 (ab w) (aa _) ?_;simp only[zT]
  iterate 6 (refine ch rfl ?_;simp only[zA])
  iterate 3 (refine iT rfl rfl ?_;simp only[zA])
  apply bn rfl rfl;(intro hb;intro W hW;unfold a_;go_simp;with_reducible exact zQ (HcN.out W hW));simp only[zA]
  (first | refine db rfl rfl ?_ | (refine ch rfl ?_));simp only[zA]
  intro W hW;have FT:=zh (HS.out.agU hW);clear hW p0 p1 p2 p3 p9;have FW:((k:Int) != (k:Int))=false:=zS
  obtain⟨nb,nt⟩:=K_ (p.nodes.contains (dz xs))
  rw[nt];have NS:=zh nt;clear nt;cases nb
  ·have HF:Hid (∀a,vO p i xs P a=0):=fun a=>by
    unfold vO;rw[xi.out,NS.out];simp
   go_wp2
   go_end0
   exact⟨⟨_,rfl⟩,Lx,FT.out.cg fun a _=>by show _=_+vO p i xs P a;rw[HF.out,Nat.add_zero]⟩
  ·have HF:Hid (∀a,vO p i xs P a=if FG i xs=a then P else 0):=fun a=>by
    unfold vO;rw[xi.out,NS.out];simp
   have adz:FG i xs<lb:=by
    unfold FG
    split
    ·omega
    ·obtain⟨x,hx⟩:=au xs i.toNat (by have:=HC.out.ir;rw[md.out];omega)
     have:=Hrg _ _ hx
     rw[ag hx];omega
   obtain⟨a0,ha0⟩:=K_ (FG i xs)
   rw[ha0]at adz;have Ha0:=zh ha0;obtain⟨v0,Qv⟩:=K_ (aF (o a0))
   have afC:v0<=1000000000001:=by rw[<- Qv];exact eH _
   obtain⟨t,ht⟩:=K_ ((v0:Int)+(sp:Int):Int)
   obtain⟨rr,F7⟩:=K_ (aF (o a0+P))
   have adA:rr=aF (v0+sp):=by rw[<- F7,<- Qv,<- Hsp.out,yW]
   have lD:IntKind.i64.wrap ((v0:Int)+(sp:Int))=t:=by rw[bU _ zO zO,ht]
   have XU:min t 1000000000001=(rr:Int):=by rw[adA,<- ht];unfold aF;omega
   have HSa:=FT.add HC.nn HC.gg.2 a0 P
   have HSA:Hid (∀W',ab W W'->CA wL bW bF bl bp bo bf gl go k lb cl co xs Lx (fun a=>o a+kg p ws i lb 0 xs P a) (W'.setCell ⟨go,a0,none⟩ (.int .i64 (rr:Int)))):=fun W' hW'=>by
    have h9:=(FT.agU hW').add HC.nn HC.gg.2 a0 P;rw[F7]at h9
    exact h9.cg fun a _=>by show _=_+vO p i xs P a;rw[HF.out,Ha0.out]
   have q1:=fun X (hX:ab W X)=>(ae FT.ko) X hX
   have q2:=fun X (hX:ab W X)=>(FT.oo.since hX).cell (show(iO lb o)[a0]?=some ((v0:Nat):Int)by rw[<- Qv];exact lq adz)
   have q3:=fun X (hX:ab W X)=>(FT.oo.since hX).free a0
   have hpv:=HC.qp W FT.sn;clear Qv afC ht F7 adA HSa ha0
   by_cases PO:0<=i
   ·obtain⟨i',rfl⟩:∃z:Nat,i=(z:Int):=⟨i.toNat,zO⟩
    have nS:i'<k:=zX HC.out.ir
    have hxi:xs[i']?=some (a0:Int):=by
     obtain⟨x,hx⟩:=au xs i' (by rw[md.out];exact nS)
     have h1:=Ha0.out;unfold FG at h1;rw[if_neg zO,Zag,ag hx]at h1
     have:=Hrg _ _ hx
     rw[hx];congr 1
     omega
    have hge:((i':Int)>=0)=True:=eq_true zO;have afD:((0:Int)<=(i':Int))=True:=eq_true zO;have c1:=FT.kl
    have c2:=FT.out.ol.cell (show Lx[i']?=some (a0:Int)by rw[HL.out];exact hxi)
    clear hxi PO;go_upto_region 6 with(fail);clear c1 c2 hpv;refine ap 10 (ab W) zK zK zS (aj (aa _)) ?_;simp only[zT]
    iterate 10 (refine ch rfl ?_;simp only[zA])
    intro W2 pt;have HE:=zh (HSA.out W2 pt);have k3:=q3 W2 pt;have k2:=q2 W2 pt;clear pt q1 q2 q3;go_wp2
    go_end0
    exact⟨⟨_,rfl⟩,Lx,HE⟩
   ·have hge:(i>=0)=False:=eq_false zO;have afD:((0:Int)<=i)=False:=eq_false zO
    have afE:a0=0:=by
     have h1:=Ha0.out;unfold FG at h1;rw[if_pos zO]at h1;exact h1.symm
    subst afE;clear PO;go_upto_region 6 with(fail);clear hpv;refine ap 10 (ab W) zK zK zS (aj (aa _)) ?_;simp only[zT]
    iterate 10 (refine ch rfl ?_;simp only[zA])
    intro W2 pt;have HE:=zh (HSA.out W2 pt);have k3:=q3 W2 pt;have k2:=q2 W2 pt;clear pt q1 q2 q3;go_wp2
    go_end0
    exact⟨⟨_,rfl⟩,Lx,HE⟩
 | succ r ih=>
  intro k xs Lx o P w hk ou JX hS
  by_cases hP:P=0
  ·subst hP;exact Cd k (r+1) xs Lx o w hS
  obtain⟨sp,LZ⟩:=K_ (aF P)
  have afB:0<sp:=by rw[<- LZ];exact yX.2 zO
  have ady:sp<=1000000000001:=by rw[<- LZ];exact eH _
  have dV:((sp:Int)==0)=false:=by simp;omega
  have XT:((sp:Int)=0)=False:=by simp;omega
  rw[LZ];obtain⟨Hsp,HC,HS⟩:=B_ LZ hC hS;have c1:=hC.qW w hS.sn;have e0:=hC.m0 w hS.sn;have Zv:=hC.d4;have pY:=hC.lb8;obtain⟨md,Hrg⟩:=A_ ou JX;have abh:k<d:=zO
  have Hk:Hid (r+(k+1)=d):=by show _=_;omega
  have hkd:((k:Int)=(d:Int))=False:=by simp;omega
  have aeY:(k=d)=False:=by simp;omega
  have hkb:((k:Int)==(d:Int))=false:=by simp;omega
  have aeZ:(k==d)=false:=by simp;omega
  have m1:IntKind.i64.wrap ((k:Int)+1)=((k+1:Nat):Int):=by rw[bU _ zO zO];omega
  have Hih:=zh ih;have lL:Hid (∀x:Nat,kg p ws i lb r (xs++[(x:Int)]) (P*Vw ws i xs.length x)=kg p ws i lb r (xs++[(x:Int)]) (P*Vw ws i k x)):=fun x=>by rw[ou]
  clear hC hS ou hk ih JX LZ hP
  go_enter Tryz.func156,Tryz.ntmps156
  go_upto_region 8 with(fail);clear c1 e0
  go_loopw [49] (fun j wr=>∃(x:Nat) (L2:List Int),x<=lb/\j=.int .i64 x/\CA wL bW bF bl bp bo bf gl go d lb cl co xs L2 (fun a=>o a+bt x fun x=>kg p ws i lb r (xs++[(x:Int)]) (P*Vw ws i k x) a) wr) (fun j _=>lb-(intOf j).toNat)
  case atStart=>exact⟨0,Lx,Zac _,rfl,HS⟩
  case round=>
   clear HS;obtain⟨x,L2,hx,rfl,hS⟩:=hrel;have HS:=zh hS;clear hS
   by_cases aA:x<lb
   ·have m2:=zw x;obtain⟨wo,rfl⟩:=J_ wr
    have Ys:=HS.put (by rw[md.out];exact abh) HC.nn HC.gg.1 (x:Int)
    rw[md.out]at Ys;obtain⟨w1,lD⟩:=J_ (wo.setCell ⟨gl,k,none⟩ (.int .i64 (x:Int)))
    rw[<- lD]at Ys;obtain⟨BY,QZ⟩:=A_ Ys lD;have c9:=HS.kl
    obtain⟨yk,WO⟩:=au L2 k (by rw[HS.out.ln];exact abh)
    have ck:=HS.ol.cell WO;have fk:=HS.ol.free k
    have adB:Hid (∀(j:Nat) (z:Int),(xs++[(x:Int)])[j]?=some z->0<=z/\z<(lb:Int)):=fun j z hz=>by
     by_cases hj:j<xs.length
     ·rw[Zcb hj]at hz;exact Hrg j z hz
     ·rw[Zca zO]at hz
      by_cases CE:j-xs.length=0
      ·rw[CE]at hz;have h3:(x:Int)=z:=by simpa using hz
       omega
      ·rw[Zce (by simp;omega)]at hz;cases hz
    clear Ys lD WO;go_upto_region 11 with(fail);rw[<- QZ.out];clear c9 ck fk;have cp:=HC.qp w1 BY.sn;have cfn:=BY.kf
    by_cases nR:(k:Int)=i
    ·have Dx:((k:Int) != i)=false:=by simp[nR]
     have hX:Vw ws i k x=1:=if_pos nR
     have gD:=Hih (k+1) (xs++[(x:Int)]) _ _ (P*Vw ws i k x) w1 Hk (by rw[Zay,md.out];rfl) adB BY
     rw[hX,Nat.mul_one,Hsp.out]at gD;obtain⟨RT,HX⟩:=A_ gD hX;clear gD nR hX;go_wp2_with fail;refine RT.mono ?_;rintro e w2 ⟨⟨v,rfl⟩,L3,Cq⟩;have Cm:=zh Cq.back;clear Cq cp cfn;go_wp2;go_roundw
     exact⟨x+1,L3,zO,zN,Cm.cg fun a _=>by rw[bt,HX.out,Nat.mul_one,Nat.add_assoc]⟩
     simp[intOf];omega
    ·have Dx:((k:Int) != i)=true:=by simp[nR]
     have hX:Vw ws i k x=ws k x:=if_neg nR;have cW:=HC.qW w1 BY.sn
     obtain⟨row,g1,g2,g3⟩:=HC.wk k (by rw[HC.out.dl];exact abh) nR
     obtain⟨bm,om,br,ob,zb,ea,d1,d2⟩:=kB (by have h9:=HC.iw w1 BY.sn;rw[<- HC.out.dl]at h9;exact h9) g1 (g3 x aA)
     obtain⟨sw,tD⟩:=K_ (aF (ws k x))
     rw[tD]at d2;rw[g2]at d1
     have adC:sw<=1000000000001:=by rw[<- tD];exact eH _
     have Dj:=zh (xc sp sw w1 ady adC);have Di:aF (sp*sw)=aF (P*ws k x):=by rw[<- Hsp.out,<- tD,sM]
     rw[Di]at Dj
     obtain⟨gD,HX⟩:=A_ (Hih.out (k+1) (xs++[(x:Int)]) _ _ (P*ws k x) w1 Hk.out (by rw[Zay,md.out];rfl) adB BY) hX;clear nR hX g1 g2 g3 tD adC Di;cases ea;go_wp2_with fail;refine Dj.mono ?_;rintro e w2 ⟨rfl,rfl⟩;go_wp2_with fail;refine gD.mono ?_;rintro e w2 ⟨⟨v,rfl⟩,L3,Cq⟩;have Cm:=zh Cq.back;clear Cq cp cfn cW d1 d2;go_wp2;go_roundw
     exact⟨x+1,L3,zO,zN,Cm.cg fun a _=>by rw[bt,HX.out,Nat.add_assoc]⟩
     simp[intOf];omega
   ·obtain rfl:x=lb:=zO
    go_wp2
    go_end0
    exact⟨⟨_,rfl⟩,L2,HS.cg fun a _=>by
     rw[kg];congr 1
     exact fh fun y _=>by rw[lL.out]⟩
end Go.Proofs.YtnioemnkfojmkaaGreat
