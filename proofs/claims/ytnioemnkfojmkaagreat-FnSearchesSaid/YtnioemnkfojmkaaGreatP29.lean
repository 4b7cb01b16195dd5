/- Parts of the proof: walks of functions and plain laws. -/
import Derived.Test.YtnioemnkfojmkaaGreatP0
import Derived.Test.YtnioemnkfojmkaaGreatP26
import Derived.Test.YtnioemnkfojmkaaGreatP27
import Derived.Test.YtnioemnkfojmkaaGreatP28
import Derived.Deep.CutBlock
set_option maxRecDepth 100000
set_option maxHeartbeats 16000000
namespace Go.Proofs.YtnioemnkfojmkaaGreat
open Go Go.RowKit
theorem fnSearches_walk (w:World) (v1:Value) (L1:Nat) (h1:Rg w v1 L1) (v2:Value) (L2:Nat) (h2:Rg w v2 L2):
  Calls Tryz.prog 3 #[v1,v2] w fun e w'=>e=.returned (.bool true)/\Below w.heap.size w w':=by
 obtain⟨A1,a1,M9,xW,vN,-⟩:=id h1;obtain⟨A2,a2,Ep,zO,fq,-⟩:=id h2;subst M9 Ep;unfold maxLen at vN fq;have H1:=zh h1;have H2:=zh h2;clear h1 h2
 go_enter Tryz.func3,Tryz.ntmps3
 go_wp2_with fail;refine(PS A1 A2 L1 a1 L2 a2 w (by omega) (by omega)).mono ?_;rintro e wz ⟨rfl,rfl⟩;cases hb:Jj L1 L2
 rotate_left
 ·go_wp2;go_ret;exact⟨rfl,Below.refl _ _⟩
 have hL:L1<=1048576/\L2<=1048576:=by
  unfold Jj at hb;simp at hb
  omega
 go_wp2_with fail;refine(so _ L1 w H1.out hL.1).mono ?_;rintro e w1 ⟨pa,pb,p,ve,vi,vn,N,S,ul,l,T,x,rfl,PU,l_,ho,FF,Ro,uO,hx,aX⟩;obtain⟨D0,d0,rfl,-,-,-⟩:=id ho.read.1;obtain⟨D1,d1,rfl,-,-,-⟩:=id ho.read.2.1;obtain⟨D2,d2,rfl,-,-,-⟩:=id ho.read.2.2;obtain⟨E0,e0,rfl,-,-,-⟩:=id PU.read.1;obtain⟨E1,e1,rfl,-,-,-⟩:=id PU.read.2;obtain⟨UL,ul',rfl,-,ab1,-⟩:=id Ro.read;obtain⟨w1b,MV⟩:∃z,z=w1.alloc (.cells #[.int .i64 p.labels,.int .i64 p.degree,.slice E0 p.nodes.length e0,.slice E1 p.ac3.length e1] 26):=⟨_,rfl⟩
 obtain⟨w2,eH⟩:∃z,z=w1b.alloc (.cells #[.slice D0 N.ends.length d0,.slice D1 N.ids.length d1,.slice D2 N.ac1.length d2] 30):=⟨_,rfl⟩
 obtain⟨qb,hqb⟩:∃z,z=w1.heap.size:=⟨_,rfl⟩
 have kV:w1b.heap.size=qb+1:=by rw[MV,hqb];simp
 have Kb:aa w1 w1b:=by rw[MV];exact ae _ (ad _)
 have bJ:aa w1b w2:=by rw[eH];exact ae _ (ad _)
 have xP:aT w2 qb p.labels p.degree (.slice E0 p.nodes.length e0) (.slice E1 p.ac3.length e1):=(show aT w1b qb _ _ _ _ by rw[MV,hqb];exact aT.fresh _ _ _ _ _).ac2 bJ
 have dj:aZ w2 (qb+1) (.slice D0 N.ends.length d0) (.slice D1 N.ids.length d1) (.slice D2 N.ac1.length d2):=by rw[eH,<- kV];exact aZ.new _ _ _ _ _
 have ko:aa w1 w2:=Kb.after bJ;have hN:=ho.read.ac2 ko.below;have hPr:=PU.read.ac2 ko.below;have To:=Ro.read.ac2 ko.below;have HN:=zh (show ∀W,aa w2 W->aU W (.slice D0 N.ends.length d0) (.slice D1 N.ids.length d1) (.slice D2 N.ac1.length d2) N from fun W hW=>hN.ac2 hW.below)
 have MW:=zh (show ∀W,aa w2 W->di W (.slice E0 p.nodes.length e0) (.slice E1 p.ac3.length e1) p from fun W hW=>hPr.ac2 hW.below)
 have HLl:=zh (show ∀W,aa w2 W->a_ W (.slice UL l.length ul') l from fun W hW=>To.ac2 hW.below)
 have MX:=zh (ab xP.cells.1);have Gq:=zh (ab xP.cells.2.1);have DH:=zh (ab xP.cells.2.2.1);have IN:=zh (ab xP.cells.2.2.2);have Jg:=zh (ab dj.cells.1);have MY:=zh (ab dj.cells.2.1);have MZ:=zh (ab dj.cells.2.2.1);have Rp:Hid (Below w.heap.size w w2):=Below.trans aX (ko.below.mono aX.size);have aag:=zh MV;have py:=zh eH;have Hqb:=zh hqb;have Co:=zh kV;have jw:=zh FF.small.sz;have ID:=zh (jr FF.small.sz);have DK:=zh l_.sz;have Hlz:=zh uO.sz;have pR:=zh uO
 have Hx:Hid (-9223372036854775808<=x/\x<=9223372036854775807):=by show _/\_;omega
 obtain⟨r1,lY⟩:∃z,aV p N l x=z:=⟨_,rfl⟩
 obtain⟨r2,ml⟩:∃z,bn p N l x=z:=⟨_,rfl⟩
 obtain⟨s,hs⟩:∃z,aP p N l x=z:=⟨_,rfl⟩
 have VO:=zh (show ∀W,aa w2 W->Calls Tryz.prog 7 #[.agg #[.int .i64 p.labels,.int .i64 p.degree,.slice E0 p.nodes.length e0,.slice E1 p.ac3.length e1],.agg #[.slice D0 N.ends.length d0,.slice D1 N.ids.length d1,.slice D2 N.ac1.length d2],.slice UL l.length ul',.int .i64 x] W fun e w'=>∃u S,e=.returned (.tuple #[u,.int .i64 r1,.int .i64 r2])/\bz w' W.heap.size u s S/\Below W.heap.size W w' from fun W hW=>by
  have hc:=nH _ _ _ _ _ _ p N l x W (MW.out W hW) (HN.out W hW) (HLl.out W hW) Hx.out DK.out jw.out Hlz.out;rw[lY,ml,hs]at hc
  exact hc)
 have sB:=zh (show ∀W,aa w2 W->Calls Tryz.prog 8 #[.agg #[.int .i64 p.labels,.int .i64 p.degree,.slice E0 p.nodes.length e0,.slice E1 p.ac3.length e1],.agg #[.slice D0 N.ends.length d0,.slice D1 N.ids.length d1,.slice D2 N.ac1.length d2],.slice UL l.length ul',.int .i64 x] W fun e w'=>∃u S,e=.returned (.tuple #[u,.int .i64 r1,.int .i64 r2])/\bz w' W.heap.size u s S/\Below W.heap.size W w' from fun W hW=>by
  have hc:=nI _ _ _ _ _ _ p N l x W (MW.out W hW) (HN.out W hW) (HLl.out W hW) Hx.out DK.out jw.out Hlz.out;rw[lY,ml,hs]at hc;refine hc.mono ?_;rintro e w' ⟨u,S,h1,h2,-,h3⟩
  exact⟨u,S,h1,h2,h3⟩)
 have dZ:aa w2 w2:=ad _;have CE:=zh lY;have DD:=zh ml;have Hs:=zh hs;clear PU l_ ho FF Ro uO hx aX MV eH hqb Kb bJ xP dj ko hN hPr To lY ml hs kV;go_upto_region 4 with(fail);rw[<- aag.out,<- py.out,<- Hqb.out];have p0:=Jg.out w2 dZ;have p1:=MY.out w2 dZ;have p2:=MZ.out w2 dZ;have q0:=MX.out w2 dZ;have q1:=Gq.out w2 dZ;have q2:=DH.out w2 dZ;have q3:=IN.out w2 dZ;go_wp2_with fail;refine(VO.out w2 dZ).mono ?_;rintro e w3 ⟨u3,S3,rfl,iH,aG⟩;obtain⟨Q3,c3,rfl,-,UQ,-⟩:=id iH.read;have lE:=zh (show aa w2 w3 from aG);have HI:=zh (show ∀W,aa w3 W->a_ W (.slice Q3 s.length c3) s from fun W hW=>iH.read.ac2 hW.below)
 clear p0 p1 p2 q0 q1 q2 q3 iH aG dZ;have p0:=Jg.out w3 lE.out;have p1:=MY.out w3 lE.out;have p2:=MZ.out w3 lE.out;have q0:=MX.out w3 lE.out;have q1:=Gq.out w3 lE.out;have q2:=DH.out w3 lE.out;have q3:=IN.out w3 lE.out;go_wp2_with fail;refine(sB.out w3 lE.out).mono ?_;rintro e w4 ⟨u4,S4,rfl,xS,qy⟩;obtain⟨Q4,c4,rfl,-,UR,-⟩:=id xS.read;have M3:=zh (show aa w3 w4 from qy);have HI4:=zh (show ∀W,aa w4 W->a_ W (.slice Q4 s.length c4) s from fun W hW=>xS.read.ac2 hW.below)
 clear p0 p1 p2 q0 q1 q2 q3 xS qy;unfold maxLen at UQ UR ab1;go_wp2_with fail;refine(pg _ _ s w4 (HI.out w4 M3.out) (HI4.out w4 (ad _))).mono ?_;rintro e w5 ⟨rfl,mP⟩;have M4:=zh (M3.out.after (show aa w4 w5 from mP));have oQ:=zh (lE.out.after M4.out);clear mP
 go_upto_if 87 with(fail)
 go_cut [15,16,17,18,19,20,21,22,23,24,25,26,27,28]from 87 to 177 (fun _ _ _ _ _ _ _ _ _ _ _ _ _ _ wx=>aa w5 wx)
 case first=>
  by_cases h1:r1=1
  ·have g1:(r1==1)=true:=by simp[h1]
   obtain⟨dJ,hsx⟩:=wR (CE.out.trans h1);rw[Hs.out]at hsx;have ml:=MS (CE.out.trans h1);rw[DD.out]at ml;unfold oz at dJ;simp only[Bool.and_eq_true]at dJ;obtain⟨⟨⟨k1,k2⟩,k3⟩,k4⟩:=dJ;have PM:eG N l:=eG.of (mq k3).1;obtain⟨i1,i2⟩:=CQ k1 k2 PM hsx;have g2:decide (x<r2)=false:=decide_eq_false (by omega)
   have g3:(x<r2)=False:=by simp;omega
   have KK:=zh (show ∀W,aa w5 W->Calls Tryz.prog 10 #[.agg #[.int .i64 p.labels,.int .i64 p.degree,.slice E0 p.nodes.length e0,.slice E1 p.ac3.length e1],.agg #[.slice D0 N.ends.length d0,.slice D1 N.ids.length d1,.slice D2 N.ac1.length d2],.slice Q3 s.length c3] W fun e w'=>e=.returned (.tuple #[.bool true,.bool true])/\Below W.heap.size W w' from fun W hW=>by
    have hc:=pd _ _ _ _ _ _ p N s W (MW.out W (oQ.out.after hW)) (HN.out W (oQ.out.after hW)) (HI.out W (M4.out.after hW)) DK.out ID.out;rw[i1,i2]at hc
    exact hc)
   have Wt:=zh k1;have Qo:=zh k2;have Qm:=zh k3;have PN:=zh PM;have Rq:=zh hsx;have qG:=zh (dE k1).1
   have t_:l.length<=40/\s.length=l.length:=by
    have h9:=pm k2
    exact⟨by rw[PM.1];exact h9.2,hsx.shp.1.symm⟩
   have VS:=zh t_.2;have Ki:=t_.1;have Bv:Hid (∀(v:Nat) (row:List Int),l[v]?=some row->row.length<=6):=(mr k2 (mq k3).1).2;have AD:aa w5 w5:=ad _;clear h1 hsx ml k1 k2 k3 k4 PM i1 i2 t_;have p0:=Jg.out w5 oQ.out;have p1:=MY.out w5 oQ.out;have p2:=MZ.out w5 oQ.out;have q0:=MX.out w5 oQ.out;have q1:=Gq.out w5 oQ.out;have q2:=DH.out w5 oQ.out;have q3:=IN.out w5 oQ.out;go_wp2_with fail;refine(KK.out w5 AD).mono ?_;rintro e w6 ⟨rfl,th⟩;have PV:=zh (show aa w5 w6 from th);clear p0 p1 p2 q0 q1 q2 q3 th AD;go_upto_region 13 with(fail);clear g1 g2 g3
   go_loopw [108] (fun i wr=>∃k:Nat,k<=l.length/\i=.int .i64 k/\aa w6 wr) (fun i _=>l.length-(intOf i).toNat)
   case atStart=>exact⟨0,by omega,rfl,ad _⟩
   case round=>
    obtain⟨k,hk,rfl,fd⟩:=hrel;have mY:=zh fd;obtain⟨wo,rfl⟩:∃z,z=wr:=⟨_,rfl⟩
    by_cases aH:k<l.length
    ·have m3:IntKind.i64.wrap ((k:Int)+1)=(k:Int)+1:=aE _ (by omega) (by omega);obtain⟨row,aD⟩:=ay l k aH;obtain⟨AL,cl,eL,-,-,sc⟩:=HLl.out w2 (ad _);cases eL;obtain⟨bL,oL,uL,rfl,JF,VT⟩:=sc k row aD;obtain⟨AR,cR,rfl,-,sy,jy⟩:=VT;unfold maxLen at sy;have de:=ab JF wo (oQ.out.after (PV.out.after fd));have KE:=zh jy;have ch:=zh aD;have mW:=Bv.out k row aD
     have hks:k<s.length:=by rw[VS.out];exact aH
     obtain⟨iN,qr⟩:=ay s k hks
     have US:iN.length=row.length:=by
      have h9:=Rq.out.shp.2 k;rw[ak aD,ak qr]at h9;exact h9.symm
     obtain⟨AZ,cs,eS,-,-,hSS⟩:=HI.out w3 (ad _);cases eS;obtain⟨bS,oS,uS,rfl,VU,hsI⟩:=hSS k iN qr;obtain⟨AT,cT,rfl,-,UT,hTT⟩:=hsI;unfold maxLen at UT;rw[US]at VU;have ab2:=zh (ab VU);have Gz:=zh hTT;have G4:=zh qr;have ab3:=zh US;have ab4:Hid (aa w2 wo):=oQ.out.after (PV.out.after fd);have PW:Hid (aa w3 wo):=M4.out.after (PV.out.after fd);clear sc JF jy aD hSS VU hTT qr US fd;go_upto_region 16 with(fail);clear de
     go_loopw [115] (fun i wr=>∃j:Nat,j<=row.length/\i=.int .i64 j/\aa wo wr) (fun i _=>row.length-(intOf i).toNat)
     case atStart=>exact⟨0,by omega,rfl,ad _⟩
     case round=>
      obtain⟨j,hj,rfl,BG⟩:=hrel;have C7:=zh BG;obtain⟨wq,rfl⟩:∃z,z=wr:=⟨_,rfl⟩
      by_cases eD:j<row.length
      ·have m4:IntKind.i64.wrap ((j:Int)+1)=(j:Int)+1:=aE _ (by omega) (by omega);obtain⟨y,hy⟩:=ay row j eD;obtain⟨bR,oR,rfl,Pr⟩:=KE.out j y hy;have dy:=ab Pr wq (ab4.out.after BG)
       obtain⟨z,hz⟩:=ay iN j (by rw[ab3.out];exact eD)
       obtain⟨bT,oT,rfl,hcz⟩:=Gz.out j z hz;have dz:=ab hcz wq (PW.out.after BG);have dc:=ab2.out wq (PW.out.after BG)
       have hyz:0<=y->z=y:=fun h0=>by
        have e1:ax l k j=y:=by unfold ax;rw[ak ch.out,ak hy]
        have e2:ax s k j=z:=by unfold ax;rw[ak G4.out,ak hz]
        have h9:=Rq.out.off k j (by unfold cD;rw[ak ch.out];exact eD) (by rw[e1];exact h0)
        rw[e1,e2]at h9;exact h9
       clear hy Pr hz hcz BG;go_upto_region 18 with(fail);clear dy
       by_cases h0:0<=y
       ·obtain rfl:=hyz h0
        have g4:decide (0<=z)=true:=decide_eq_true h0;clear hyz h0;go_wp2;go_roundw
        case rel=>exact⟨j+1,by omega,by first | rfl | go_num,C7.out⟩
        case measure=>simp[intOf];omega
       ·have g4:decide (0<=y)=false:=decide_eq_false h0;clear hyz h0 dz dc;go_wp2;go_roundw
        case rel=>exact⟨j+1,by omega,by first | rfl | go_num,C7.out⟩
        case measure=>simp[intOf];omega
      ·obtain rfl:j=row.length:=by omega
       go_wp2;go_roundw
       case rel=>exact⟨k+1,by omega,by first | rfl | go_num,mY.out.after C7.out⟩
       case measure=>simp[intOf];omega
    ·obtain rfl:k=l.length:=by omega
     have acZ:=zh fd;have UU:Hid (aa w5 wo):=PV.out.after fd;have yX:Hid (aa w2 wo):=oQ.out.after UU.out;have PW:Hid (aa w3 wo):=M4.out.after UU.out
     have zm:p.nodes.length<=1048576:=by have:=DK.out;unfold ks oc at this;omega
     have iI:p.ac3.length<=1048576:=by have:=DK.out;unfold ks oc at this;omega
     have YW:=Bh _ _ _ _ _ _ p N l wo (MW.out wo yX.out) (HN.out wo yX.out) (HLl.out wo yX.out) Wt.out Qo.out Qm.out zm iI (by have:=jw.out;unfold gO at this;omega)
     have HcP:=zh YW;have p0:=Jg.out wo yX.out;have p1:=MY.out wo yX.out;have p2:=MZ.out wo yX.out;have q0:=MX.out wo yX.out;have q1:=Gq.out wo yX.out;have q2:=DH.out wo yX.out;have q3:=IN.out wo yX.out;clear YW zm iI fd;go_wp2_with fail;refine HcP.out.mono ?_;rintro e w7 ⟨u7,ok,M,S7,rfl,Mo,hR,hz,sA⟩;cases ok
     ·obtain⟨v,i,hi,h0⟩:=hz rfl;exact absurd h0 (Jh PN.out hR Rq.out hi)
     rw[if_pos rfl]at Mo;obtain⟨Q7,c7,rfl,-,ab5,-⟩:=id Mo.read;unfold maxLen at ab5;have Yi:=zh (show aa wo w7 from sA);have HI7:=zh Mo.read;have HRm:=zh hR;have DI:M.length=s.length:=by rw[hR.ms.shp.1,VS.out,PN.out.1]
     have HMr:Hid (∀(v:Nat) (row:List Int),s[v]?=some row->∃DB,M[v]?=some DB/\DB.length=row.length):=fun v row hv=>by
      obtain⟨DB,hm⟩:=ay M v (by rw[DI];exact al hv)
      refine⟨DB,hm,?_⟩;have h9:=hR.ms.shp.2 v;rw[ak hm,<- PN.out.2 v,Rq.out.shp.2 v,ak hv]at h9;exact h9
     have HSr:Hid (∀(v:Nat) (row:List Int),s[v]?=some row->row.length<=6):=fun v row hv=>by
      obtain⟨FO,hl⟩:=ay l v (by rw[<- VS.out];exact al hv)
      have h9:=Rq.out.shp.2 v;rw[ak hl,ak hv]at h9;rw[<- h9];exact Bv.out v FO hl
     have GH:=zh DI
     have acg:s.length<=40:=by rw[VS.out];exact Ki
     clear DI p0 p1 p2 q0 q1 q2 q3 Mo hR hz sA;go_upto_region 26 with(fail)
     go_loopw [146] (fun i wr=>∃k:Nat,k<=s.length/\i=.int .i64 k/\aa w7 wr) (fun i _=>s.length-(intOf i).toNat)
     case atStart=>exact⟨0,by omega,rfl,ad _⟩
     case round=>
      obtain⟨k,hk,rfl,fd⟩:=hrel;have mY:=zh fd;obtain⟨wk,rfl⟩:∃z,z=wr:=⟨_,rfl⟩
      have H3k:Hid (aa w3 wk):=PW.out.after (Yi.out.after fd)
      by_cases aH:k<s.length
      ·have m3:IntKind.i64.wrap ((k:Int)+1)=(k:Int)+1:=aE _ (by omega) (by omega);obtain⟨iN,qr⟩:=ay s k aH;obtain⟨AZ,cs,eS,-,-,hSS⟩:=HI.out w3 (ad _);cases eS;obtain⟨bS,oS,uS,rfl,VU,hsI⟩:=hSS k iN qr;obtain⟨AT,cT,rfl,-,UT,hTT⟩:=hsI;unfold maxLen at UT;have dc:=ab VU wk H3k.out;obtain⟨DB,M5,UV⟩:=HMr.out k iN qr;obtain⟨AM,cm,eM,-,-,hMM⟩:=id HI7.out;cases eM
       have hkM:k<M.length:=by rw[GH.out];exact aH
       obtain⟨bM,oM,uM,rfl,VV,hmI⟩:=hMM k DB M5;obtain⟨AN,cN,rfl,-,ab6,hNN⟩:=hmI;unfold maxLen at ab6;rw[UV]at VV;have HcM:=zh (ab VV);have Gz:=zh hTT;have HNN:=zh hNN;have G4:=zh qr;have Rr:=zh M5;have ab7:=zh UV;have mW:=HSr.out k iN qr;clear hSS VU hTT qr M5 UV hMM VV hNN fd;go_upto_region 29 with(fail);clear dc
       go_loopw [153] (fun i wr=>∃j:Nat,j<=iN.length/\i=.int .i64 j/\aa wk wr) (fun i _=>iN.length-(intOf i).toNat)
       case atStart=>exact⟨0,by omega,rfl,ad _⟩
       case round=>
        obtain⟨j,hj,rfl,BG⟩:=hrel;have C7:=zh BG;obtain⟨wq,rfl⟩:∃z,z=wr:=⟨_,rfl⟩
        by_cases eD:j<iN.length
        ·have m4:IntKind.i64.wrap ((j:Int)+1)=(j:Int)+1:=aE _ (by omega) (by omega);obtain⟨y,hy⟩:=ay iN j eD;obtain⟨bR,oR,rfl,Pr⟩:=Gz.out j y hy;have dy:=ab Pr wq (H3k.out.after BG)
         obtain⟨z,hz⟩:=ay DB j (by rw[ab7.out];exact eD)
         obtain⟨bT,oT,rfl,hcz⟩:=HNN.out j z hz;have dz:=ab hcz wq (mY.out.after BG);have dm:=HcM.out wq (mY.out.after BG)
         have dH:cD s k j:=by unfold cD;rw[ak G4.out];exact eD
         have e1:ax s k j=y:=by unfold ax;rw[ak G4.out,ak hy]
         have e2:ax M k j=z:=by unfold ax;rw[ak Rr.out,ak hz]
         have xL:=DA PN.out HRm.out Rq.out k j dH;have aah:=Rq.out.rng k j (dH.same Rq.out.shp.symm);rw[e1,e2]at xL;rw[e1]at aah;have Rs:=HRm.out.ms.rng k DB j z Rr.out hz;have gX:=qG.out;obtain⟨yn,rfl⟩:∃yn:Nat,y=(yn:Int):=⟨y.toNat,by omega⟩
         rw[Int.toNat_natCast]at xL;have kC:=Jb z yn wq Rs (by omega)
         rw[show MB z yn=1 from by unfold MB;rw[xL];rfl]at kC
         have HcB:=zh kC;clear hy Pr hz hcz BG dH e1 e2 xL aah Rs kC gX;go_upto_region 31 with(fail);clear dy;go_wp2_with fail;refine HcB.out.mono ?_;rintro e wB ⟨rfl,rfl⟩;go_wp2;go_roundw
         case rel=>exact⟨j+1,by omega,by first | rfl | go_num,C7.out⟩
         case measure=>simp[intOf];omega
        ·obtain rfl:j=iN.length:=by omega
         go_wp2;go_roundw
         case rel=>exact⟨k+1,by omega,by first | rfl | go_num,mY.out.after C7.out⟩
         case measure=>simp[intOf];omega
      ·obtain rfl:k=s.length:=by omega
       have PX:Hid (aa w5 wk):=UU.out.after (Yi.out.after fd);clear fd;go_wp2;go_meet
       case rel=>exact PX.out
  ·have g1:(r1==1)=false:=by simpa using h1
   clear h1;go_wp2;go_meet
   case rel=>exact ad _
 case rest=>
 have vo:Hid (Below w.heap.size w wc):=Below.trans Rp.out ((oQ.out.after hcut).below.mono Rp.out.size);obtain⟨w6,rfl⟩:∃z,z=wc:=⟨_,rfl⟩
 have H2':=zh (H2.out.ac2 vo.out);clear hcut oQ M4 M3 lE HI HI4 VO sB CE DD Hs HN MW HLl MX Gq DH IN Jg MY MZ Rp aag py Hqb Co jw ID DK Hlz pR Hx H1 H2;go_wp2_with fail;refine(nk _ L2 w6 H2'.out hL.2).mono ?_;rintro e x1 ⟨ma,mb,q,Nx,Ny,Nz,N2,Sn,kk,rfl,PU,l_,ho,FF,hx,aX⟩;obtain⟨F0,f0,rfl,-,-,-⟩:=id ho.read.1;obtain⟨F1,f1,rfl,-,-,-⟩:=id ho.read.2.1;obtain⟨F2,f2,rfl,-,-,-⟩:=id ho.read.2.2;obtain⟨G0,g0,rfl,-,-,-⟩:=id PU.read.1;obtain⟨G1,g1,rfl,-,-,-⟩:=id PU.read.2;obtain⟨x1b,M6⟩:∃z,z=x1.alloc (.cells #[.int .i64 q.labels,.int .i64 q.degree,.slice G0 q.nodes.length g0,.slice G1 q.ac3.length g1] 26):=⟨_,rfl⟩
 obtain⟨x2,sq⟩:∃z,z=x1b.alloc (.cells #[.slice F0 N2.ends.length f0,.slice F1 N2.ids.length f1,.slice F2 N2.ac1.length f2] 30):=⟨_,rfl⟩
 obtain⟨rb,fG⟩:∃z,z=x1.heap.size:=⟨_,rfl⟩
 have kV:x1b.heap.size=rb+1:=by rw[M6,fG];simp
 have Kb:aa x1 x1b:=by rw[M6];exact ae _ (ad _)
 have bJ:aa x1b x2:=by rw[sq];exact ae _ (ad _)
 have xP:aT x2 rb q.labels q.degree (.slice G0 q.nodes.length g0) (.slice G1 q.ac3.length g1):=(show aT x1b rb _ _ _ _ by rw[M6,fG];exact aT.fresh _ _ _ _ _).ac2 bJ
 have dj:aZ x2 (rb+1) (.slice F0 N2.ends.length f0) (.slice F1 N2.ids.length f1) (.slice F2 N2.ac1.length f2):=by rw[sq,<- kV];exact aZ.new _ _ _ _ _
 have ko:aa x1 x2:=Kb.after bJ;have hN:=ho.read.ac2 ko.below;have hPr:=PU.read.ac2 ko.below;have HN:=zh (show ∀W,aa x2 W->aU W (.slice F0 N2.ends.length f0) (.slice F1 N2.ids.length f1) (.slice F2 N2.ac1.length f2) N2 from fun W hW=>hN.ac2 hW.below)
 have MW:=zh (show ∀W,aa x2 W->di W (.slice G0 q.nodes.length g0) (.slice G1 q.ac3.length g1) q from fun W hW=>hPr.ac2 hW.below)
 have MX:=zh (ab xP.cells.1);have Gq:=zh (ab xP.cells.2.1);have DH:=zh (ab xP.cells.2.2.1);have IN:=zh (ab xP.cells.2.2.2);have Jg:=zh (ab dj.cells.1);have MY:=zh (ab dj.cells.2.1);have MZ:=zh (ab dj.cells.2.2.1);have Rp:Hid (Below w.heap.size w x2):=Below.trans vo.out ((Below.trans aX (ko.below.mono aX.size)).mono vo.out.size);have ab8:=zh M6;have Hx2:=zh sq;have eY:=zh fG;have jw:=zh FF.small.sz;have ID:=zh (jr FF.small.sz);have DK:=zh l_.sz;have nP : -9223372036854775808<=kk/\kk<=9223372036854775807:=by omega
 have Qo:=zh nP;obtain⟨r1,lY⟩:∃z,bt q N2 kk=z:=⟨_,rfl⟩
 obtain⟨s,hs⟩:∃z,aF q N2 kk=z:=⟨_,rfl⟩
 have VO:=zh (show ∀W,aa x2 W->Calls Tryz.prog 14 #[.agg #[.int .i64 q.labels,.int .i64 q.degree,.slice G0 q.nodes.length g0,.slice G1 q.ac3.length g1],.agg #[.slice F0 N2.ends.length f0,.slice F1 N2.ids.length f1,.slice F2 N2.ac1.length f2],.int .i64 kk] W fun e w'=>∃u S,e=.returned (.tuple #[u,.bool r1])/\iv w' W.heap.size u s S/\Below W.heap.size W w' from fun W hW=>by
  have hc:=k_ _ _ _ _ _ q N2 kk W (MW.out W hW) (HN.out W hW) Qo.out DK.out jw.out;rw[lY,hs]at hc
  exact hc)
 have sB:=zh (show ∀W,aa x2 W->Calls Tryz.prog 15 #[.agg #[.int .i64 q.labels,.int .i64 q.degree,.slice G0 q.nodes.length g0,.slice G1 q.ac3.length g1],.agg #[.slice F0 N2.ends.length f0,.slice F1 N2.ids.length f1,.slice F2 N2.ac1.length f2],.int .i64 kk] W fun e w'=>∃u S,e=.returned (.tuple #[u,.bool r1])/\iv w' W.heap.size u s S/\Below W.heap.size W w' from fun W hW=>by
  have hc:=lh _ _ _ _ _ q N2 kk W (MW.out W hW) (HN.out W hW) Qo.out DK.out jw.out;rw[lY,hs]at hc;refine hc.mono ?_;rintro e w' ⟨u,S,h1,h2,-,h3⟩
  exact⟨u,S,h1,h2,h3⟩)
 have dZ:aa x2 x2:=ad _;have CE:=zh lY;have Hs:=zh hs;clear PU l_ ho FF hx aX M6 sq fG Kb bJ xP dj ko hN hPr lY hs kV nP;go_upto_region 37 with(fail);rw[<- ab8.out,<- Hx2.out,<- eY.out];have p0:=Jg.out x2 dZ;have p1:=MY.out x2 dZ;have p2:=MZ.out x2 dZ;have q0:=MX.out x2 dZ;have q1:=Gq.out x2 dZ;have q2:=DH.out x2 dZ;have q3:=IN.out x2 dZ;go_wp2_with fail;refine(VO.out x2 dZ).mono ?_;rintro e x3 ⟨u3,S3,rfl,iH,aG⟩;obtain⟨Q3,c3,rfl,ac0,UQ,-⟩:=id iH.read;have lE:=zh (show aa x2 x3 from aG);have HI:=zh (show ∀W,aa x3 W->s6 W (.slice Q3 s.length c3) s from fun W hW=>iH.read.ac2 hW.below)
 clear p0 p1 p2 q0 q1 q2 q3 iH aG dZ;have p0:=Jg.out x3 lE.out;have p1:=MY.out x3 lE.out;have p2:=MZ.out x3 lE.out;have q0:=MX.out x3 lE.out;have q1:=Gq.out x3 lE.out;have q2:=DH.out x3 lE.out;have q3:=IN.out x3 lE.out;go_wp2_with fail;refine(sB.out x3 lE.out).mono ?_;rintro e x4 ⟨u4,S4,rfl,xS,qy⟩;obtain⟨Q4,c4,rfl,-,UR,-⟩:=id xS.read;have M3:=zh (show aa x3 x4 from qy);have qk:=zh (lE.out.after (show aa x3 x4 from qy));have HI4:=zh (show ∀W,aa x4 W->s6 W (.slice Q4 s.length c4) s from fun W hW=>xS.read.ac2 hW.below)
 unfold maxLen at UQ UR;clear p0 p1 p2 q0 q1 q2 q3 xS qy;go_upto_region 42 with(fail)
 have KK:=zh (show ∀(y:List (List Int)) (v:Value) (W:World),y∈s->aa x2 W->a_ W v y->Calls Tryz.prog 10 #[.agg #[.int .i64 q.labels,.int .i64 q.degree,.slice G0 q.nodes.length g0,.slice G1 q.ac3.length g1],.agg #[.slice F0 N2.ends.length f0,.slice F1 N2.ids.length f1,.slice F2 N2.ac1.length f2],v] W fun e w'=>e=.returned (.tuple #[.bool true,.bool true])/\Below W.heap.size W w' from fun y v W hy hW hv=>by
  have hc:=pd _ _ _ _ _ _ q N2 y W (MW.out W hW) (HN.out W hW) hv DK.out ID.out;rw[<- Hs.out]at hy;obtain⟨i1,i2⟩:=UJ hy;rw[i1,i2]at hc
  exact hc)
 go_loopw [210] (fun i wr=>∃k:Nat,k<=s.length/\i=.int .i64 k/\aa x4 wr) (fun i _=>s.length-(intOf i).toNat)
 case atStart=>exact⟨0,by omega,rfl,ad _⟩
 case round=>
  obtain⟨k,hk,rfl,fd⟩:=hrel;have mY:=zh fd;obtain⟨wk,rfl⟩:∃z,z=wr:=⟨_,rfl⟩
  have H3k:Hid (aa x3 wk):=M3.out.after fd;have BJ:Hid (aa x2 wk):=qk.out.after fd
  by_cases aH:k<s.length
  ·have m3:IntKind.i64.wrap ((k:Int)+1)=(k:Int)+1:=aE _ (by omega) (by omega);obtain⟨y,hy⟩:=ay s k aH;obtain⟨AL,cl,eL,-,-,sc⟩:=HI.out wk H3k.out;cases eL;obtain⟨bL,oL,uL,rfl,JF,VT⟩:=sc k y hy;obtain⟨AM,cm,eM,-,-,hMM⟩:=HI4.out wk fd;cases eM;obtain⟨bM,oM,uM,rfl,VV,hmI⟩:=hMM k y hy;have HrI:=zh VT;have HmI:=zh hmI;have Qt:=KK.out y uL wk (List.mem_of_getElem? hy) BJ.out VT;obtain⟨AR,cR,rfl,-,-,-⟩:=id VT;obtain⟨AT,cT,rfl,-,-,-⟩:=id hmI;have HcB:=zh Qt;have dc:=ab JF wk (ad _);have HcM:=zh (ab VV);have p0:=Jg.out wk BJ.out;have p1:=MY.out wk BJ.out;have p2:=MZ.out wk BJ.out;have q0:=MX.out wk BJ.out;have q1:=Gq.out wk BJ.out;have q2:=DH.out wk BJ.out;have q3:=IN.out wk BJ.out;clear hy sc JF VT hMM VV hmI Qt fd;go_wp2_with fail;refine HcB.out.mono ?_;rintro e wB ⟨rfl,P9⟩;have HsB:=zh (show aa wk wB from P9);clear dc p0 p1 p2 q0 q1 q2 q3 P9;have dm:=HcM.out wB HsB.out;have hcC:=pg _ _ y wB (a_.ac2 HrI.out HsB.out.below) (a_.ac2 HmI.out HsB.out.below);have HcC:=zh hcC;clear hcC;go_wp2_with fail;refine HcC.out.mono ?_;rintro e wC ⟨rfl,Na⟩;have HsC:=zh (mY.out.after (HsB.out.after (show aa wB wC from Na)));clear Na dm;go_wp2;go_roundw
   case rel=>exact⟨k+1,by omega,by first | rfl | go_num,HsC.out⟩
   case measure=>simp[intOf];omega
  ·obtain rfl:k=s.length:=by omega
   have PX:Hid (Below w.heap.size w wk):=Below.trans Rp.out (BJ.out.below.mono Rp.out.size);clear fd;cases r1
   ·go_wp2;go_ret;exact⟨rfl,PX.out⟩
   ·by_cases Jq:(s.length:Int)<kk
    ·have gk:decide ((s.length:Int)<kk)=true:=decide_eq_true Jq;have UW : -9223372036854775808<=(200000:Int)/\(200000:Int)<=9223372036854775807:=⟨by decide,by decide⟩
     obtain⟨n1,n0⟩:=MT (p:=q) (n:=N2) CE.out (by rw[Hs.out];exact Jq)
     rw[Hs.out]at n0
     have HcX:=zh (show ∀W,aa x2 W->Calls Tryz.prog 16 #[.agg #[.int .i64 q.labels,.int .i64 q.degree,.slice G0 q.nodes.length g0,.slice G1 q.ac3.length g1],.agg #[.slice F0 N2.ends.length f0,.slice F1 N2.ids.length f1,.slice F2 N2.ac1.length f2],.int .i64 200000] W fun e w'=>e=.returned (.tuple #[.int .i64 (s.length:Int),.int .i64 2])/\Below W.heap.size W w' from fun W hW=>by
      have hc:=kY _ _ _ _ _ q N2 200000 W (MW.out W hW) (HN.out W hW) UW DK.out jw.out;rw[n1,n0]at hc
      exact hc)
     have HcY:=zh (show ∀W,aa x2 W->Calls Tryz.prog 17 #[.agg #[.int .i64 q.labels,.int .i64 q.degree,.slice G0 q.nodes.length g0,.slice G1 q.ac3.length g1],.agg #[.slice F0 N2.ends.length f0,.slice F1 N2.ids.length f1,.slice F2 N2.ac1.length f2],.int .i64 200000] W fun e w'=>e=.returned (.tuple #[.int .i64 (s.length:Int),.int .i64 2])/\Below W.heap.size W w' from fun W hW=>by
      have hc:=kZ _ _ _ _ _ q N2 200000 W (MW.out W hW) (HN.out W hW) UW DK.out jw.out;rw[n1,n0]at hc
      exact hc)
     clear n0 n1 UW Jq;have p0:=Jg.out wk BJ.out;have p1:=MY.out wk BJ.out;have p2:=MZ.out wk BJ.out;have q0:=MX.out wk BJ.out;have q1:=Gq.out wk BJ.out;have q2:=DH.out wk BJ.out;have q3:=IN.out wk BJ.out;go_wp2_with fail;refine(HcX.out wk BJ.out).mono ?_;rintro e wX ⟨rfl,hbX⟩;have HsX:=zh (show aa wk wX from hbX);have PY:Hid (aa x2 wX):=BJ.out.after HsX.out;clear p0 p1 p2 q0 q1 q2 q3 hbX;have p0:=Jg.out wX PY.out;have p1:=MY.out wX PY.out;have p2:=MZ.out wX PY.out;have q0:=MX.out wX PY.out;have q1:=Gq.out wX PY.out;have q2:=DH.out wX PY.out;have q3:=IN.out wX PY.out;go_wp2_with fail;refine(HcY.out wX PY.out).mono ?_;rintro e wY ⟨rfl,hbY⟩;have ab9:Hid (Below w.heap.size w wY):=Below.trans Rp.out ((PY.out.after (show aa wX wY from hbY)).below.mono Rp.out.size);clear p0 p1 p2 q0 q1 q2 q3 hbY;go_wp2;go_ret;exact⟨rfl,ab9.out⟩
    ·have gk:decide ((s.length:Int)<kk)=false:=decide_eq_false Jq;clear Jq;go_wp2;go_ret;exact⟨rfl,PX.out⟩
end Go.Proofs.YtnioemnkfojmkaaGreat
