/- Parts of the proof: walks of functions and plain laws. -/
import Derived.Test.YtgmdpppljkmabaaGreatQ0
import Derived.Test.YtgmdpppljkmabaaGreatQ24
import Derived.Test.YtgmdpppljkmabaaGreatQ23
import Derived.Test.YtgmdpppljkmabaaGreatQ27
import Derived.Test.YtgmdpppljkmabaaGreatQ22
import Derived.Deep.CutBlock
set_option maxRecDepth 100000
set_option maxHeartbeats 16000000
namespace Go.Proofs.YtgmdpppljkmabaaGreat
open Go Go.RowKit
theorem fnProofLabels_walk (w:World) (v1:Value) (L1:Nat) (h1:OM w v1 L1) (v2:Value) (L2:Nat) (h2:OM w v2 L2):
  Calls Tryz.prog 5 #[v1,v2] w fun e w'=>e=.returned (.bool true)/\Below w.heap.size w w':=by
 obtain⟨A1,a1,WG,rN,rM,-⟩:=id h1;obtain⟨A2,a2,Zn,lL,fJ,-⟩:=id h2;subst WG Zn;unfold maxLen at rM fJ;have H1:=zh h1;have H2:=zh h2;clear h1 h2
 go_enter Tryz.func5,Tryz.ntmps5
 go_wp2_with fail;refine(SA A1 A2 L1 a1 L2 a2 w (by omega) (by omega)).mono ?_;rintro e wz ⟨rfl,rfl⟩;cases hb:LI L1 L2
 rotate_left
 ·go_wp2;go_ret;exact⟨rfl,Below.refl _ _⟩
 have hL:L1<=1048576/\L2<=1048576:=by
  unfold LI at hb;simp at hb
  omega
 go_wp2_with fail;refine(oM _ L1 w H1.out hL.1).mono ?_;rintro e w1 ⟨ve,vi,vn,N,S,sx,rfl,ho,s_,Fe,ay⟩;obtain⟨D0,d0,rfl,-,ad_,-⟩:=id ho.read.1;obtain⟨D1,d1,rfl,-,-,-⟩:=id ho.read.2.1;obtain⟨D2,d2,rfl,-,-,-⟩:=id ho.read.2.2;obtain⟨w2,gR⟩:∃z,z=w1.alloc (.cells #[.slice D0 N.ends.length d0,.slice D1 N.ids.length d1,.slice D2 N.aea.length d2] 27):=⟨_,rfl⟩
 obtain⟨pb,gG⟩:∃z,z=w1.heap.size:=⟨_,rfl⟩
 have lJ:aa w1 w2:=by rw[gR];exact ag _ (ad _)
 have fe:bD w2 pb (.slice D0 N.ends.length d0) (.slice D1 N.ids.length d1) (.slice D2 N.aea.length d2):=by rw[gR,gG];exact bD.new _ _ _ _ _
 have hN:=ho.read.keep lJ.below;have HN:=zh (show ∀W,aa w2 W->aQ W (.slice D0 N.ends.length d0) (.slice D1 N.ids.length d1) (.slice D2 N.aea.length d2) N from fun W hW=>hN.keep hW.below)
 have Xt:=zh (ae fe.cells.1);have Xu:=zh (ae fe.cells.2.1);have Xv:=zh (ae fe.cells.2.2.1);have Hww:Hid (Below w.heap.size w w2):=Below.trans ay (lJ.below.mono ay.size);have nX:=zh gR;have ft:=zh gG;have jF:=zh s_.small.sz;obtain⟨PP,Sa⟩:∃z,z=aD N sx:=⟨_,rfl⟩
 obtain⟨pr,Pu⟩:∃z,z=aJ N sx:=⟨_,rfl⟩
 obtain⟨q0,nZ⟩:∃z,z=aB N sx:=⟨_,rfl⟩
 obtain⟨q1,oC⟩:∃z,z=aC N sx:=⟨_,rfl⟩
 have abh:pr=(q1&&q0):=by rw[Pu,nZ,oC];exact V6 N sx
 have hPl:PP.length<=100:=by rw[Sa];exact AM _ _
 obtain⟨pl,hpe⟩:∃z,PP.length=z:=⟨_,rfl⟩
 have Xw:=zh hpe;have d_:aa w2 w2:=ad _
 have HcI:Hid (∀W,aa w2 W->Calls Tryz.prog 25 #[.agg #[.slice D0 N.ends.length d0,.slice D1 N.ids.length d1,.slice D2 N.aea.length d2],.int .i64 sx] W fun e w'=>∃u,e=.returned (.tuple #[u,.bool pr])/\Own w' W.heap.size u PP/\Below W.heap.size W w'):=fun W hW=>by
  have lT:=lS _ _ _ N sx W (HN.out W hW) (by omega) jF.out;rw[<- Sa,<- Pu]at lT;exact lT
 have HcS:Hid (∀W,aa w2 W->Calls Tryz.prog 33 #[.agg #[.slice D0 N.ends.length d0,.slice D1 N.ids.length d1,.slice D2 N.aea.length d2],.int .i64 sx] W fun e w'=>∃u,e=.returned (.tuple #[u,.bool pr])/\Own w' W.heap.size u PP/\Below W.heap.size W w'):=fun W hW=>by
  have lT:=iw _ _ _ N sx W (HN.out W hW) (by omega) jF.out;rw[<- Sa,<- Pu]at lT;exact lT
 have HhI:Hid (∀W,aa w2 W->Calls Tryz.prog 23 #[.agg #[.slice D0 N.ends.length d0,.slice D1 N.ids.length d1,.slice D2 N.aea.length d2],.int .i64 sx] W fun e w'=>e=.returned (.tuple #[.bool q0,.bool q1])/\Below W.heap.size W w'):=fun W hW=>by
  have lT:=fY _ _ _ N sx W (HN.out W hW) (by omega) jF.out;rw[<- nZ,<- oC]at lT;exact lT
 have HhS:Hid (∀W,aa w2 W->Calls Tryz.prog 34 #[.agg #[.slice D0 N.ends.length d0,.slice D1 N.ids.length d1,.slice D2 N.aea.length d2],.int .i64 sx] W fun e w'=>e=.returned (.tuple #[.bool q0,.bool q1])/\Below W.heap.size W w'):=fun W hW=>by
  have lT:=jk _ _ _ N sx W (HN.out W hW) (by omega) jF.out;rw[<- nZ,<- oC]at lT;exact lT
 have HPl:Hid (pr=true->aaP N sx PP):=fun h=>by rw[Sa];exact aaQ (Pu.symm.trans h)
 have JG:=zh Fe;have abi:=zh abh;clear ho s_ ay gR gG lJ fe hN Sa Pu nZ oC Fe abh hpe;go_upto_region 4 with(fail);rw[<- nX.out,<- ft.out];have p0:=Xt.out w2 d_;have p1:=Xu.out w2 d_;have p2:=Xv.out w2 d_;go_wp2_with fail;refine(HcI.out w2 d_).mono ?_;rintro e w3 ⟨u3,rfl,eH,bN⟩;obtain⟨Q3,q3,rfl,-,ado,-⟩:=id eH.ints;have ew:=zh (show aa w2 w3 from bN);have HI:=zh (show ∀W,aa w3 W->aY W (.slice Q3 PP.length q3) PP from fun W hW=>eH.ints.keep hW.below)
 clear p0 p1 p2 eH bN d_;rw[Xw.out]at HI ⊢;have p0:=Xt.out w3 ew.out;have p1:=Xu.out w3 ew.out;have p2:=Xv.out w3 ew.out;go_wp2_with fail;refine(HcS.out w3 ew.out).mono ?_;rintro e w4 ⟨u4,rfl,oH,tn⟩;obtain⟨Q4,q4,rfl,-,adp,-⟩:=id oH.ints;have adq:=zh (show aa w3 w4 from tn);have mG:=zh (ew.out.after (show aa w3 w4 from tn));have HI4:=zh (show ∀W,aa w4 W->aY W (.slice Q4 PP.length q4) PP from fun W hW=>oH.ints.keep hW.below)
 clear p0 p1 p2 oH tn;rw[Xw.out]at HI4 ⊢;have p0:=Xt.out w4 mG.out;have p1:=Xu.out w4 mG.out;have p2:=Xv.out w4 mG.out;go_wp2_with fail;refine(HhI.out w4 mG.out).mono ?_;rintro e w5 ⟨rfl,kT⟩;have nl:=zh (mG.out.after (show aa w4 w5 from kT));have adr:=zh (adq.out.after (show aa w4 w5 from kT));have Wa:=zh (show aa w4 w5 from kT);clear p0 p1 p2 kT;have p0:=Xt.out w5 nl.out;have p1:=Xu.out w5 nl.out;have p2:=Xv.out w5 nl.out;go_wp2_with fail;refine(HhS.out w5 nl.out).mono ?_;rintro e w6 ⟨rfl,Fm⟩;have Wz:=zh (adr.out.after (show aa w5 w6 from Fm));have abj:=zh (Wa.out.after (show aa w5 w6 from Fm));clear p0 p1 p2 Fm;unfold maxLen at ado adp;go_upto_region 8 with(fail)
 go_cut [97]from 71 to 97 (fun t wx=>t=.bool false/\aa w6 wx)
 case first=>
  cases q1
  ·have I7:=abi.out;rw[Bool.false_and]at I7;subst I7;go_wp2_with fail;refine(mA _ _ PP w6 (HI.out w6 Wz.out) (HI4.out w6 abj.out)).mono ?_;rintro e w7 ⟨rfl,xU⟩;have FT:=zh (show aa w6 w7 from xU);clear xU;go_wp2;go_meet
   case rel=>exact⟨by first | rfl | simp,FT.out⟩
  ·have I7:=abi.out;rw[Bool.true_and]at I7;subst I7;go_wp2_with fail;refine(mA _ _ PP w6 (HI.out w6 Wz.out) (HI4.out w6 abj.out)).mono ?_;rintro e w7 ⟨rfl,xU⟩;have FT:=zh (show aa w6 w7 from xU);clear xU;go_wp2;go_meet
   case rel=>exact⟨by first | rfl | simp,FT.out⟩
 case rest=>
 obtain⟨rfl,abk⟩:=hcut;obtain⟨w7,rfl⟩:∃z,z=wc:=⟨_,rfl⟩
 have WA:=zh (Wz.out.after abk);clear abk
 go_upto_if 98 with(fail)
 go_cut []from 15 to 202 (fun wx=>aa w2 wx)
 case first=>
  have PV:=zh (ew.out.after WA.out);cases pr
  ·go_wp2;go_meet
   case rel=>exact PV.out
  have qH:=HPl.out rfl;obtain⟨kb,abl,abm,abn,abo⟩:=qH.bits;obtain⟨ac1,ac2⟩:=qH.acc;have Ei:=zh qH.own;have WB:=zh qH.parts
  have hc:=jA _ _ _ N sx _ PP w7 (HN.out w7 PV.out) (by have:=JG.out;omega) (HI.out w7 WA.out) jF.out (by omega)
  rw[ac1,ac2]at hc
  have x_:0<pl:=by rw[<- Xw.out];exact qH.pos
  have ads:pl<=100:=by rw[<- Xw.out];exact hPl
  have HcB:Hid (∀W,aa w3 W->Calls Tryz.prog 35 #[.slice Q3 pl q3] W fun e w'=>e=.returned (.tuple #[.int .i64 (kb:Int),.bool true])/\Below W.heap.size W w'):=fun W hW=>by
   have km:=Cj aaU _ PP W (HI.out W hW);rw[abl]at km;exact km
  have Hc:=zh hc;have Hkb:=zh (And.intro abm (And.intro abn abo));clear qH abl abm abn abo ac1 ac2 hc HI4 hPl;have p0:=Xt.out w7 PV.out;have p1:=Xu.out w7 PV.out;have p2:=Xv.out w7 PV.out;go_wp2_with fail;refine Hc.out.mono ?_;rintro e w8 ⟨rfl,Ef⟩;have kt:=zh (WA.out.after (show aa w7 w8 from Ef));clear p0 p1 p2 Ef Hc;go_wp2_with fail;refine(HcB.out w8 kt.out).mono ?_;rintro e w9 ⟨rfl,km⟩;have z7:=zh (kt.out.after (show aa w8 w9 from km));clear km;go_upto_region 13 with(fail)
  go_cut [140]from 111 to 140 (fun t wx=>t=.bool false/\wx=w9)
  case first=>
   have WC:=Hkb.out.1;have e1:((32:Int)<(kb:Int))=False:=eq_false (by omega);have e1n:(32<kb)=False:=eq_false (by omega)
   by_cases h1:sx=1
   ·have g1:(sx==1)=true:=by simp[h1]
    have g2:(sx==2)=false:=by simp[h1]
    have lc:=Hkb.out.2.1 h1;have e2:((1:Int)<(kb:Int))=False:=eq_false (by omega);have e2n:(1<kb)=False:=eq_false (by omega);clear h1 lc WC;go_wp2;go_meet
    case rel=>exact⟨by first | rfl | simp,rfl⟩
   ·have g1:(sx==1)=false:=by simp[h1]
    by_cases h2:sx=2
    ·have g2:(sx==2)=true:=by simp[h2]
     have nY:=Hkb.out.2.2 h2;have e2:((2:Int)<(kb:Int))=False:=eq_false (by omega);have e2n:(2<kb)=False:=eq_false (by omega);clear h1 h2 nY WC;go_wp2;go_meet
     case rel=>exact⟨by first | rfl | simp,rfl⟩
    ·have g2:(sx==2)=false:=by simp[h2]
     clear h1 h2 WC;go_wp2;go_meet
     case rel=>exact⟨by first | rfl | simp,rfl⟩
  case rest=>
  obtain⟨dS,ks⟩:=hcut;subst dS;have qf:=ks.symm;clear ks;subst qf;go_wp2_with fail;refine(Cq _ L2 w9 (H2.out.keep (Below.trans Hww.out ((ew.out.after z7.out).below.mono Hww.out.size))) hL.2).mono ?_;rintro e w' ⟨⟨x,rfl,hx⟩,rfl⟩;obtain⟨v,hv⟩:∃v:Nat,v=x%pl:=⟨_,rfl⟩
  have hvl:v<pl:=by rw[hv];exact Nat.mod_lt _ x_
  have m5:((x:Int)).tmod (pl:Int)=(v:Int):=by rw[hv,Int.tmod_eq_emod_of_nonneg (by omega)];simp
  have m6:((x:Int))%(pl:Int)=(v:Int):=by rw[hv];simp
  have m7:IntKind.i64.wrap (v:Int)=(v:Int):=aF _ (by omega) (by omega)
  have m8:((pl:Int)=0)=False:=by simp;omega
  have m9:(pl=0)=False:=by simp;omega
  obtain⟨y,hy⟩:=aM PP v (by rw[Xw.out];exact hvl)
  obtain⟨o1,o2⟩:=Ei.out v y hy;obtain⟨pt1,pt2⟩:=WB.out v y hy;obtain⟨AD,hAD⟩:∃z,z=bJ N sx PP (v:Int) 1000:=⟨_,rfl⟩
  rw[<- hAD]at o2
  have Rs:=lH _ _ _ N sx _ PP (v:Int) 1000 w9 (HN.out w9 (ew.out.after z7.out)) (by have:=JG.out;omega) (HI.out w9 z7.out) (by omega) (by omega) jF.out (by rw[Xw.out];omega)
  rw[o1,<- hAD]at Rs;obtain⟨AP,hAP⟩:∃z,z=(Lv sx y).1:=⟨_,rfl⟩
  have HcP:Hid (∀W,Calls Tryz.prog 38 #[.int .i64 sx,.int .i64 y] W fun e w'=>∃u,e=.returned (.tuple #[u,.bool true])/\Own w' W.heap.size u AP/\Below W.heap.size W w'):=fun W=>by
   have h9:=R9 sx y W;rw[pt1,<- hAP]at h9;exact h9
  rw[<- hAP]at pt2
  have HcL:Hid (∀W u,aY W u AP->Calls Tryz.prog 39 #[.int .i64 sx,u] W fun e w'=>e=.returned (.tuple #[.int .i64 y,.bool true])/\Below W.heap.size W w'):=fun W u hu=>by
   have h9:=Lu u sx AP W hu;rw[pt2]at h9;exact h9
  have Xg:=zh Rs;have vd:=zh o2;have Hy:=zh hy;have fj:=HI.out w9 z7.out;obtain⟨Aq,cq,eq,-,-,hA⟩:=fj;obtain⟨bq,oq,uq,d9⟩:=hA v y hy
  injection eq with eq1 eq2 eq3
  subst eq1;subst uq;have HCL:=zh (ae d9);have hv9:=zh hv;clear hx hv hy o1 o2 pt1 pt2 hAD Rs hAP hA d9 eq2 eq3;have p0:=Xt.out w9 (ew.out.after z7.out);have p1:=Xu.out w9 (ew.out.after z7.out);have p2:=Xv.out w9 (ew.out.after z7.out);go_wp2_with fail;refine Xg.out.mono ?_;rintro e wA ⟨uA,rfl,hoA,PZ⟩;obtain⟨QA,qA,rfl,-,adt,-⟩:=id hoA.ints;have abp:=zh (show aa w9 wA from PZ);have HIA:=zh (show ∀W,aa wA W->aY W (.slice QA AD.length qA) AD from fun W hW=>hoA.ints.keep hW.below)
  clear p0 p1 p2 hoA PZ Xg;have cA:=HCL.out wA abp.out;go_wp2_with fail;refine(HcP.out wA).mono ?_;rintro e wB ⟨uB,rfl,hoB,JN⟩;obtain⟨QB,qB,rfl,-,adu,-⟩:=id hoB.ints;have adv:=zh (abp.out.after (show aa wA wB from JN));have adw:=zh (show aa wA wB from JN);have HIB:=zh hoB.ints;clear cA hoB JN;go_wp2_with fail;refine(HcL.out wB _ HIB.out).mono ?_;rintro e wC ⟨rfl,IF⟩;have abq:=zh (adv.out.after (show aa wB wC from IF));have adx:=zh (adw.out.after (show aa wB wC from IF));have HsF:=zh (ew.out.after (z7.out.after abq.out));clear IF;have cC:=HCL.out wC abq.out;unfold maxLen at adt adu
  by_cases Jv:y<=1000
  ·have e1:(y<=1000)=True:=eq_true Jv;have hq:=Se _ AD y wC (HIA.out wC adx.out);rw[Sf (vd.out Jv)]at hq;have Hq:=zh hq;clear Jv hq;go_wp2_with fail;refine Hq.out.mono ?_;rintro e wD ⟨rfl,rfl⟩;go_wp2;go_meet
   case rel=>exact HsF.out
  ·have e1:(y<=1000)=False:=eq_false Jv;clear Jv;go_wp2;go_meet
   case rel=>exact HsF.out
 case rest=>
  have Hc:=zh (show aa w2 wc from hcut);have hwc:Below w.heap.size w wc:=Below.trans Hww.out (Hc.out.below.mono Hww.out.size);have Hwc:=zh hwc;clear hcut hwc;go_wp2_with fail;refine(rH _ L2 wc (H2.out.keep Hwc.out) hL.2).mono ?_;rintro e w5' ⟨ve,vi,vn,M,SM,um,ls,sm,rfl,ho,abr,Fb,zx,Jo,kT⟩;obtain⟨X0,x0,rfl,-,-,-⟩:=id ho.read.1;obtain⟨X1,x1,rfl,-,-,-⟩:=id ho.read.2.1;obtain⟨X2,x2,rfl,-,-,-⟩:=id ho.read.2.2;obtain⟨AU,cU,rfl,-,hmU,-⟩:=id zx.ints;have hM5:=ho.read;have hU5:=zx.ints;obtain⟨wb,hwb⟩:∃z,z=w5'.alloc (.cells #[.slice X0 M.ends.length x0,.slice X1 M.ids.length x1,.slice X2 M.aea.length x2] 27):=⟨_,rfl⟩
  obtain⟨pm,TM⟩:∃z,z=w5'.heap.size:=⟨_,rfl⟩
  have SB:aa w5' wb:=by rw[hwb];exact ag _ (ad _)
  have JJ:bD wb pm (.slice X0 M.ends.length x0) (.slice X1 M.ids.length x1) (.slice X2 M.aea.length x2):=by rw[hwb,TM];exact bD.new _ _ _ _ _
  have Hwb:=zh hwb;have Hpm:=zh TM;have abs:=ae JJ.cells.1;have abt:=ae JJ.cells.2.1;have abu:=ae JJ.cells.2.2.1;have rI:=zh (And.intro abs (And.intro abt abu));clear hwb TM JJ abs abt abu;have hMb:=hM5.keep SB.below;have hUb:=hU5.keep SB.below;have HM:=zh (show ∀W,aa wb W->aQ W (.slice X0 M.ends.length x0) (.slice X1 M.ids.length x1) (.slice X2 M.aea.length x2) M from fun W hW=>hMb.keep hW.below)
  have HU:=zh (show ∀W,aa wb W->aY W (.slice AU ls.length cU) ls from fun W hW=>hUb.keep hW.below)
  have K3:Hid (Below w.heap.size w wb):=Below.trans Hwc.out ((Below.trans kT (SB.below.mono kT.size)).mono Hwc.out.size);have PW:=zh abr.small.sz;obtain⟨la,Ke⟩:∃z,z=cD M sm ls:=⟨_,rfl⟩
  obtain⟨ia,Xx⟩:∃z,z=aG M sm ls:=⟨_,rfl⟩
  obtain⟨RJ,hRJ⟩:∃z,z=aI M sm ls:=⟨_,rfl⟩
  obtain⟨h0,hh0⟩:∃z,z=aB M sm:=⟨_,rfl⟩
  obtain⟨h1,K5⟩:∃z,z=aC M sm:=⟨_,rfl⟩
  have hls:ls.length<=1048576:=by omega
  have HaI:Hid (∀W,aa wb W->Calls Tryz.prog 24 #[.agg #[.slice X0 M.ends.length x0,.slice X1 M.ids.length x1,.slice X2 M.aea.length x2],.int .i64 sm,.slice AU ls.length cU] W fun e w'=>e=.returned (.tuple #[.bool ia,.bool la])/\Below W.heap.size W w'):=fun W hW=>by
   have lT:=jA _ _ _ M sm _ ls W (HM.out W hW) (by omega) (HU.out W hW) PW.out hls;rw[<- Xx,<- Ke]at lT;exact lT
  have HaS:Hid (∀W,aa wb W->Calls Tryz.prog 42 #[.agg #[.slice X0 M.ends.length x0,.slice X1 M.ids.length x1,.slice X2 M.aea.length x2],.int .i64 sm,.slice AU ls.length cU] W fun e w'=>e=.returned (.tuple #[.bool ia,.bool la])/\Below W.heap.size W w'):=fun W hW=>by
   have lT:=nK _ _ _ M sm _ ls W (HM.out W hW) (by omega) (HU.out W hW) PW.out hls;rw[<- Xx,<- Ke]at lT;exact lT
  have HrI:Hid (∀W,aa wb W->Calls Tryz.prog 15 #[.agg #[.slice X0 M.ends.length x0,.slice X1 M.ids.length x1,.slice X2 M.aea.length x2],.int .i64 sm,.slice AU ls.length cU] W fun e w'=>∃u,e=.returned (.tuple #[u,.bool la])/\Own w' W.heap.size u RJ/\Below W.heap.size W w'):=fun W hW=>by
   have lT:=lv _ _ _ M sm _ ls W (HM.out W hW) (by omega) (HU.out W hW) PW.out hls;rw[<- hRJ,show aX M sm ls=la from Ke.symm]at lT;exact lT
  have HrS:Hid (∀W,aa wb W->Calls Tryz.prog 43 #[.agg #[.slice X0 M.ends.length x0,.slice X1 M.ids.length x1,.slice X2 M.aea.length x2],.int .i64 sm,.slice AU ls.length cU] W fun e w'=>∃u,e=.returned (.tuple #[u,.bool la])/\Own w' W.heap.size u RJ/\Below W.heap.size W w'):=fun W hW=>by
   have lT:=lu _ _ _ M sm _ ls W (HM.out W hW) (by omega) (HU.out W hW) PW.out hls;rw[<- hRJ,show aX M sm ls=la from Ke.symm]at lT;exact lT
  have HhM:Hid (∀W,aa wb W->Calls Tryz.prog 23 #[.agg #[.slice X0 M.ends.length x0,.slice X1 M.ids.length x1,.slice X2 M.aea.length x2],.int .i64 sm] W fun e w'=>e=.returned (.tuple #[.bool h0,.bool h1])/\Below W.heap.size W w'):=fun W hW=>by
   have lT:=fY _ _ _ M sm W (HM.out W hW) (by omega) PW.out;rw[<- hh0,<- K5]at lT;exact lT
  have HF1:Hid (la=false->ia=false):=fun h=>by
   rw[Xx];unfold aG;rw[show dY M sm ls=false from Ke.symm.trans h];rfl
  have HF2:Hid (la=true->ia=decide (RJ.length=0)):=fun h=>by rw[Xx,hRJ];exact V7 M sm ls (show aX M sm ls=true from Ke.symm.trans h)
  have HF3:Hid (ia=true->h1=true->h0=true):=fun h h'=>by rw[hh0];exact Pr (Xx.symm.trans h) (K5.symm.trans h')
  have uY:RJ.length<=1048576:=by
   rw[hRJ];unfold aI
   split
   ·exact Nat.le_trans (QZ _ _ _) hls
   ·exact Nat.zero_le _
  have Gh:aa wb wb:=ad _;clear ho hM5 kT abr Fb zx Jo Ke Xx hRJ hh0 K5 SB hMb hUb hU5;unfold maxLen at hmU;go_upto_region 22 with(fail);rw[<- Hwb.out,<- Hpm.out];have p0:=rI.out.1 wb Gh;have p1:=rI.out.2.1 wb Gh;have p2:=rI.out.2.2 wb Gh;go_wp2_with fail;refine(HaI.out wb Gh).mono ?_;rintro e wA ⟨rfl,PZ⟩;have Tg:=zh (show aa wb wA from PZ);clear p0 p1 p2 PZ Gh;have p0:=rI.out.1 wA Tg.out;have p1:=rI.out.2.1 wA Tg.out;have p2:=rI.out.2.2 wA Tg.out;go_wp2_with fail;refine(HaS.out wA Tg.out).mono ?_;rintro e wB ⟨rfl,JN⟩;have HsB:=zh (Tg.out.after (show aa wA wB from JN));clear p0 p1 p2 JN;have p0:=rI.out.1 wB HsB.out;have p1:=rI.out.2.1 wB HsB.out;have p2:=rI.out.2.2 wB HsB.out;go_wp2_with fail;refine(HrI.out wB HsB.out).mono ?_;rintro e wC ⟨uC,rfl,hoC,IF⟩;obtain⟨QC,qC,rfl,-,ady,-⟩:=id hoC.ints;have HsC:=zh (HsB.out.after (show aa wB wC from IF));have HIC:=zh (show ∀W,aa wC W->aY W (.slice QC RJ.length qC) RJ from fun W hW=>hoC.ints.keep hW.below)
  clear p0 p1 p2 IF hoC;have p0:=rI.out.1 wC HsC.out;have p1:=rI.out.2.1 wC HsC.out;have p2:=rI.out.2.2 wC HsC.out;go_wp2_with fail;refine(HrS.out wC HsC.out).mono ?_;rintro e wD ⟨uD,rfl,hoD,hbD⟩;obtain⟨QD,qD,rfl,-,adz,-⟩:=id hoD.ints;have HsD:=zh (HsC.out.after (show aa wC wD from hbD));have adA:=zh (show aa wC wD from hbD);have HID:=zh (show ∀W,aa wD W->aY W (.slice QD RJ.length qD) RJ from fun W hW=>hoD.ints.keep hW.below)
  clear p0 p1 p2 hbD hoD;unfold maxLen at ady adz;obtain⟨rl,qT⟩:∃z,RJ.length=z:=⟨_,rfl⟩
  rw[qT]at HIC HID HF2 uY ⊢;have Hrl:=zh qT;clear qT;go_upto_region 26 with(fail)
  go_cut [265]from 237 to 265 (fun t wx=>t=.bool false/\aa wD wx)
  case first=>
   have hsi:=mA _ _ RJ wD (HIC.out wD adA.out) (HID.out wD (ad _));have Hsi:=zh hsi;clear hsi;cases la
   ·have hf:=HF1.out rfl;subst hf;go_wp2_with fail;refine Hsi.out.mono ?_;rintro e wE ⟨rfl,TZ⟩;have PX:=zh (show aa wD wE from TZ);clear TZ;go_wp2;go_meet
    case rel=>exact⟨by first | rfl | simp,PX.out⟩
   ·by_cases hr:rl=0
    ·have hf:ia=true:=by rw[HF2.out rfl];simp[hr]
     subst hf hr;go_wp2_with fail;refine Hsi.out.mono ?_;rintro e wE ⟨rfl,TZ⟩;have PX:=zh (show aa wD wE from TZ);clear TZ;go_wp2;go_meet
     case rel=>exact⟨by first | rfl | simp,PX.out⟩
    ·have hf:ia=false:=by rw[HF2.out rfl];simp[hr]
     subst hf;have g1:((rl:Int)==0)=false:=by simp[hr]
     go_wp2_with fail;refine Hsi.out.mono ?_;rintro e wE ⟨rfl,TZ⟩;have PX:=zh (show aa wD wE from TZ);clear TZ;go_wp2;go_meet
     case rel=>exact⟨by first | rfl | simp,PX.out⟩
  case rest=>
  obtain⟨rfl,EO⟩:=hcut;obtain⟨wE,rfl⟩:∃z,z=wc:=⟨_,rfl⟩
  have PX:=zh (HsD.out.after EO);have HbE:Hid (Below w.heap.size w wE):=Below.trans K3.out (PX.out.below.mono K3.out.size);clear EO;cases ia
  ·go_wp2;go_ret;exact⟨rfl,HbE.out⟩
  ·have p0:=rI.out.1 wE PX.out;have p1:=rI.out.2.1 wE PX.out;have p2:=rI.out.2.2 wE PX.out;go_wp2_with fail;refine(HhM.out wE PX.out).mono ?_;rintro e wF ⟨rfl,hbF⟩;have HbF:Hid (Below w.heap.size w wF):=Below.trans HbE.out (Below.mono hbF HbE.out.size);clear p0 p1 p2 hbF;cases h1
   ·go_wp2;go_ret;exact⟨by first | rfl | simp,HbF.out⟩
   ·have hf:h0=true:=by
     have h9:=HF3.out;simpa using h9
    subst hf;go_wp2;go_ret;exact⟨by first | rfl | simp,HbF.out⟩
end Go.Proofs.YtgmdpppljkmabaaGreat
