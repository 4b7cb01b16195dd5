/- Parts of the proof: walks of functions and plain laws. -/
import Derived.Test.YtgmdpppljkmabaaGreatQ0
import Derived.Test.YtgmdpppljkmabaaGreatQ19
import Derived.Test.YtgmdpppljkmabaaGreatQ22
import Derived.Test.YtgmdpppljkmabaaGreatQ4
import Derived.Test.YtgmdpppljkmabaaGreatQ23
set_option maxRecDepth 100000
set_option maxHeartbeats 16000000
namespace Go.Proofs.YtgmdpppljkmabaaGreat
open Go Go.RowKit
theorem V8 {ps:List Int} (h:ps.length=4):∃a b c d,ps=[a,b,c,d]:=by
 match ps,h with
 | [a,b,c,d],_=>exact⟨a,b,c,d,rfl⟩
theorem Ps (s:Int) (hs:s=4\/s=5) (v:Value) (ps:List Int) (w:World) (h:aY w v ps) (hl:ps.length=(aH s).length+1):
  Calls Tryz.prog 167 #[.int .i64 s,v] w fun e w'=>(∃x:Int,e=.returned (.int .i64 x))/\Below w.heap.size w w':=by
 rcases hs with rfl | rfl
 ·obtain⟨a,b,rfl⟩:=TU (ps:=ps) (by simpa[aH]using hl);exact OP v a b w h
 ·obtain⟨a,b,c,d,rfl⟩:=V8 (ps:=ps) (by simpa[aH]using hl);exact OO v a b c d w h
theorem az.aeN {w:World} {B:Nat} {ve vi vn:Value} {n:ak} {S:List Nat} (h:az w B ve vi vn n S):Own w B vi n.ids:=by
 obtain⟨S1,S2,S3,-,h2,-⟩:=h;exact h2.1
def acQ (cb B:Nat) (A:Option Addr) (L c P:Nat) (w:World) (e:Ending) (w':World):Prop:=
 ∃u ls,e=.returned u/\Own w' B u ls/\ls.length<=200/\dm w' cb A L c P/\CB cb B w w'
theorem Pt (cb:Nat) (A:Option Addr) (L c P Bn:Nat) (ve vi vn:Value) (n:ak) (Sn:List Nat) (s:Int) (w:World) (hc:dm w cb A L c P) (hP:P<=4000000000000000000) (ho:az w Bn ve vi vn n Sn) (kD:cb<Bn) (s_:Bd n) (hs : -9223372036854775808<=s/\s<=9223372036854775807):
  Calls Tryz.prog 116 #[.pointer (some ⟨cb,0,none⟩),.agg #[ve,vi,vn],.int .i64 s] w (acQ cb w.heap.size A L c (P+10000) w):=by
 have ja:=hc.lt;have hi:=ho.aeN;obtain⟨A0,c0,rfl,-,y5,-⟩:=id ho.read.1;obtain⟨AI,c2,rfl,-,rM,-⟩:=id ho.read.2.1;obtain⟨AN,cN,rfl,-,fJ,-⟩:=id ho.read.2.2;obtain⟨w0,cG⟩:∃z,z=w.alloc (.cells #[.slice A0 n.ends.length c0,.slice AI n.ids.length c2,.slice AN n.aea.length cN] 27):=⟨_,rfl⟩
 obtain⟨pb,gG⟩:∃z,z=w.heap.size:=⟨_,rfl⟩
 have bB:aa w w0:=by rw[cG];exact ag _ (ad _)
 have il:w0.heap.size=w.heap.size+1:=by rw[cG];simp
 have fe:bD w0 pb (.slice A0 n.ends.length c0) (.slice AI n.ids.length c2) (.slice AN n.aea.length cN):=by rw[cG,gG];exact bD.new _ _ _ _ _
 have iN:pb≠cb:=by omega
 have Y0:=aA fe.cells.1 iN;have Y1:=aA fe.cells.2.1 iN;have HN:Hid (∀W,eF cb w0 W->aQ W (.slice A0 n.ends.length c0) (.slice AI n.ids.length c2) (.slice AN n.aea.length cN) n):=fun W hW=>((ho.keep bB.below).seen hW kD).read
 have HO:Hid (∀W,eF cb w0 W->Own W Bn (.slice AI n.ids.length c2) n.ids):=fun W hW=>Own.seen (Own.since hi bB) hW kD
 have lC:=zh bB;have mX:=zh il;have CF:=zh fe;have bK:=zh cG;have ft:=zh gG;have HY0:=zh Y0;have HY1:=zh Y1;have GV:=zh (hc.since bB);have Mi:=zh s_;have jF:=zh s_.small.sz;have gM:n.ends.length<=100:=s_.ends;have yn:cb<w0.heap.size:=by omega
 have acR:eF cb w0 w0:=eF.refl _ _;have uy:=iw _ _ _ n s w0 (HN.out w0 acR) hs jF.out;obtain⟨PP,Sa⟩:∃z,z=aD n s:=⟨_,rfl⟩
 obtain⟨pr,Pu⟩:∃z,z=aJ n s:=⟨_,rfl⟩
 have hPl:PP.length<=100:=by rw[Sa];exact AM _ _
 rw[<- Sa,<- Pu]at uy;have Hcc:=zh uy;clear hc ho hi bB il fe cG gG s_ uy Sa Pu Y0 Y1 y5 rM fJ
 go_enter Tryz.func116,Tryz.ntmps116
 go_upto_region 2 with(fail);rw[<- bK.out,<- ft.out];obtain⟨k0,k1,k2,-,-,-⟩:=CF.out.cells;go_wp2_with fail;refine Hcc.out.mono ?_;rintro e w1 ⟨u1,rfl,dT,ay⟩;obtain⟨A1,c1,rfl,-,rM,-⟩:=id dT.ints;have V9:Hid (eF cb w0 w1):=CB.of ay;have lD:=zh (GV.out.since ay);have rP:=zh dT;clear dT ay k0 k1 k2 Hcc;go_upto_region 3 with(fail)
 go_cut [24]from 19 to 24 (fun t wx=>∃b:Bool,t=.bool b/\dm wx cb A L c (P+2)/\eF cb w0 wx/\Own wx w0.heap.size (.slice A1 PP.length c1) PP)
 case first=>
  cases pr
  ·go_wp2;go_meet
   case rel=>exact⟨_,rfl,lD.out.mono (by omega),V9.out,rP.out⟩
  ·go_wp2_with fail;refine(mT cb A L c P 4 w1 lD.out (by omega) (by omega)).mono ?_;rintro e w2 ⟨b,rfl,mv,qp⟩;have sK:=zh mv;have qh:=zh (V9.out.trans qp);have eX:=zh (Own.seen rP.out qp yn);clear mv qp;go_wp2;go_meet
   case rel=>exact⟨_,by first | rfl | simp,sK.out,qh.out,eX.out⟩
 case rest=>
 obtain⟨b0,nu,fh,EO,qv⟩:=hcut;subst nu;obtain⟨w2,rfl⟩:∃z,z=wc:=⟨_,rfl⟩
 have sK:=zh fh;have qh:=zh EO;have eX:=zh qv;clear fh EO qv lD V9 rP
 go_upto_if 24 with(fail)
 go_cut [7,10,11]from 24 to 74 (fun l _ _ wx=>∃ls,Own wx w0.heap.size l ls/\ls.length<=100/\dm wx cb A L c (P+5000)/\eF cb w0 wx)
 case first=>
  cases b0
  rotate_left
  ·go_wp2_with fail;refine(mF _ PP w2 eX.out.ints (by omega)).mono ?_;rintro e w3 ⟨u3,rfl,eH,bN⟩;have i8:=zh (Own.mono eH qh.out.size);have acS:=zh (qh.out.after bN);have GS:=zh (sK.out.since bN);obtain⟨A3,c3,rfl,-,-,-⟩:=id eH.ints;clear eH bN;go_wp2;go_meet
   case rel=>exact⟨PP,i8.out,hPl,GS.out.mono (by omega),acS.out⟩
  ·have k0:=HY0.out w2 qh.out;go_upto_region 6 with(fail);clear k0
   go_loopw [7,30] (fun u i wr=>∃(k:Nat) (ls:List Int),k<=n.ends.length/\i=.int .i64 k/\Own wr w0.heap.size u ls/\ls.length=k/\dm wr cb A L c (P+2+20*k)/\eF cb w0 wr) (fun _ i _=>n.ends.length-(intOf i).toNat)
   case atStart=>exact⟨0,[],Nat.zero_le _,rfl,bH _ _,rfl,sK.out,qh.out⟩
   case round=>
    obtain⟨k,ls,hk,rfl,zx,Jo,fh,EO⟩:=hrel;obtain⟨AU,cU,rfl,-,-,-⟩:=id zx.ints;have Sb:=zh zx;have Vl:=zh Jo;have CP:=zh fh;have Xl:=zh EO;clear zx Jo fh EO
    by_cases hlt:k<n.ends.length
    ·have m3:IntKind.i64.wrap ((k:Int)+1)=(k:Int)+1:=aF _ (by omega) (by omega);go_wp2_with fail;refine(dJ cb A L c (P+2+20*k) 4 wr CP.out (by omega) (by omega)).mono ?_;rintro e w5 ⟨x,rfl,-,mZ,vC⟩;have If:=zh (Own.seen Sb.out vC yn);have zy:=zh (Xl.out.trans vC);obtain⟨P5,KX⟩:∃z,z=P+2+20*k+2:=⟨_,rfl⟩
     rw[<- KX]at mZ;have Cl:=zh mZ;have V_:=zh KX
     have Xm:Hid (P5<=4100000000000000000):=by show _<=_;omega
     clear mZ vC KX;go_upto_region 9 with(fail);have k0:=HY0.out w5 zy.out;have k1:=HY1.out w5 zy.out
     go_cut [49]from 35 to 49 (fun t wx=>∃b:Bool,t=.bool b/\(b=true->n.ids.length=n.ends.length/\(s=4\/s=5))/\wx=w5)
     case first=>
      by_cases h1:n.ids.length=n.ends.length
      ·have e1:((n.ids.length:Int)==(n.ends.length:Int))=true:=by simp[h1]
       have H1:=zh h1;clear h1
       by_cases h2:4<=s
       ·have e2:(4<=s)=True:=by simp[h2]
        go_wp2_with fail;refine(qW s _).mono ?_;rintro e w6 ⟨rfl,rfl⟩;obtain⟨bb,td⟩:∃z,z=ey 1 5 s:=⟨_,rfl⟩
        rw[<- td];have yM:=zh td;clear td;go_wp2;go_meet
        case rel=>exact⟨bb,rfl,fun h=>⟨H1.out,by have h9:=ap.1 (yM.out.symm.trans h);omega⟩,rfl⟩
       ·have e2:(4<=s)=False:=by simp;omega
        go_wp2;go_meet
        case rel=>exact⟨false,rfl,fun h=>by simp at h,rfl⟩
      ·have e1:((n.ids.length:Int)==(n.ends.length:Int))=false:=by simp;omega
       go_wp2;go_meet
       case rel=>exact⟨false,rfl,fun h=>by simp at h,rfl⟩
     case rest=>
     obtain⟨b1,ay,Do,hwx⟩:=hcut;subst ay;have acT:=hwx.symm;clear hwx;subst acT;have Hbi:=zh Do;clear Do k0 k1
     go_upto_if 49 with(fail)
     go_cut [11]from 49 to 67 (fun t wx=>∃x:Int,t=.int .i64 x/\dm wx cb A L c (P5+10)/\eF cb w5 wx)
     case first=>
      cases b1
      ·go_wp2;go_meet
       case rel=>exact⟨_,rfl,Cl.out.mono (by omega),eF.refl _ _⟩
      ·obtain⟨yE,RK⟩:=Hbi.out rfl;have Mx:0<n.ids.length:=by omega
       obtain⟨TV,jw⟩:=aM n.ids 0 Mx;have hOw:=HO.out w5 zy.out
       obtain⟨g2,rfl⟩:∃g2,AI=some ⟨g2,0,none⟩:=by
        rcases hOw.cases with⟨-,e1⟩ | ⟨gd,cd,hv,-,-⟩
        ·rw[e1]at Mx;simp at Mx
        ·cases hv;exact⟨gd,rfl⟩
       have lh:g2≠cb:=by have:=(World.ownsRow.lt hOw g2 rfl).1;omega
       have hce:=hOw.cell jw;have HY:Hid (∀W,C2 cb cb w5 W->W.cell? ⟨pb,1,none⟩=some (.slice (some ⟨g2,0,none⟩) n.ids.length c2)/\W.cell? ⟨g2,0,none⟩=some (.int .i64 TV)):=fun W hW=>⟨hW.cell (HY1.out w5 zy.out) iN iN,hW.cell hce lh lh⟩
       obtain⟨m,hm⟩:∃m,m=(aH s).length:=⟨_,rfl⟩
       have fB:m<=3:=by rw[hm];unfold aH;split <;> (try split) <;> simp
       obtain⟨m1,zb⟩:∃m1,m1=m+1:=⟨_,rfl⟩
       have Hm:=zh hm;have Hm1:=zh zb
       have acU:Hid (IntKind.i64.wrap ((m:Int)+1)=(m1:Int)):=by show _=_;rw[aF _ (by omega) (by omega)];omega
       have OX:Hid (m1<=4):=by show _<=_;omega
       have Hi0:=zh Mx;have Wa:=zh RK;have HBz:Hid (w5.heap.size<=w5.heap.size):=Nat.le_refl _;have E8:Hid (cb<w5.heap.size):=Cl.out.lt;clear yE RK jw hOw hce hm zb Mx;go_upto_region 10 with(fail);refine j3 19 [6,8,10,13,17] (RW [dM (.int .i64 s),dM (.pointer (some ⟨pb,1,none⟩)),dM (.slice (some ⟨g2,0,none⟩) n.ids.length c2),dM (.pointer (some ⟨g2,0,none⟩)),dM (.int .i64 TV),dM (.pointer (some ⟨cb,0,none⟩)),kn (3),dM (.pointer (some ⟨cb,0,none⟩)),kn (3),dM (.pointer (some ⟨cb,0,none⟩)),kn (2),rG w5.heap.size 4 4,dM (.int .i64 s),fun u _=>∃A' c',u=.slice A' m c',dM (.int .i64 (m:Int)),dM (.int .i64 (m1:Int)),rG w5.heap.size m1 4,zt,zt]) (lG cb A L c (P5) (2) w5) (C2 cb cb) (RW.rel ?_) (by kernel_rfl) (by kernel_rfl) (by kernel_rfl) (by decide) (by kernel_rfl) (lG.start Cl.out (aj (ad _))) ?_ ?_
       ·intro r hr;simp only[List.mem_cons,List.not_mem_nil,or_false]at hr;rcases hr with rfl | rfl | rfl | rfl | rfl | rfl | rfl | rfl | rfl | rfl | rfl | rfl | rfl | rfl | rfl | rfl | rfl | rfl | rfl
        ·exact fun _ _ _ _ h=>h
        ·exact fun _ _ _ _ h=>h
        ·exact fun _ _ _ _ h=>h
        ·exact fun _ _ _ _ h=>h
        ·exact fun _ _ _ _ h=>h
        ·exact fun _ _ _ _ h=>h
        ·exact fun _ _ _ _ h=>h
        ·exact fun _ _ _ _ h=>h
        ·exact fun _ _ _ _ h=>h
        ·exact fun _ _ _ _ h=>h
        ·exact fun _ _ _ _ h=>h
        ·exact rG.rel E8.out E8.out
        ·exact fun _ _ _ _ h=>h
        ·exact fun _ _ _ _ h=>h
        ·exact fun _ _ _ _ h=>h
        ·exact fun _ _ _ _ h=>h
        ·exact rG.rel E8.out E8.out
        ·exact fun _ _ _ _ h=>h
        ·exact fun _ _ _ _ h=>h
       ·intro i o hi ho V W q hq hr hd
        match i,ho with
        | 0,ho=>
         cases ho;clear hd hi hr;refine⟨rfl,?_⟩;simp only[aN,zR19,zG,zA]
         refine av (u:=.int .i64 s) (W':=W) (by go_simp) ⟨hq,C2.refl _ _ _,rfl⟩
        | 1,ho=>
         cases ho;clear hd hi hr;refine⟨rfl,?_⟩;simp only[aN,zR19,zG,zA]
         refine av (u:=.pointer (some ⟨pb,1,none⟩)) (W':=W) (by go_simp) ⟨hq,C2.refl _ _ _,rfl⟩
        | 2,ho=>
         cases ho;have e1:(dM (.pointer (some ⟨pb,1,none⟩))) (V 1) W:=hd 1 (by decide +kernel);clear hd hi hr;refine⟨rfl,?_⟩;simp only[aN,zR19,zG,zA]
         have e1:V 1=_:=e1;rw[e1];clear e1;have k1:=(HY.out W hq.rel).1;refine av (u:=.slice (some ⟨g2,0,none⟩) n.ids.length c2) (W':=W) (by go_simp) ⟨hq,C2.refl _ _ _,rfl⟩
        | 3,ho=>
         cases ho;have e2:(dM (.slice (some ⟨g2,0,none⟩) n.ids.length c2)) (V 2) W:=hd 2 (by decide +kernel);clear hd hi hr;refine⟨rfl,?_⟩;simp only[aN,zR19,zG,zA]
         have e2:V 2=_:=e2;rw[e2];clear e2;have Mx:=Hi0.out;refine av (u:=.pointer (some ⟨g2,0,none⟩)) (W':=W) (by go_simp) ⟨hq,C2.refl _ _ _,rfl⟩
        | 4,ho=>
         cases ho;have e3:(dM (.pointer (some ⟨g2,0,none⟩))) (V 3) W:=hd 3 (by decide +kernel);clear hd hi hr;refine⟨rfl,?_⟩;simp only[aN,zR19,zG,zA]
         have e3:V 3=_:=e3;rw[e3];clear e3;have k1:=(HY.out W hq.rel).2;refine av (u:=.int .i64 TV) (W':=W) (by go_simp) ⟨hq,C2.refl _ _ _,rfl⟩
        | 5,ho=>
         cases ho;clear hd hi hr;refine⟨rfl,?_⟩;simp only[aN,zR19,zG,zA]
         refine av (u:=.pointer (some ⟨cb,0,none⟩)) (W':=W) (by go_simp) ⟨hq,C2.refl _ _ _,rfl⟩
        | 6,ho=>
         cases ho;have e5:(dM (.pointer (some ⟨cb,0,none⟩))) (V 5) W:=hd 5 (by decide +kernel);have nZ:Hid (0=q):=hr 0 rfl;clear hd hi hr;refine⟨rfl,?_⟩;simp only[aN,zR19,zG,zA]
         have e5:V 5=_:=e5;rw[e5];clear e5;refine eM (f:=62) (args:=#[.pointer (some ⟨cb,0,none⟩),.int .i64 3]) (W':=W) (by go_simp) ?_
         refine(dJ cb A L c (P5+2*q) (3) W hq.cur (by have:=Xm.out;have:=nZ.out;omega) (by omega)).mono ?_
         rintro e W' ⟨z,rfl,hz,fh,hC⟩;exact⟨_,rfl,hq.call hC fh (by omega),C2.of hC,z,rfl,hz⟩
        | 7,ho=>
         cases ho;clear hd hi hr;refine⟨rfl,?_⟩;simp only[aN,zR19,zG,zA]
         refine av (u:=.pointer (some ⟨cb,0,none⟩)) (W':=W) (by go_simp) ⟨hq,C2.refl _ _ _,rfl⟩
        | 8,ho=>
         cases ho;have e7:(dM (.pointer (some ⟨cb,0,none⟩))) (V 7) W:=hd 7 (by decide +kernel);have nZ:Hid (1=q):=hr 1 rfl;clear hd hi hr;refine⟨rfl,?_⟩;simp only[aN,zR19,zG,zA]
         have e7:V 7=_:=e7;rw[e7];clear e7;refine eM (f:=62) (args:=#[.pointer (some ⟨cb,0,none⟩),.int .i64 3]) (W':=W) (by go_simp) ?_
         refine(dJ cb A L c (P5+2*q) (3) W hq.cur (by have:=Xm.out;have:=nZ.out;omega) (by omega)).mono ?_
         rintro e W' ⟨z,rfl,hz,fh,hC⟩;exact⟨_,rfl,hq.call hC fh (by omega),C2.of hC,z,rfl,hz⟩
        | 9,ho=>
         cases ho;clear hd hi hr;refine⟨rfl,?_⟩;simp only[aN,zR19,zG,zA]
         refine av (u:=.pointer (some ⟨cb,0,none⟩)) (W':=W) (by go_simp) ⟨hq,C2.refl _ _ _,rfl⟩
        | 10,ho=>
         cases ho;have e9:(dM (.pointer (some ⟨cb,0,none⟩))) (V 9) W:=hd 9 (by decide +kernel);have nZ:Hid (2=q):=hr 2 rfl;clear hd hi hr;refine⟨rfl,?_⟩;simp only[aN,zR19,zG,zA]
         have e9:V 9=_:=e9;rw[e9];clear e9;refine eM (f:=62) (args:=#[.pointer (some ⟨cb,0,none⟩),.int .i64 2]) (W':=W) (by go_simp) ?_
         refine(dJ cb A L c (P5+2*q) (2) W hq.cur (by have:=Xm.out;have:=nZ.out;omega) (by omega)).mono ?_
         rintro e W' ⟨z,rfl,hz,fh,hC⟩;exact⟨_,rfl,hq.call hC fh (by omega),C2.of hC,z,rfl,hz⟩
        | 11,ho=>
         cases ho;have e4:(dM (.int .i64 TV)) (V 4) W:=hd 4 (by decide +kernel);have e6:(kn (3)) (V 6) W:=hd 6 (by decide +kernel);have e8:(kn (3)) (V 8) W:=hd 8 (by decide +kernel);have Fq:(kn (2)) (V 10) W:=hd 10 (by decide +kernel);clear hd hi hr;refine⟨rfl,?_⟩;simp only[aN,zR19,zG,zA]
         have e4:V 4=_:=e4;obtain⟨z6,h6,-⟩:=e6;obtain⟨z8,h8,-⟩:=e8;obtain⟨z10,h10,-⟩:=Fq;rw[e4,h6,h8,h10];clear e4 h6 h8 h10;refine av (u:=.slice (some ⟨W.heap.size,0,none⟩) 4 4) (W':=W.alloc (.cells #[.int .i64 TV,.int .i64 (z6:Int),.int .i64 (z8:Int),.int .i64 (z10:Int)] 3)) (by go_simp) ⟨hq.since (ag _ (ad _)),C2.since (ag _ (ad _)),W.heap.size,[TV,(z6:Int),(z8:Int),(z10:Int)],rfl,rfl,(gU W [TV,(z6:Int),(z8:Int),(z10:Int)] (by simp[maxLen])).mono (Nat.le_trans HBz.out hq.rel.size)⟩
        | 12,ho=>
         cases ho;clear hd hi hr;refine⟨rfl,?_⟩;simp only[aN,zR19,zG,zA]
         refine av (u:=.int .i64 s) (W':=W) (by go_simp) ⟨hq,C2.refl _ _ _,rfl⟩
        | 13,ho=>
         cases ho;have Cm:(dM (.int .i64 s)) (V 12) W:=hd 12 (by decide +kernel);have nZ:Hid (3=q):=hr 3 rfl;clear hd hi hr;refine⟨rfl,?_⟩;simp only[aN,zR19,zG,zA]
         have Cm:V 12=_:=Cm;rw[Cm];clear Cm;refine eM (f:=180) (args:=#[.int .i64 s]) (W':=W) (by go_simp) ?_;refine(fo s W).mono ?_;rintro e W' ⟨u,rfl,ho,hb⟩;obtain⟨A',c',hu,-,-,-⟩:=id ho.ints
         exact⟨_,rfl,hq.next hb,C2.since hb,A',c',by rw[Hm.out];exact hu⟩
        | 14,ho=>
         cases ho;have Fr:(fun u _=>∃A' c',u=.slice A' m c') (V 13) W:=hd 13 (by decide +kernel)
         clear hd hi hr;refine⟨rfl,?_⟩;simp only[aN,zR19,zG,zA]
         obtain⟨A',c',h13⟩:=Fr;rw[h13];clear h13;refine av (u:=.int .i64 (m:Int)) (W':=W) (by go_simp) ⟨hq,C2.refl _ _ _,rfl⟩
        | 15,ho=>
         cases ho;have Cn:(dM (.int .i64 (m:Int))) (V 14) W:=hd 14 (by decide +kernel);clear hd hi hr;refine⟨rfl,?_⟩;simp only[aN,zR19,zG,zA]
         have Cn:V 14=_:=Cn;rw[Cn];clear Cn;have t1:=acU.out;refine av (u:=.int .i64 (m1:Int)) (W':=W) (by go_simp) ⟨hq,C2.refl _ _ _,rfl⟩
        | 16,ho=>
         cases ho;have Fs:(rG w5.heap.size 4 4) (V 11) W:=hd 11 (by decide +kernel);have Co:(dM (.int .i64 (m1:Int))) (V 15) W:=hd 15 (by decide +kernel);clear hd hi hr;refine⟨rfl,?_⟩;simp only[aN,zR19,zG,zA]
         have Co:V 15=_:=Co;obtain⟨g,l,h11,hl,ho⟩:=Fs;rw[h11]at ho;rw[Co,h11];clear Co h11;have t1:=OX.out
         have t2:((4:Int)<(m1:Int))=False:=by simp;omega
         refine av (u:=.slice (some ⟨g,0,none⟩) m1 4) (W':=W) (by go_simp) ⟨hq,C2.refl _ _ _,g,l.take m1,rfl,by rw[List.length_take];omega,?_⟩
         have h9:Own W w5.heap.size (.slice (some ⟨g,0,none⟩) l.length 4) l:=by rw[hl];exact ho
         exact ON h9 (by omega)
        | 17,ho=>
         cases ho;have e0:(dM (.int .i64 s)) (V 0) W:=hd 0 (by decide +kernel);have Lw:(rG w5.heap.size m1 4) (V 16) W:=hd 16 (by decide +kernel);have nZ:Hid (4=q):=hr 4 rfl;clear hd hi hr;refine⟨rfl,?_⟩;simp only[aN,zR19,zG,zA]
         have e0:V 0=_:=e0;obtain⟨g,l,h16,hl,ho⟩:=Lw;rw[h16]at ho;rw[e0,h16];clear e0 h16;refine eM (f:=167) (args:=#[.int .i64 s,.slice (some ⟨g,0,none⟩) m1 4]) (W':=W) (by go_simp) ?_;refine(Ps s Wa.out _ l W ho.ints (by rw[hl,Hm1.out,Hm.out])).mono ?_;rintro e W' ⟨⟨x,rfl⟩,hb⟩;exact⟨_,rfl,hq.next hb,C2.since hb,x,rfl⟩
        | 18,ho=>
         cases ho;have Lx:(zt) (V 17) W:=hd 17 (by decide +kernel);clear hd hi hr;refine⟨rfl,?_⟩;simp only[aN,zR19,zG,zA]
         obtain⟨x,h17⟩:=Lx;rw[h17];clear h17;refine av (u:=.int .i64 x) (W':=W) (by go_simp) ⟨hq,C2.refl _ _ _,x,rfl⟩
        | i+19,ho=>omega
       intro V W q hq DM bZ hV;have LL:5<=q:=bZ 17 4 (by omega) rfl;have e0:(dM (.int .i64 s)) (V 0) W:=hV 0 (by decide);have e1:(dM (.pointer (some ⟨pb,1,none⟩))) (V 1) W:=hV 1 (by decide);have e2:(dM (.slice (some ⟨g2,0,none⟩) n.ids.length c2)) (V 2) W:=hV 2 (by decide);have e3:(dM (.pointer (some ⟨g2,0,none⟩))) (V 3) W:=hV 3 (by decide);have e4:(dM (.int .i64 TV)) (V 4) W:=hV 4 (by decide);have e5:(dM (.pointer (some ⟨cb,0,none⟩))) (V 5) W:=hV 5 (by decide);have e6:(kn (3)) (V 6) W:=hV 6 (by decide);have e7:(dM (.pointer (some ⟨cb,0,none⟩))) (V 7) W:=hV 7 (by decide);have e8:(kn (3)) (V 8) W:=hV 8 (by decide);have e9:(dM (.pointer (some ⟨cb,0,none⟩))) (V 9) W:=hV 9 (by decide);have Fq:(kn (2)) (V 10) W:=hV 10 (by decide);have Fs:(rG w5.heap.size 4 4) (V 11) W:=hV 11 (by decide);have Cm:(dM (.int .i64 s)) (V 12) W:=hV 12 (by decide);have Fr:(fun u _=>∃A' c',u=.slice A' m c') (V 13) W:=hV 13 (by decide)
       have Cn:(dM (.int .i64 (m:Int))) (V 14) W:=hV 14 (by decide);have Co:(dM (.int .i64 (m1:Int))) (V 15) W:=hV 15 (by decide);have Lw:(rG w5.heap.size m1 4) (V 16) W:=hV 16 (by decide);have Lx:(zt) (V 17) W:=hV 17 (by decide);have Pv:(zt) (V 18) W:=hV 18 (by decide);clear hV bZ;have e0:V 0=_:=e0;have e1:V 1=_:=e1;have e2:V 2=_:=e2;have e3:V 3=_:=e3;have e4:V 4=_:=e4;have e5:V 5=_:=e5;obtain⟨z6,e6,b6⟩:=e6;have e7:V 7=_:=e7;obtain⟨z8,e8,b8⟩:=e8;have e9:V 9=_:=e9;obtain⟨z10,Fq,b10⟩:=Fq;obtain⟨g11,l11,Fs,n11,o11⟩:=Fs;have Cm:V 12=_:=Cm;obtain⟨A13,c13,Fr⟩:=Fr;have Cn:V 14=_:=Cn;have Co:V 15=_:=Co;obtain⟨g16,l16,Lw,n16,o16⟩:=Lw;obtain⟨z17,Lx⟩:=Lx;obtain⟨z18,Pv⟩:=Pv;simp only[aN,zR19,zG]
       (try simp only[zA])
       simp only[List.drop_succ_cons,List.drop_zero];rw[e0,e1,e2,e3,e4,e5,e6,e7,e8,e9,Fq,Fs,Cm,Fr,Cn,Co,Lw,Lx,Pv];clear e0 e1 e2 e3 e4 e5 e6 e7 e8 e9 Fq Fs Cm Fr Cn Co Lw Lx Pv;have ni:=hq.rel;have qq:=hq.cur;have hq5:q<=5:=by simpa using DM
       go_wp2;go_meet
       case rel=>exact⟨_,rfl,qq.mono (by omega),⟨ni.os,ni.tape,ni.output,ni.size,fun k hk hn=>ni.block k hk hn hn⟩⟩
     case rest=>
     obtain⟨x9,hx9,qq,Wb⟩:=hcut;subst hx9;obtain⟨w7,rfl⟩:∃z,z=wc:=⟨_,rfl⟩
     have oa:aa w7 (w7.alloc (.cells #[.int .i64 x9] 3)):=ag _ (ad _);have Pw:=zh (Own.since (Own.seen If.out Wb yn) oa);have Ig:=zh ((zy.out.trans Wb).after oa);have B7:=zh (qq.since oa)
     have cJ:Hid (ls.length+1<=17592186044416):=by show _<=_;have:=Vl.out;omega
     have e5:(0<=(k:Int))=True:=by simp
     clear qq Wb oa
     go_wp2_with (at_builtin;refine lZ (base:=w0.heap.size) rfl _ _ rfl rfl Pw.out w7.heap.size x9 rfl (by simp) cJ.out Ig.out.size ?_;intro g9 GB w9 iS p7 vA Wc;have km:=Below.grown (Below.refl w0.heap.size _) p7 Ig.out.size (fun q hq=>(World.ownsRow.lt Pw.out q hq).1);have vP:=zh iS;have Ih:=zh (eF.trans' Ig.out km);have Ii:=zh (B7.out.keep (fun k hk=>km.block k (by omega)));clear iS p7 vA Wc km)
     go_roundw
     case rel=>exact⟨k+1,_,by omega,by first | rfl | go_num,vP.out,by have:=Vl.out;simp;omega,Ii.out.mono (by have:=V_.out;omega),Ih.out⟩
     case measure=>simp[intOf];omega
    ·obtain⟨wo,rfl⟩:∃z,z=wr:=⟨_,rfl⟩
     go_wp2;go_meet
     case rel=>exact⟨ls,Sb.out,by have:=Vl.out;omega,CP.out.mono (by omega),Xl.out⟩
 case rest=>
  obtain⟨ls,zx,Jo,fh,EO⟩:=hcut;obtain⟨w3,rfl⟩:∃z,z=wc:=⟨_,rfl⟩
  obtain⟨AL,cl,rfl,-,Ff,-⟩:=id zx.ints;have Sb:=zh zx;have CP:=zh fh;have Xl:=zh EO;unfold maxLen at Ff;clear zx fh EO sK qh eX;go_upto_region 14 with(fail)
  go_cut [81]from 75 to 81 (fun t wx=>∃b:Bool,t=.bool b/\(b=true->0<ls.length)/\dm wx cb A L c (P+5002)/\eF cb w0 wx/\Own wx w0.heap.size (.slice AL ls.length cl) ls)
  case first=>
   by_cases Dd:0<ls.length
   ·have e1:((0:Int)<(ls.length:Int))=True:=eq_true (by omega);have Fp:=zh Dd;clear Dd;go_wp2_with fail;refine(mT cb A L c (P+5000) 2 w3 CP.out (by omega) (by omega)).mono ?_;rintro e w4 ⟨b,rfl,pD,pY⟩;have Px:=zh pD;have Py:=zh (Xl.out.trans pY);have Ly:=zh (Own.seen Sb.out pY yn);clear pD pY;go_wp2;go_meet
    case rel=>exact⟨b,by first | rfl | simp,fun _=>Fp.out,Px.out,Py.out,Ly.out⟩
   ·have qX:ls=[]:=List.eq_nil_of_length_eq_zero (by omega);subst qX;clear Dd;go_wp2;go_meet
    case rel=>exact⟨false,rfl,fun h=>by simp at h,CP.out.mono (by omega),Xl.out,Sb.out⟩
  case rest=>
  obtain⟨b1,ay,Do,fh,EO,zx⟩:=hcut;subst ay;obtain⟨w4,rfl⟩:∃z,z=wc:=⟨_,rfl⟩
  have Hbi:=zh Do;have Px:=zh fh;have Py:=zh EO;have Ly:=zh zx;clear Do fh EO zx CP Xl Sb
  go_upto_if 81 with(fail)
  go_cut [12]from 81 to 107 (fun _ wx=>∃ls',Own wx w0.heap.size (.slice AL ls.length cl) ls'/\ls'.length=ls.length/\dm wx cb A L c (P+5020)/\eF cb w0 wx)
  case first=>
   cases b1
   ·go_wp2;go_meet
    case rel=>exact⟨ls,Ly.out,rfl,Px.out.mono (by omega),Py.out⟩
   ·have x_:=Hbi.out rfl
    obtain⟨gl,rfl⟩:∃gl,AL=some ⟨gl,0,none⟩:=by
     rcases Ly.out.cases with⟨-,e1⟩ | ⟨gd,cd,hv,-,-⟩
     ·rw[e1]at x_;simp at x_
     ·cases hv;exact⟨gd,rfl⟩
    go_wp2_with fail;refine(dJ cb A L c (P+5002) (ls.length:Int) w4 Px.out (by omega) (by omega)).mono ?_;rintro e w5 ⟨v,rfl,hv,mZ,vC⟩;have hvl:v<ls.length:=by omega
    have If:=zh (Own.seen Ly.out vC yn);have zy:=zh (Py.out.trans vC);obtain⟨P5,KX⟩:∃z,z=P+5002+2:=⟨_,rfl⟩
    rw[<- KX]at mZ;have Cl:=zh mZ;have V_:=zh KX
    have Xm:Hid (P5<=4100000000000000000):=by show _<=_;omega
    obtain⟨x0,tr⟩:=aM ls v hvl;obtain⟨x1,tp⟩:∃z,z=IntKind.i64.wrap (x0+1):=⟨_,rfl⟩
    have Hx1:Hid (IntKind.i64.wrap (x0+1)=x1):=tp.symm;have HC:Hid (∀W,C2 cb cb w5 W->∀(z:Nat) (y:Int),ls[z]?=some y->W.cell? ⟨gl,z,none⟩=some (.int .i64 y)):=fun W hW z y hy=>(hW.own yn yn If.out).cell hy
    have HX:Hid (∀W,C2 cb cb w5 W->W.cell? ⟨gl,v,none⟩=some (.int .i64 x0)):=fun W hW=>HC.out W hW v x0 tr
    have ZT:=zh tr;have Hv:=zh hvl;have HBz:Hid (w5.heap.size<=w5.heap.size):=Nat.le_refl _;have E8:Hid (cb<w5.heap.size):=Cl.out.lt;clear mZ vC KX tr tp hv x_;go_upto_region 16 with(fail);refine j3 22 [16,20] (RW [dM (.slice (some ⟨gl,0,none⟩) ls.length cl),dM (.int .i64 (v:Int)),dM (.pointer (some ⟨cb,0,none⟩)),dM (.slice (some ⟨gl,0,none⟩) ls.length cl),dM (.int .i64 (v:Int)),dM (.pointer (some ⟨gl,v,none⟩)),dM (.int .i64 x0),dM (.int .i64 x1),dM (.slice (some ⟨gl,0,none⟩) ls.length cl),dM (.int .i64 (v:Int)),dM (.pointer (some ⟨gl,v,none⟩)),dM (.int .i64 x0),dM (.slice (some ⟨gl,0,none⟩) ls.length cl),dM (.pointer (some ⟨cb,0,none⟩)),dM (.slice (some ⟨gl,0,none⟩) ls.length cl),dM (.int .i64 (ls.length:Int)),kn ((ls.length:Int)),fun u _=>∃z:Nat,u=.pointer (some ⟨gl,z,none⟩)/\z<ls.length,zt,rG w5.heap.size 7 7,zt,dM (.pointer (some ⟨gl,v,none⟩))]) (lG cb A L c (P5) (2) w5) (C2 cb cb) (RW.rel ?_) (by kernel_rfl) (by kernel_rfl) (by kernel_rfl) (by decide) (by kernel_rfl) (lG.start Cl.out (aj (ad _))) ?_ ?_
    ·intro r hr;simp only[List.mem_cons,List.not_mem_nil,or_false]at hr;rcases hr with rfl | rfl | rfl | rfl | rfl | rfl | rfl | rfl | rfl | rfl | rfl | rfl | rfl | rfl | rfl | rfl | rfl | rfl | rfl | rfl | rfl | rfl
     ·exact fun _ _ _ _ h=>h
     ·exact fun _ _ _ _ h=>h
     ·exact fun _ _ _ _ h=>h
     ·exact fun _ _ _ _ h=>h
     ·exact fun _ _ _ _ h=>h
     ·exact fun _ _ _ _ h=>h
     ·exact fun _ _ _ _ h=>h
     ·exact fun _ _ _ _ h=>h
     ·exact fun _ _ _ _ h=>h
     ·exact fun _ _ _ _ h=>h
     ·exact fun _ _ _ _ h=>h
     ·exact fun _ _ _ _ h=>h
     ·exact fun _ _ _ _ h=>h
     ·exact fun _ _ _ _ h=>h
     ·exact fun _ _ _ _ h=>h
     ·exact fun _ _ _ _ h=>h
     ·exact fun _ _ _ _ h=>h
     ·exact fun _ _ _ _ h=>h
     ·exact fun _ _ _ _ h=>h
     ·exact rG.rel E8.out E8.out
     ·exact fun _ _ _ _ h=>h
     ·exact fun _ _ _ _ h=>h
    ·intro i o hi ho V W q hq hr hd
     match i,ho with
     | 0,ho=>
      cases ho;clear hd hi hr;refine⟨rfl,?_⟩;simp only[aN,zR22,zG,zA]
      refine av (u:=.slice (some ⟨gl,0,none⟩) ls.length cl) (W':=W) (by go_simp) ⟨hq,C2.refl _ _ _,rfl⟩
     | 1,ho=>
      cases ho;clear hd hi hr;refine⟨rfl,?_⟩;simp only[aN,zR22,zG,zA]
      refine av (u:=.int .i64 (v:Int)) (W':=W) (by go_simp) ⟨hq,C2.refl _ _ _,rfl⟩
     | 2,ho=>
      cases ho;clear hd hi hr;refine⟨rfl,?_⟩;simp only[aN,zR22,zG,zA]
      refine av (u:=.pointer (some ⟨cb,0,none⟩)) (W':=W) (by go_simp) ⟨hq,C2.refl _ _ _,rfl⟩
     | 3,ho=>
      cases ho;clear hd hi hr;refine⟨rfl,?_⟩;simp only[aN,zR22,zG,zA]
      refine av (u:=.slice (some ⟨gl,0,none⟩) ls.length cl) (W':=W) (by go_simp) ⟨hq,C2.refl _ _ _,rfl⟩
     | 4,ho=>
      cases ho;clear hd hi hr;refine⟨rfl,?_⟩;simp only[aN,zR22,zG,zA]
      refine av (u:=.int .i64 (v:Int)) (W':=W) (by go_simp) ⟨hq,C2.refl _ _ _,rfl⟩
     | 5,ho=>
      cases ho;have e3:(dM (.slice (some ⟨gl,0,none⟩) ls.length cl)) (V 3) W:=hd 3 (by decide +kernel);have e4:(dM (.int .i64 (v:Int))) (V 4) W:=hd 4 (by decide +kernel);clear hd hi hr;refine⟨rfl,?_⟩;simp only[aN,zR22,zG,zA]
      have e3:V 3=_:=e3;rw[e3];clear e3;have e4:V 4=_:=e4;rw[e4];clear e4;have t1:=Hv.out;refine av (u:=.pointer (some ⟨gl,v,none⟩)) (W':=W) (by go_simp) ⟨hq,C2.refl _ _ _,rfl⟩
     | 6,ho=>
      cases ho;have e5:(dM (.pointer (some ⟨gl,v,none⟩))) (V 5) W:=hd 5 (by decide +kernel);clear hd hi hr;refine⟨rfl,?_⟩;simp only[aN,zR22,zG,zA]
      have e5:V 5=_:=e5;rw[e5];clear e5;have k1:=HX.out W hq.rel;refine av (u:=.int .i64 x0) (W':=W) (by go_simp) ⟨hq,C2.refl _ _ _,rfl⟩
     | 7,ho=>
      cases ho;have e6:(dM (.int .i64 x0)) (V 6) W:=hd 6 (by decide +kernel);clear hd hi hr;refine⟨rfl,?_⟩;simp only[aN,zR22,zG,zA]
      have e6:V 6=_:=e6;rw[e6];clear e6;have t1:=Hx1.out;refine av (u:=.int .i64 x1) (W':=W) (by go_simp) ⟨hq,C2.refl _ _ _,rfl⟩
     | 8,ho=>
      cases ho;clear hd hi hr;refine⟨rfl,?_⟩;simp only[aN,zR22,zG,zA]
      refine av (u:=.slice (some ⟨gl,0,none⟩) ls.length cl) (W':=W) (by go_simp) ⟨hq,C2.refl _ _ _,rfl⟩
     | 9,ho=>
      cases ho;clear hd hi hr;refine⟨rfl,?_⟩;simp only[aN,zR22,zG,zA]
      refine av (u:=.int .i64 (v:Int)) (W':=W) (by go_simp) ⟨hq,C2.refl _ _ _,rfl⟩
     | 10,ho=>
      cases ho;have e8:(dM (.slice (some ⟨gl,0,none⟩) ls.length cl)) (V 8) W:=hd 8 (by decide +kernel);have e9:(dM (.int .i64 (v:Int))) (V 9) W:=hd 9 (by decide +kernel);clear hd hi hr;refine⟨rfl,?_⟩;simp only[aN,zR22,zG,zA]
      have e8:V 8=_:=e8;rw[e8];clear e8;have e9:V 9=_:=e9;rw[e9];clear e9;have t1:=Hv.out;refine av (u:=.pointer (some ⟨gl,v,none⟩)) (W':=W) (by go_simp) ⟨hq,C2.refl _ _ _,rfl⟩
     | 11,ho=>
      cases ho;have Fq:(dM (.pointer (some ⟨gl,v,none⟩))) (V 10) W:=hd 10 (by decide +kernel);clear hd hi hr;refine⟨rfl,?_⟩;simp only[aN,zR22,zG,zA]
      have Fq:V 10=_:=Fq;rw[Fq];clear Fq;have k1:=HX.out W hq.rel;refine av (u:=.int .i64 x0) (W':=W) (by go_simp) ⟨hq,C2.refl _ _ _,rfl⟩
     | 12,ho=>
      cases ho;clear hd hi hr;refine⟨rfl,?_⟩;simp only[aN,zR22,zG,zA]
      refine av (u:=.slice (some ⟨gl,0,none⟩) ls.length cl) (W':=W) (by go_simp) ⟨hq,C2.refl _ _ _,rfl⟩
     | 13,ho=>
      cases ho;clear hd hi hr;refine⟨rfl,?_⟩;simp only[aN,zR22,zG,zA]
      refine av (u:=.pointer (some ⟨cb,0,none⟩)) (W':=W) (by go_simp) ⟨hq,C2.refl _ _ _,rfl⟩
     | 14,ho=>
      cases ho;clear hd hi hr;refine⟨rfl,?_⟩;simp only[aN,zR22,zG,zA]
      refine av (u:=.slice (some ⟨gl,0,none⟩) ls.length cl) (W':=W) (by go_simp) ⟨hq,C2.refl _ _ _,rfl⟩
     | 15,ho=>
      cases ho;have Cn:(dM (.slice (some ⟨gl,0,none⟩) ls.length cl)) (V 14) W:=hd 14 (by decide +kernel);clear hd hi hr;refine⟨rfl,?_⟩;simp only[aN,zR22,zG,zA]
      have Cn:V 14=_:=Cn;rw[Cn];clear Cn;refine av (u:=.int .i64 (ls.length:Int)) (W':=W) (by go_simp) ⟨hq,C2.refl _ _ _,rfl⟩
     | 16,ho=>
      cases ho;have Fr:(dM (.pointer (some ⟨cb,0,none⟩))) (V 13) W:=hd 13 (by decide +kernel);have Co:(dM (.int .i64 (ls.length:Int))) (V 15) W:=hd 15 (by decide +kernel);have nZ:Hid (0=q):=hr 0 rfl;clear hd hi hr;refine⟨rfl,?_⟩;simp only[aN,zR22,zG,zA]
      have Fr:V 13=_:=Fr;rw[Fr];clear Fr;have Co:V 15=_:=Co;rw[Co];clear Co;refine eM (f:=62) (args:=#[.pointer (some ⟨cb,0,none⟩),.int .i64 (ls.length:Int)]) (W':=W) (by go_simp) ?_
      refine(dJ cb A L c (P5+2*q) ((ls.length:Int)) W hq.cur (by have:=Xm.out;have:=nZ.out;omega) (by omega)).mono ?_
      rintro e W' ⟨z,rfl,hz,fh,hC⟩;exact⟨_,rfl,hq.call hC fh (by omega),C2.of hC,z,rfl,hz⟩
     | 17,ho=>
      cases ho;have Cm:(dM (.slice (some ⟨gl,0,none⟩) ls.length cl)) (V 12) W:=hd 12 (by decide +kernel);have Lw:(kn ((ls.length:Int))) (V 16) W:=hd 16 (by decide +kernel);clear hd hi hr;refine⟨rfl,?_⟩;simp only[aN,zR22,zG,zA]
      have Cm:V 12=_:=Cm;rw[Cm];clear Cm;obtain⟨z,hz,hzb⟩:=Lw;rw[hz];clear hz
      have il:z<ls.length:=by have:=Hv.out;omega
      refine av (u:=.pointer (some ⟨gl,z,none⟩)) (W':=W) (by go_simp) ⟨hq,C2.refl _ _ _,z,rfl,il⟩
     | 18,ho=>
      cases ho;have Lx:(fun u _=>∃z:Nat,u=.pointer (some ⟨gl,z,none⟩)/\z<ls.length) (V 17) W:=hd 17 (by decide +kernel)
      clear hd hi hr;refine⟨rfl,?_⟩;simp only[aN,zR22,zG,zA]
      obtain⟨z,h17,hz⟩:=Lx;rw[h17];clear h17;obtain⟨y,hy⟩:=aM ls z hz;have k1:=HC.out W hq.rel z y hy;refine av (u:=.int .i64 y) (W':=W) (by go_simp) ⟨hq,C2.refl _ _ _,y,rfl⟩
     | 19,ho=>
      cases ho;have e7:(dM (.int .i64 x1)) (V 7) W:=hd 7 (by decide +kernel);have Fs:(dM (.int .i64 x0)) (V 11) W:=hd 11 (by decide +kernel);have Pv:(zt) (V 18) W:=hd 18 (by decide +kernel);clear hd hi hr;refine⟨rfl,?_⟩;simp only[aN,zR22,zG,zA]
      have e7:V 7=_:=e7;have Fs:V 11=_:=Fs;obtain⟨y,h18⟩:=Pv;rw[e7,Fs,h18];clear e7 Fs h18;refine av (u:=.slice (some ⟨W.heap.size,0,none⟩) 7 7) (W':=W.alloc (.cells #[.int .i64 x1,.int .i64 0,.int .i64 1,.int .i64 2,.int .i64 3,.int .i64 x0,.int .i64 y] 3)) (by go_simp) ⟨hq.since (ag _ (ad _)),C2.since (ag _ (ad _)),W.heap.size,[x1,0,1,2,3,x0,y],rfl,rfl,(gU W [x1,0,1,2,3,x0,y] (by simp[maxLen])).mono (Nat.le_trans HBz.out hq.rel.size)⟩
     | 20,ho=>
      cases ho;have e2:(dM (.pointer (some ⟨cb,0,none⟩))) (V 2) W:=hd 2 (by decide +kernel);have Xn:(rG w5.heap.size 7 7) (V 19) W:=hd 19 (by decide +kernel);have nZ:Hid (1=q):=hr 1 rfl;clear hd hi hr;refine⟨rfl,?_⟩;simp only[aN,zR22,zG,zA]
      have e2:V 2=_:=e2;obtain⟨g,l,W_,hl,ho⟩:=Xn;rw[W_]at ho;rw[e2,W_];clear e2 W_;refine eM (f:=68) (args:=#[.pointer (some ⟨cb,0,none⟩),.slice (some ⟨g,0,none⟩) 7 7]) (W':=W) (by go_simp) ?_
      refine(tQ cb A L c (P5+2*q) w5.heap.size g 7 7 l W hq.cur (by have:=Xm.out;have:=nZ.out;omega) ho hl.symm E8.out (by omega) (by omega)).mono ?_
      rintro e W' ⟨z,rfl,-,fh,hC⟩;exact⟨_,rfl,hq.call hC fh (by omega),C2.of hC,z,rfl⟩
     | 21,ho=>
      cases ho;have e0:(dM (.slice (some ⟨gl,0,none⟩) ls.length cl)) (V 0) W:=hd 0 (by decide +kernel);have e1:(dM (.int .i64 (v:Int))) (V 1) W:=hd 1 (by decide +kernel);clear hd hi hr;refine⟨rfl,?_⟩;simp only[aN,zR22,zG,zA]
      have e0:V 0=_:=e0;rw[e0];clear e0;have e1:V 1=_:=e1;rw[e1];clear e1;have t1:=Hv.out;refine av (u:=.pointer (some ⟨gl,v,none⟩)) (W':=W) (by go_simp) ⟨hq,C2.refl _ _ _,rfl⟩
     | i+22,ho=>omega
    intro V W q hq DM bZ hV;have LL:2<=q:=bZ 20 1 (by omega) rfl;have e0:(dM (.slice (some ⟨gl,0,none⟩) ls.length cl)) (V 0) W:=hV 0 (by decide);have e1:(dM (.int .i64 (v:Int))) (V 1) W:=hV 1 (by decide);have e2:(dM (.pointer (some ⟨cb,0,none⟩))) (V 2) W:=hV 2 (by decide);have e3:(dM (.slice (some ⟨gl,0,none⟩) ls.length cl)) (V 3) W:=hV 3 (by decide);have e4:(dM (.int .i64 (v:Int))) (V 4) W:=hV 4 (by decide);have e5:(dM (.pointer (some ⟨gl,v,none⟩))) (V 5) W:=hV 5 (by decide);have e6:(dM (.int .i64 x0)) (V 6) W:=hV 6 (by decide);have e7:(dM (.int .i64 x1)) (V 7) W:=hV 7 (by decide);have e8:(dM (.slice (some ⟨gl,0,none⟩) ls.length cl)) (V 8) W:=hV 8 (by decide);have e9:(dM (.int .i64 (v:Int))) (V 9) W:=hV 9 (by decide);have Fq:(dM (.pointer (some ⟨gl,v,none⟩))) (V 10) W:=hV 10 (by decide);have Fs:(dM (.int .i64 x0)) (V 11) W:=hV 11 (by decide);have Cm:(dM (.slice (some ⟨gl,0,none⟩) ls.length cl)) (V 12) W:=hV 12 (by decide);have Fr:(dM (.pointer (some ⟨cb,0,none⟩))) (V 13) W:=hV 13 (by decide);have Cn:(dM (.slice (some ⟨gl,0,none⟩) ls.length cl)) (V 14) W:=hV 14 (by decide);have Co:(dM (.int .i64 (ls.length:Int))) (V 15) W:=hV 15 (by decide);have Lw:(kn ((ls.length:Int))) (V 16) W:=hV 16 (by decide);have Lx:(fun u _=>∃z:Nat,u=.pointer (some ⟨gl,z,none⟩)/\z<ls.length) (V 17) W:=hV 17 (by decide)
    have Pv:(zt) (V 18) W:=hV 18 (by decide);have Xn:(rG w5.heap.size 7 7) (V 19) W:=hV 19 (by decide);have e20:(zt) (V 20) W:=hV 20 (by decide);have e21:(dM (.pointer (some ⟨gl,v,none⟩))) (V 21) W:=hV 21 (by decide);clear hV bZ;have e0:V 0=_:=e0;have e1:V 1=_:=e1;have e2:V 2=_:=e2;have e3:V 3=_:=e3;have e4:V 4=_:=e4;have e5:V 5=_:=e5;have e6:V 6=_:=e6;have e7:V 7=_:=e7;have e8:V 8=_:=e8;have e9:V 9=_:=e9;have Fq:V 10=_:=Fq;have Fs:V 11=_:=Fs;have Cm:V 12=_:=Cm;have Fr:V 13=_:=Fr;have Cn:V 14=_:=Cn;have Co:V 15=_:=Co;obtain⟨z16,Lw,b16⟩:=Lw;obtain⟨z17,Lx,b17⟩:=Lx;obtain⟨z18,Pv⟩:=Pv;obtain⟨g19,l19,Xn,n19,o19⟩:=Xn;obtain⟨z20,e20⟩:=e20;have e21:V 21=_:=e21;simp only[aN,zR22,zG]
    (try simp only[zA])
    simp only[List.drop_succ_cons,List.drop_zero];rw[e0,e1,e2,e3,e4,e5,e6,e7,e8,e9,Fq,Fs,Cm,Fr,Cn,Co,Lw,Lx,Pv,Xn,e20,e21];clear e0 e1 e2 e3 e4 e5 e6 e7 e8 e9 Fq Fs Cm Fr Cn Co Lw Lx Pv Xn e20 e21;have ni:=hq.rel;have qq:=hq.cur;have hq5:q<=2:=by simpa using DM
    have Ij:=ni.own yn yn If.out;have c9:=Ij.cell ZT.out;have f9:=Ij.free v;have vP:=zh (Ij.set (k:=v) z20);have CJ:=(World.ownsRow.lt Ij gl rfl).1;have aaR:eF cb w0 W:=zy.out.trans ⟨ni.os,ni.tape,ni.output,ni.size,fun k hk hn=>ni.block k hk hn hn⟩
    have Ih:Hid (eF cb w0 (W.setCell ⟨gl,v,none⟩ (.int .i64 z20))):=CB.setCell aaR (p:=⟨gl,v,none⟩) (.inl CJ) _
    have Ii:Hid (dm (W.setCell ⟨gl,v,none⟩ (.int .i64 z20)) cb A L c (P5+4)):=(qq.mono (by omega)).keep (fun j hj=>Below.heap_setCell _ _ _ _ (by show j≠gl;omega))
    clear hq ni qq Ij CJ aaR DM LL;go_wp2;go_meet
    case rel=>exact⟨_,vP.out,by rw[List.length_set],Ii.out.mono (by have:=V_.out;omega),Ih.out⟩
  case rest=>
  obtain⟨l2,zx,lL,fh,EO⟩:=hcut;obtain⟨w5,rfl⟩:∃z,z=wc:=⟨_,rfl⟩
  have If:=zh zx;have tH:=zh lL;have Cl:=zh fh;have zy:=zh EO;clear zx lL fh EO Px Py Ly Hbi;go_wp2_with fail;refine(dJ cb A L c (P+5020) 24 w5 Cl.out (by omega) (by omega)).mono ?_;rintro e w6 ⟨x,rfl,-,d7,iU⟩;have Pz:=zh (Own.seen If.out iU yn);have Sc:=zh (zy.out.trans iU);have PA:=zh d7;clear d7 iU If zy Cl;rcases(show x=0\/x=1\/2<=x by omega)with rfl | rfl | h2
  ·have oa:aa w6 (w6.alloc (.cells #[.int .i64 0] 3)):=ag _ (ad _);have Pw:=zh (Own.since Pz.out oa);have Ig:=zh (Sc.out.after oa);have B7:=zh (PA.out.since oa)
   have cJ:Hid (l2.length+1<=17592186044416):=by show _<=_;have:=tH.out;omega
   clear oa
   go_wp2_with (at_builtin;refine lZ (base:=w0.heap.size) rfl _ _ rfl rfl Pw.out w6.heap.size 0 rfl (by simp) cJ.out Ig.out.size ?_;intro g9 GB w9 iS p7 vA Wc;have km:=Below.grown (Below.refl w0.heap.size _) p7 Ig.out.size (fun q hq=>(World.ownsRow.lt Pw.out q hq).1);have vP:=zh iS;have Ih:=zh (eF.trans' Ig.out km);have Ii:=zh (B7.out.keep (fun k hk=>km.block k (by omega)));clear iS p7 vA Wc km)
   go_ret
   exact⟨_,_,rfl,vP.out.mono (by have:=mX.out;omega),by have:=tH.out;simp;omega,Ii.out.mono (by omega),(CB.of lC.out.below).trans (Ih.out.mono (by have:=mX.out;omega))⟩
  ·by_cases Dd:0<ls.length
   ·have e1:((0:Int)<(ls.length:Int))=True:=eq_true (by omega)
    obtain⟨gl,rfl⟩:∃gl,AL=some ⟨gl,0,none⟩:=by
     rcases Pz.out.cases with⟨-,e1⟩ | ⟨gd,cd,hv,-,-⟩
     ·have:=tH.out;rw[e1]at this;simp at this;omega
     ·injection hv with h1 h2 h3
      exact⟨gd,h1⟩
    obtain⟨wL,RD⟩:∃z,z=w6.alloc (.cells #[.int .i64 (-1),.int .i64 999999999999,.int .i64 1000000000000] 3):=⟨_,rfl⟩
    obtain⟨gq,WU⟩:∃z,z=w6.heap.size:=⟨_,rfl⟩
    have TI:aa w6 wL:=by rw[RD];exact ag _ (ad _)
    have hoL:Own wL w6.heap.size (.slice (some ⟨gq,0,none⟩) 3 3) [-1,999999999999,1000000000000]:=by rw[RD,WU];exact gU w6 [-1,999999999999,1000000000000] (by simp[maxLen])
    have HoL:=zh hoL;have acV:=zh (Own.since Pz.out TI);have acW:=zh (Sc.out.after TI);have Vy:=zh (PA.out.since TI);have HwL:=zh RD;have YY:=zh WU;have acX:cb<w6.heap.size:=PA.out.lt;have Fp:=zh Dd;clear hoL TI RD WU Dd;go_wp2_with fail;rw[<- HwL.out,<- YY.out];refine(tQ cb A L c _ w6.heap.size gq 3 3 _ wL Vy.out (by omega) HoL.out rfl acX (by simp) (by simp)).mono ?_;rintro e w7 ⟨z,rfl,-,xY,AB⟩;have Ij:=Own.seen acV.out AB yn
    obtain⟨y0,CD⟩:=aM l2 0 (by have:=tH.out;have:=Fp.out;omega)
    have c9:=Ij.cell CD;have f9:=Ij.free 0;have vP:=zh (Ij.set (k:=0) z);have CJ:=(World.ownsRow.lt Ij gl rfl).1;have Ih:Hid (eF cb w0 (w7.setCell ⟨gl,0,none⟩ (.int .i64 z))):=CB.setCell (acW.out.trans AB) (p:=⟨gl,0,none⟩) (.inl CJ) _
    have Ii:Hid (dm (w7.setCell ⟨gl,0,none⟩ (.int .i64 z)) cb A L c (P+5020+2+2)):=xY.keep (fun j hj=>Below.heap_setCell _ _ _ _ (by show j≠gl;omega))
    have rN:(0:Int)<(ls.length:Int):=by have:=Fp.out;omega
    clear xY AB Ij CJ CD;go_wp2;go_ret
    exact⟨_,_,rfl,vP.out.mono (by have:=mX.out;omega),by rw[List.length_set];have:=tH.out;omega,Ii.out.mono (by omega),(CB.of lC.out.below).trans (Ih.out.mono (by have:=mX.out;omega))⟩
   ·have qX:ls=[]:=List.eq_nil_of_length_eq_zero (by omega);subst qX;clear Dd;go_wp2;go_ret
    exact⟨_,_,rfl,Pz.out.mono (by have:=mX.out;omega),by have:=tH.out;omega,PA.out.mono (by omega),(CB.of lC.out.below).trans (Sc.out.mono (by have:=mX.out;omega))⟩
  ·have e1:((x:Int)==0)=false:=by simp;omega
   have e2:((x:Int)==1)=false:=by simp;omega
   clear h2;go_wp2;go_ret
   exact⟨_,_,rfl,Pz.out.mono (by have:=mX.out;omega),by have:=tH.out;omega,PA.out.mono (by omega),(CB.of lC.out.below).trans (Sc.out.mono (by have:=mX.out;omega))⟩
def zC (B:Nat) (u:Value) (W:World):Prop:=∃ls,Own W B u ls/\ls.length<=200
theorem zC.rel {cb rb B:Nat} (hc:cb<B) (hr:rb<B):∀u W W',C2 cb rb W W'->zC B u W->zC B u W':=by
 rintro u W W' h ⟨ls,h1,h2⟩;exact⟨ls,h.own hc hr h1,h2⟩
def TW (w:World) (e:Ending) (w':World):Prop:=
 ∃ve vi vn N S,∃s:Int,e=.returned (.tuple #[.agg #[ve,vi,vn],.int .i64 s])/\az w' w.heap.size ve vi vn N S/\Bd N/\(0<=s/\s<=6)/\Below w.heap.size w w'
def PB (w:World) (e:Ending) (w':World):Prop:=
 ∃ve vi vn N S u ls,∃s:Int,e=.returned (.tuple #[.agg #[ve,vi,vn],.int .i64 s,u])/\az w' w.heap.size ve vi vn N S/\Bd N/\(0<=s/\s<=6)/\Own w' w.heap.size u ls/\ls.length<=200/\Below w.heap.size w w'
theorem qt (v:Value) (L:Nat) (w:World) (h:OM w v L) (hL:L<=1048576):
  Calls Tryz.prog 103 #[v] w (TW w):=by
 obtain⟨A,c,rfl,hLc,LM,hby⟩:=h;obtain⟨w0,cG⟩:∃z,z=w.alloc (.cells #[.slice none 0 0,.slice none 0 0,.slice none 0 0] 27):=⟨_,rfl⟩
 have bB:aa w w0:=by rw[cG];exact ag _ (ad _)
 have il:w0.heap.size=w.heap.size+1:=by rw[cG];simp
 have gY:bx w0 w.heap.size (.slice none 0 0) (.slice none 0 0) (.slice none 0 0):=by
  rw[cG];show(w.heap.push _)[w.heap.size]?=_
  rw[Array.getElem?_push_size]
 obtain⟨w1,ou⟩:∃z,z=w0.alloc (.cells #[.slice A L c,.int .i64 0,.int .u64 0] 78):=⟨_,rfl⟩
 obtain⟨cb,Ik⟩:∃z,z=w0.heap.size:=⟨_,rfl⟩
 have cY:aa w0 w1:=by rw[ou];exact ag _ (ad _)
 have uy:w1.heap[cb]?=some (.cells #[.slice A L c,.int .i64 0,.int .u64 0] 78):=by
  rw[ou,Ik];show(w0.heap.push _)[w0.heap.size]?=_
  rw[Array.getElem?_push_size]
 have CP:=zh (Jr hby (bB.after cY) (by omega) uy hL hLc);have iF:=zh (gY.since cY);have dC:=zh (bB.after cY);have bK:=zh cG;have Q_:=zh ou;have TJ:Hid (cb=w0.heap.size):=Ik
 have Hz:Hid (w0.heap.size=w.heap.size+1/\w1.heap.size=w.heap.size+1+1/\cb=w.heap.size+1):=⟨il,by rw[ou];simp;omega,by omega⟩
 clear hby bB gY cY uy cG ou Ik il
 go_enter Tryz.func103,Tryz.ntmps103
 go_upto_region 1 with(fail);rw[<- bK.out];go_upto_region 2 with(fail);rw[<- Q_.out,<- TJ.out];go_wp2_with fail;refine(Eo cb A L c 0 w1 CP.out (by omega)).mono ?_;rintro e w2 ⟨sx,rfl,Fe,mv,qp⟩;have sK:=zh mv;have Jh:=zh qp;have JG:=zh Fe;clear Fe mv qp;go_wp2_with fail;refine(Js cb A L c (0+2) sx w2 sK.out (by omega)).mono ?_;rintro e w3 ⟨ve,vi,vn,N,S,rfl,ho,s_,tP,ly⟩;obtain⟨D0,d0,rfl,-,rM,-⟩:=id ho.read.1;obtain⟨D1,d1,rfl,-,-,-⟩:=id ho.read.2.1;obtain⟨D2,d2,rfl,-,-,-⟩:=id ho.read.2.2;have Wd:CB cb w1.heap.size w1 w3:=Jh.out.trans (ly.mono Jh.out.size)
 have ec:bx w3 w.heap.size (.slice none 0 0) (.slice none 0 0) (.slice none 0 0):=(Wd.block _ (by have:=Hz.out;omega) (by have:=Hz.out;omega)).trans iF.out
 obtain⟨e0,e1,e2,f0,f1,f2⟩:=ec.box.cells;have Ho:=zh (ho.mono Jh.out.size);have Mi:=zh s_;have acY:=zh Wd;clear ho s_ tP ly Wd ec;go_wp2;refine bodyPost_ret (v:=.tuple #[.agg #[.slice D0 N.ends.length d0,.slice D1 N.ids.length d1,.slice D2 N.aea.length d2],.int .i64 sx]) (by simp[results,Tryz.results103,go_sem, *]) rfl ?_;have hz:=Hz.out
 refine⟨_,_,_,N,S,sx,rfl,(Ho.out.aeb (fun j hj=>dZ _ _ _ _ _ (by have:=(Ho.out.range j hj).1;omega))).mono (by omega),Mi.out,JG.out,?_⟩
 have h1:Below w.heap.size w w3:=Below.trans dC.out.below ((acY.out.mono (by omega)).below (by omega));exact((h1.setCell (by simp) _).setCell (by simp) _).setCell (by simp) _
theorem oM (v:Value) (L:Nat) (w:World) (h:OM w v L) (hL:L<=1048576):
  Calls Tryz.prog 32 #[v] w (TW w):=by
 obtain⟨w0,cG⟩:∃z,z=w.alloc (.cells #[.slice none 0 0,.slice none 0 0,.slice none 0 0] 27):=⟨_,rfl⟩
 have bB:aa w w0:=by rw[cG];exact ag _ (ad _)
 have il:w0.heap.size=w.heap.size+1:=by rw[cG];simp
 have gY:bx w0 w.heap.size (.slice none 0 0) (.slice none 0 0) (.slice none 0 0):=by
  rw[cG];show(w.heap.push _)[w.heap.size]?=_
  rw[Array.getElem?_push_size]
 have H0:=zh (h.keep bB.below);have lC:=zh bB;have mX:=zh il;have iF:=zh gY;have bK:=zh cG;obtain⟨A,c,rfl,-,-,-⟩:=h;clear bB il gY cG
 go_enter Tryz.func32,Tryz.ntmps32
 go_upto_region 1 with(fail);rw[<- bK.out];go_wp2_with fail;refine(qt _ L w0 H0.out hL).mono ?_;rintro e w3 ⟨ve,vi,vn,N,S,sx,rfl,ho,s_,Fe,bN⟩;obtain⟨D0,d0,rfl,-,rM,-⟩:=id ho.read.1;obtain⟨D1,d1,rfl,-,-,-⟩:=id ho.read.2.1;obtain⟨D2,d2,rfl,-,-,-⟩:=id ho.read.2.2
 have ec:bx w3 w.heap.size (.slice none 0 0) (.slice none 0 0) (.slice none 0 0):=(bN.block _ (by have:=mX.out;omega)).trans iF.out
 obtain⟨e0,e1,e2,f0,f1,f2⟩:=ec.box.cells;have Ho:=zh ho;have Mi:=zh s_;have JG:=zh Fe;have Jd:=zh bN;clear ho s_ Fe bN ec;go_wp2;refine bodyPost_ret (v:=.tuple #[.agg #[.slice D0 N.ends.length d0,.slice D1 N.ids.length d1,.slice D2 N.aea.length d2],.int .i64 sx]) (by simp[results,Tryz.results32,go_sem, *]) rfl ?_;have hz:=mX.out
 refine⟨_,_,_,N,S,sx,rfl,(Ho.out.aeb (fun j hj=>dZ _ _ _ _ _ (by have:=(Ho.out.range j hj).1;omega))).mono (by omega),Mi.out,JG.out,?_⟩
 have h1:Below w.heap.size w w3:=Below.trans lC.out.below (Jd.out.mono (by omega));exact((h1.setCell (by simp) _).setCell (by simp) _).setCell (by simp) _
theorem nS (v:Value) (L:Nat) (w:World) (h:OM w v L) (hL:L<=1048576):
  Calls Tryz.prog 44 #[v] w (PB w):=by
 obtain⟨A,c,rfl,hLc,LM,hby⟩:=h;obtain⟨w0,cG⟩:∃z,z=w.alloc (.cells #[.slice none 0 0,.slice none 0 0,.slice none 0 0] 27):=⟨_,rfl⟩
 have bB:aa w w0:=by rw[cG];exact ag _ (ad _)
 have il:w0.heap.size=w.heap.size+1:=by rw[cG];simp
 have gY:bx w0 w.heap.size (.slice none 0 0) (.slice none 0 0) (.slice none 0 0):=by
  rw[cG];show(w.heap.push _)[w.heap.size]?=_
  rw[Array.getElem?_push_size]
 obtain⟨w1,ou⟩:∃z,z=w0.alloc (.cells #[.slice A L c,.int .i64 0,.int .u64 0] 78):=⟨_,rfl⟩
 obtain⟨cb,Ik⟩:∃z,z=w0.heap.size:=⟨_,rfl⟩
 have cY:aa w0 w1:=by rw[ou];exact ag _ (ad _)
 have uy:w1.heap[cb]?=some (.cells #[.slice A L c,.int .i64 0,.int .u64 0] 78):=by
  rw[ou,Ik];show(w0.heap.push _)[w0.heap.size]?=_
  rw[Array.getElem?_push_size]
 have CP:=zh (Jr hby (bB.after cY) (by omega) uy hL hLc);have iF:=zh (gY.since cY);have dC:=zh (bB.after cY);have bK:=zh cG;have Q_:=zh ou;have TJ:Hid (cb=w0.heap.size):=Ik
 have Hz:Hid (w0.heap.size=w.heap.size+1/\w1.heap.size=w.heap.size+1+1/\cb=w.heap.size+1):=⟨il,by rw[ou];simp;omega,by omega⟩
 clear hby bB gY cY uy cG ou Ik il
 go_enter Tryz.func44,Tryz.ntmps44
 go_upto_region 1 with(fail);rw[<- bK.out];go_upto_region 2 with(fail);rw[<- Q_.out,<- TJ.out];go_wp2_with fail;refine(Eo cb A L c 0 w1 CP.out (by omega)).mono ?_;rintro e w2 ⟨sx,rfl,Fe,mv,qp⟩;have sK:=zh mv;have Jh:=zh qp;have JG:=zh Fe;clear Fe mv qp;go_wp2_with fail;refine(Js cb A L c (0+2) sx w2 sK.out (by omega)).mono ?_;rintro e w3 ⟨ve,vi,vn,N,S,rfl,lU,s_,tP,aaS⟩;have ly:CB cb w1.heap.size w1 w3:=Jh.out.trans (aaS.mono Jh.out.size);have ho:=lU.mono Jh.out.size;obtain⟨D0,d0,rfl,-,rM,-⟩:=id ho.read.1;obtain⟨D1,d1,rfl,-,-,-⟩:=id ho.read.2.1;obtain⟨D2,d2,rfl,-,-,-⟩:=id ho.read.2.2;obtain⟨w7,pE⟩:∃z,z=w3.alloc (.cells #[.slice D0 N.ends.length d0,.slice D1 N.ids.length d1,.slice D2 N.aea.length d2] 27):=⟨_,rfl⟩
 obtain⟨pb,gG⟩:∃z,z=w3.heap.size:=⟨_,rfl⟩
 have h37:aa w3 w7:=by rw[pE];exact ag _ (ad _)
 have AB:CB cb w1.heap.size w1 w7:=ly.trans (CB.of (h37.below.mono ly.size))
 have fe:bD w7 pb (.slice D0 N.ends.length d0) (.slice D1 N.ids.length d1) (.slice D2 N.aea.length d2):=by rw[pE,gG];exact bD.new _ _ _ _ _
 have As:w1.heap.size<=pb:=by rw[gG];exact ly.size
 have kD:cb<w1.heap.size:=by have:=Hz.out;omega
 have iN:pb≠cb:=by omega
 obtain⟨P7,Xj⟩:∃z,z=0+2+400000000000000000:=⟨_,rfl⟩
 have HP7:Hid (P7<=3900000000000000000):=by show _<=_;omega
 have B7:Hid (dm w7 cb A L c P7):=by show dm _ _ _ _ _ _;rw[Xj];exact tP.since h37
 have RN:Hid (bx w7 w.heap.size (.slice none 0 0) (.slice none 0 0) (.slice none 0 0)):=(AB.block _ (by have:=Hz.out;omega) (by have:=Hz.out;omega)).trans iF.out
 have acz:Hid (w7.heap.size<=w7.heap.size):=Nat.le_refl _;have hz7:=AB.size
 have DK:Hid (cb<w7.heap.size/\w.heap.size<w7.heap.size):=⟨by omega,by have:=Hz.out;omega⟩
 have HY:Hid (∀W,C2 cb w.heap.size w7 W->W.cell? ⟨pb,0,none⟩=some (.slice D0 N.ends.length d0)/\W.cell? ⟨pb,1,none⟩=some (.slice D1 N.ids.length d1)/\W.cell? ⟨pb,2,none⟩=some (.slice D2 N.aea.length d2)):=fun W hW=>by
  have K6:pb≠w.heap.size:=by have:=Hz.out;omega
  obtain⟨k0,k1,k2,-,-,-⟩:=fe.cells;exact⟨hW.cell k0 iN K6,hW.cell k1 iN K6,hW.cell k2 iN K6⟩
 have Ei:=zh (ho.keep h37.below);have Mi:=zh s_
 have me:Hid (Below w.heap.size w w7):=Below.trans dC.out.below ((AB.mono (by have:=Hz.out;omega)).below (by have:=Hz.out;omega))
 have Hw7:=zh pE;have sM:=zh gG;have Hz7:=zh hz7;clear ho lU s_ tP ly aaS h37 AB fe Xj pE gG hz7;go_upto_region 4 with(fail);rw[<- Hw7.out,<- sM.out];refine j3 9 [5,6] (RW [dM (.agg #[.slice D0 N.ends.length d0,.slice D1 N.ids.length d1,.slice D2 N.aea.length d2]),dM (.int .i64 sx),dM (.pointer (some ⟨cb,0,none⟩)),dM (.agg #[.slice D0 N.ends.length d0,.slice D1 N.ids.length d1,.slice D2 N.aea.length d2]),dM (.int .i64 sx),zC w7.heap.size,fun _ _=>True,dM (.int .i64 sx),zC w7.heap.size]) (vD cb w.heap.size A L c (P7) (10000) 1 w7 (fun W=>bx W w.heap.size (.slice D0 N.ends.length d0) (.slice D1 N.ids.length d1) (.slice D2 N.aea.length d2))) (C2 cb w.heap.size) (RW.rel ?_) (by kernel_rfl) (by kernel_rfl) (by kernel_rfl) (by decide) (by kernel_rfl) (vD.start B7.out RN.out (aj (ad _))) ?_ ?_
 ·intro r hr;simp only[List.mem_cons,List.not_mem_nil,or_false]at hr;rcases hr with rfl | rfl | rfl | rfl | rfl | rfl | rfl | rfl | rfl
  ·exact fun _ _ _ _ h=>h
  ·exact fun _ _ _ _ h=>h
  ·exact fun _ _ _ _ h=>h
  ·exact fun _ _ _ _ h=>h
  ·exact fun _ _ _ _ h=>h
  ·exact zC.rel DK.out.1 DK.out.2
  ·exact fun _ _ _ _ h=>h
  ·exact fun _ _ _ _ h=>h
  ·exact zC.rel DK.out.1 DK.out.2
 ·intro i o hi ho V W q hq hr hd
  match i,ho with
  | 0,ho=>
   cases ho;clear hd hi hr;refine⟨rfl,?_⟩;simp only[aN,zR9,zG,zA]
   obtain⟨k0,k1,k2⟩:=HY.out W hq.rel;refine av (u:=.agg #[.slice D0 N.ends.length d0,.slice D1 N.ids.length d1,.slice D2 N.aea.length d2]) (W':=W) (by go_simp) ⟨hq,C2.refl _ _ _,rfl⟩
  | 1,ho=>
   cases ho;clear hd hi hr;refine⟨rfl,?_⟩;simp only[aN,zR9,zG,zA]
   refine av (u:=.int .i64 sx) (W':=W) (by go_simp) ⟨hq,C2.refl _ _ _,rfl⟩
  | 2,ho=>
   cases ho;clear hd hi hr;refine⟨rfl,?_⟩;simp only[aN,zR9,zG,zA]
   refine av (u:=.pointer (some ⟨cb,0,none⟩)) (W':=W) (by go_simp) ⟨hq,C2.refl _ _ _,rfl⟩
  | 3,ho=>
   cases ho;clear hd hi hr;refine⟨rfl,?_⟩;simp only[aN,zR9,zG,zA]
   obtain⟨k0,k1,k2⟩:=HY.out W hq.rel;refine av (u:=.agg #[.slice D0 N.ends.length d0,.slice D1 N.ids.length d1,.slice D2 N.aea.length d2]) (W':=W) (by go_simp) ⟨hq,C2.refl _ _ _,rfl⟩
  | 4,ho=>
   cases ho;clear hd hi hr;refine⟨rfl,?_⟩;simp only[aN,zR9,zG,zA]
   refine av (u:=.int .i64 sx) (W':=W) (by go_simp) ⟨hq,C2.refl _ _ _,rfl⟩
  | 5,ho=>
   cases ho;have e2:(dM (.pointer (some ⟨cb,0,none⟩))) (V 2) W:=hd 2 (by decide +kernel);have e3:(dM (.agg #[.slice D0 N.ends.length d0,.slice D1 N.ids.length d1,.slice D2 N.aea.length d2])) (V 3) W:=hd 3 (by decide +kernel);have e4:(dM (.int .i64 sx)) (V 4) W:=hd 4 (by decide +kernel);have nZ:Hid (0=q):=hr 0 rfl;clear hd hi hr;refine⟨rfl,?_⟩;simp only[aN,zR9,zG,zA]
   have e2:V 2=_:=e2;have e3:V 3=_:=e3;have e4:V 4=_:=e4;rw[e2,e3,e4];clear e2 e3 e4;refine eM (f:=116) (args:=#[.pointer (some ⟨cb,0,none⟩),.agg #[.slice D0 N.ends.length d0,.slice D1 N.ids.length d1,.slice D2 N.aea.length d2],.int .i64 sx]) (W':=W) (by go_simp) ?_
   refine(Pt cb A L c (P7+10000*q) w1.heap.size _ _ _ N S sx W (hq.cur (by have:=nZ.out;omega)) (by have:=HP7.out;have:=nZ.out;omega) (hq.rel.net (by omega) (by have:=Hz.out;omega) Ei.out) kD Mi.out (by have:=JG.out;omega)).mono ?_
   rintro e W' ⟨u,ls,rfl,lU,Fc,fh,hC⟩
   exact⟨u,rfl,hq.call (by have:=nZ.out;omega) hC fh (by omega) (by have:=Hz.out;omega),C2.of hC,ls,lU.mono hq.rel.size,Fc⟩
  | 6,ho=>
   cases ho;have e0:(dM (.agg #[.slice D0 N.ends.length d0,.slice D1 N.ids.length d1,.slice D2 N.aea.length d2])) (V 0) W:=hd 0 (by decide +kernel);have nZ:Hid (1=q):=hr 1 rfl;clear hd hi hr;refine⟨rfl,?_⟩;simp only[aN,zR9,zG,zA]
   have e0:V 0=_:=e0;rw[e0];clear e0
   obtain⟨g0,g1,g2,f0,f1,f2⟩:=(hq.box (by have:=nZ.out;omega)).box.cells
   refine En (W':=aed W w.heap.size (.slice D0 N.ends.length d0) (.slice D1 N.ids.length d1) (.slice D2 N.aea.length d2)) (by unfold aed;go_simp) ⟨hq.store (by have:=nZ.out;omega) ((hq.box (by have:=nZ.out;omega)).aed _ _ _),C2.set _ _ _ _ _ _,trivial⟩
  | 7,ho=>
   cases ho;have e1:(dM (.int .i64 sx)) (V 1) W:=hd 1 (by decide +kernel);clear hd hi hr;refine⟨rfl,?_⟩;simp only[aN,zR9,zG,zA]
   have e1:V 1=_:=e1;rw[e1];clear e1;refine av (u:=.int .i64 sx) (W':=W) (by go_simp) ⟨hq,C2.refl _ _ _,rfl⟩
  | 8,ho=>
   cases ho;have e5:(zC w7.heap.size) (V 5) W:=hd 5 (by decide +kernel);clear hd hi hr;refine⟨rfl,?_⟩;simp only[aN,zR9,zG,zA]
   obtain⟨ls,lU,Fc⟩:=e5;obtain⟨A',c',hA,-,-,-⟩:=id lU.ints;rw[hA]at lU ⊢;clear hA;refine av (u:=.slice A' ls.length c') (W':=W) (by go_simp) ⟨hq,C2.refl _ _ _,ls,lU,Fc⟩
  | i+9,ho=>omega
 intro V W q hq DM bZ hV;have LL:1<q:=bZ 6 1 (by omega) rfl;have e0:(dM (.agg #[.slice D0 N.ends.length d0,.slice D1 N.ids.length d1,.slice D2 N.aea.length d2])) (V 0) W:=hV 0 (by decide);have e1:(dM (.int .i64 sx)) (V 1) W:=hV 1 (by decide);have e2:(dM (.pointer (some ⟨cb,0,none⟩))) (V 2) W:=hV 2 (by decide);have e3:(dM (.agg #[.slice D0 N.ends.length d0,.slice D1 N.ids.length d1,.slice D2 N.aea.length d2])) (V 3) W:=hV 3 (by decide);have e4:(dM (.int .i64 sx)) (V 4) W:=hV 4 (by decide);have e5:(zC w7.heap.size) (V 5) W:=hV 5 (by decide);have e6:(fun _ _=>True) (V 6) W:=hV 6 (by decide)
 have e7:(dM (.int .i64 sx)) (V 7) W:=hV 7 (by decide);have e8:(zC w7.heap.size) (V 8) W:=hV 8 (by decide);clear hV bZ;have e0:V 0=_:=e0;have e1:V 1=_:=e1;have e2:V 2=_:=e2;have e3:V 3=_:=e3;have e4:V 4=_:=e4
 obtain⟨l5,o5,n5⟩:=e5;obtain⟨A5,c5,e5,-,-,-⟩:=id o5.ints
 have e7:V 7=_:=e7
 obtain⟨l8,o8,n8⟩:=e8;obtain⟨A8,c8,e8,-,-,-⟩:=id o8.ints;rw[e8]at o8;have h8o:=zh o8;clear o8
 simp only[aN,zR9,zG]
 (try simp only[zA])
 simp only[List.drop_succ_cons,List.drop_zero];rw[e0,e1,e2,e3,e4,e5,e7,e8];clear e0 e1 e2 e3 e4 e5 e6 e7 e8;go_wp2;have hTd:=hq.done LL;have hrel:=hq.rel;obtain⟨t0,t1,t2,-,-,-⟩:=hTd.box.cells;refine bodyPost_ret (v:=.tuple #[.agg #[.slice D0 N.ends.length d0,.slice D1 N.ids.length d1,.slice D2 N.aea.length d2],.int .i64 sx,.slice A8 l8.length c8]) (by simp[results,Tryz.results44,go_sem, *]) rfl ?_;have hzz:=Hz.out;have hz8:=Hz7.out;refine⟨_,_,_,N,S,_,l8,sx,rfl,(hrel.net (by omega) (by omega) Ei.out).mono (by omega),Mi.out,JG.out,Own.mono h8o.out (by omega),n8,hrel.below me.out (by omega) (by omega) me.out.size⟩
theorem rH (v:Value) (L:Nat) (w:World) (h:OM w v L) (hL:L<=1048576):
  Calls Tryz.prog 41 #[v] w (PB w):=by
 obtain⟨w0,cG⟩:∃z,z=w.alloc (.cells #[.slice none 0 0,.slice none 0 0,.slice none 0 0] 27):=⟨_,rfl⟩
 have bB:aa w w0:=by rw[cG];exact ag _ (ad _)
 have il:w0.heap.size=w.heap.size+1:=by rw[cG];simp
 have gY:bx w0 w.heap.size (.slice none 0 0) (.slice none 0 0) (.slice none 0 0):=by
  rw[cG];show(w.heap.push _)[w.heap.size]?=_
  rw[Array.getElem?_push_size]
 have H0:=zh (h.keep bB.below);have lC:=zh bB;have mX:=zh il;have iF:=zh gY;have bK:=zh cG;obtain⟨A,c,rfl,-,-,-⟩:=h;clear bB il gY cG
 go_enter Tryz.func41,Tryz.ntmps41
 go_upto_region 1 with(fail);rw[<- bK.out];go_wp2_with fail;refine(nS _ L w0 H0.out hL).mono ?_;rintro e w3 ⟨ve,vi,vn,N,S,u,ls,sx,rfl,ho,s_,Fe,zx,Jo,bN⟩;obtain⟨D0,d0,rfl,-,rM,-⟩:=id ho.read.1;obtain⟨D1,d1,rfl,-,-,-⟩:=id ho.read.2.1;obtain⟨D2,d2,rfl,-,-,-⟩:=id ho.read.2.2;obtain⟨AU,cU,rfl,-,-,-⟩:=id zx.ints
 have ec:bx w3 w.heap.size (.slice none 0 0) (.slice none 0 0) (.slice none 0 0):=(bN.block _ (by have:=mX.out;omega)).trans iF.out
 obtain⟨e0,e1,e2,f0,f1,f2⟩:=ec.box.cells;have Ho:=zh ho;have Mi:=zh s_;have JG:=zh Fe;have Jd:=zh bN;have Sb:=zh zx;have Vl:=zh Jo;clear ho s_ Fe bN ec zx Jo;go_wp2;refine bodyPost_ret (v:=.tuple #[.agg #[.slice D0 N.ends.length d0,.slice D1 N.ids.length d1,.slice D2 N.aea.length d2],.int .i64 sx,.slice AU ls.length cU]) (by simp[results,Tryz.results41,go_sem, *]) rfl ?_;have hz:=mX.out;have aaT:∀j,w.heap.size<j->(aed w3 w.heap.size (.slice D0 N.ends.length d0) (.slice D1 N.ids.length d1) (.slice D2 N.aea.length d2)).heap[j]?=w3.heap[j]?:=fun j hj=>dZ _ _ _ _ _ (by omega)
 refine⟨_,_,_,N,S,_,ls,sx,rfl,(Ho.out.aeb (fun j hj=>aaT j (by have:=(Ho.out.range j hj).1;omega))).mono (by omega),Mi.out,JG.out,Own.mono (aK Sb.out (fun j hj=>aaT j (by have:=(World.ownsRow.lt Sb.out j (by simpa using hj)).1;omega))) (by omega),Vl.out,?_⟩
 have h1:Below w.heap.size w w3:=Below.trans lC.out.below (Jd.out.mono (by omega));exact((h1.setCell (by simp) _).setCell (by simp) _).setCell (by simp) _
theorem aaU:AW:=fun x w h0 h1=>Tryz.bits_Len64 x w h0 h1
theorem Se (v:Value) (xs:List Int) (x:Int) (w:World) (h:aY w v xs):Calls Tryz.prog 40 #[v,.int .i64 x] w fun e w'=>e=.returned (.bool (iB xs x))/\w=w':=by
 obtain⟨A,c,rfl,eV,hm,hA⟩:=h;unfold maxLen at hm;have HA:=zh hA;clear hA
 go_enter Tryz.func40,Tryz.ntmps40
 go_wp2
 go_loop [9] (fun i=>∃k:Nat,k<=xs.length/\i=.int .i64 k/\x∉xs.take k) (fun i=>xs.length-(intOf i).toNat)
 case atStart=>exact⟨0,Nat.zero_le _,rfl,by simp⟩
 case round=>
  obtain⟨k,hk,rfl,iA⟩:=hrel;have q9:=zh iA;clear iA
  by_cases hlt:k<xs.length
  ·obtain⟨y,hy⟩:=aM xs k hlt;obtain⟨b,off,rfl,fj⟩:=HA.out k y hy;have Hy:=zh hy;clear hy
   by_cases JR:y=x
   ·subst JR;go_wp2;go_ret
    exact⟨kY (by unfold iB;simpa using List.mem_of_getElem? Hy.out),rfl⟩
   ·go_wp2
    go_round
    case rel=>
     refine⟨k+1,by omega,by simp,?_⟩
     rw[bh Hy.out];simp only[List.mem_append,List.mem_singleton,not_or];exact⟨q9.out,fun e=>JR e.symm⟩
    case measure=>simp[intOf];omega
  ·go_wp2;go_ret
   have:=q9.out
   rw[jo xs hlt]at this
   exact⟨bw (by unfold iB;simpa using this),rfl⟩
theorem Sf {xs:List Int} {x:Int} (h:x∈xs):iB xs x=true:=by
 unfold iB;simpa using h
theorem Cq (v:Value) (L:Nat) (w:World) (h:OM w v L) (hL:L<=1048576):
  Calls Tryz.prog 36 #[v] w fun e w'=>(∃x:Nat,e=.returned (.int .i64 x)/\x<1000003)/\w=w':=by
 obtain⟨A,c,rfl,eV,hm,hA⟩:=h;unfold maxLen at hm;have HA:=zh hA;clear hA
 go_enter Tryz.func36,Tryz.ntmps36
 go_wp2
 go_loopw [3,8] (fun s i wr=>∃k q:Nat,k<=L/\q<1000003/\i=.int .i64 k/\s=.int .i64 q/\wr=w) (fun _ i _=>L-(intOf i).toNat)
 case atStart=>exact⟨0,0,Nat.zero_le _,by omega,rfl,rfl,rfl⟩
 case round=>
  obtain⟨k,q,hk,hq,rfl,rfl,rfl⟩:=hrel
  by_cases hlt:k<L
  ·have m3:IntKind.i64.wrap ((k:Int)+1)=(k:Int)+1:=aF _ (by omega) (by omega);obtain⟨b,off,x,rfl,hc,h0,h1⟩:=HA.out k hlt;obtain⟨y,rfl⟩:=Int.eq_ofNat_of_zero_le h0;obtain⟨z,hz⟩:∃z,z=(31*q+y)%1000003:=⟨_,rfl⟩
   have dV:z<1000003:=by rw[hz];exact Nat.mod_lt _ (by omega)
   obtain⟨a,ha⟩:∃a,a=31*q:=⟨_,rfl⟩
   obtain⟨d,hd⟩:∃d,d=a+y:=⟨_,rfl⟩
   have m4:IntKind.i64.wrap (31*(q:Int))=(a:Int):=by rw[aF _ (by omega) (by omega)];omega
   have m5:IntKind.i64.wrap (y:Int)=(y:Int):=aF _ (by omega) (by omega)
   have m6:IntKind.i64.wrap ((a:Int)+(y:Int))=(d:Int):=by rw[aF _ (by omega) (by omega)];omega
   have m7:Int.tmod (d:Int) 1000003=(z:Int):=by rw[Int.tmod_eq_emod_of_nonneg (by omega)];rw[hz,hd,ha];simp
   have m8:(d:Int)%1000003=(z:Int):=by rw[hz,hd,ha];simp
   have m9:IntKind.i64.wrap (z:Int)=(z:Int):=aF _ (by omega) (by omega);clear hz ha hd h0 h1;go_wp2;go_roundw
   case rel=>exact⟨k+1,z,by omega,dV,by first | rfl | go_num,by first | rfl | go_num,by first | rfl | trivial⟩
   case measure=>simp[intOf];omega
  ·go_wp2;go_ret;exact⟨⟨q,rfl,hq⟩,rfl⟩
end Go.Proofs.YtgmdpppljkmabaaGreat
