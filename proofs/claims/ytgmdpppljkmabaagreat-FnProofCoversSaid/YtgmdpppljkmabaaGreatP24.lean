/- Parts of the proof: walks of functions and plain laws. -/
import Derived.Test.YtgmdpppljkmabaaGreatP0
import Derived.Test.YtgmdpppljkmabaaGreatP21
import Derived.Test.YtgmdpppljkmabaaGreatP23
import Derived.Test.YtgmdpppljkmabaaGreatP10
import Derived.Test.YtgmdpppljkmabaaGreatP2
set_option maxRecDepth 100000
set_option maxHeartbeats 16000000
namespace Go.Proofs.YtgmdpppljkmabaaGreat
open Go Go.RowKit
theorem R9 {ps:List Int} (h:ps.length=4):∃a b c d,ps=[a,b,c,d]:=by
 match ps,h with
 | [a,b,c,d],_=>exact⟨a,b,c,d,rfl⟩
theorem LW (s:Int) (hs:s=4\/s=5) (v:Value) (ps:List Int) (w:World) (h:aO w v ps) (hl:ps.length=(aF s).length+1):
  Calls Tryz.prog 167 #[.int .i64 s,v] w fun e w'=>(∃x:Int,e=.returned (.int .i64 x))/\Below w.heap.size w w':=by
 rcases hs with rfl | rfl
 ·obtain⟨a,b,rfl⟩:=XC (ps:=ps) (by simpa[aF]using hl);exact Lv v a b w h
 ·obtain⟨a,b,c,d,rfl⟩:=R9 (ps:=ps) (by simpa[aF]using hl);exact Lu v a b c d w h
theorem ar.acY {w:World} {B:Nat} {ve vi vn:Value} {n:aj} {S:List Nat} (h:ar w B ve vi vn n S):Own w B vi n.ids:=by
 obtain⟨S1,S2,S3,-,h2,-⟩:=h;exact h2.1
def abi (cb B:Nat) (A:Option Addr) (L c P:Nat) (w:World) (e:Ending) (w':World):Prop:=
 ∃u ls,e=.returned u/\Own w' B u ls/\ls.length<=200/\cG w' cb A L c P/\CB cb B w w'
theorem LX (cb:Nat) (A:Option Addr) (L c P Bn:Nat) (ve vi vn:Value) (n:aj) (Sn:List Nat) (s:Int) (w:World) (hc:cG w cb A L c P) (hP:P<=4000000000000000000) (ho:ar w Bn ve vi vn n Sn) (jR:cb<Bn) (vO:Bd n) (hs : -9223372036854775808<=s/\s<=9223372036854775807):
  Calls Tryz.prog 116 #[.pointer (some ⟨cb,0,none⟩),.agg #[ve,vi,vn],.int .i64 s] w (abi cb w.heap.size A L c (P+10000) w):=by
 have ig:=hc.lt;have hi:=ho.acY;obtain⟨A0,c0,rfl,-,uf,-⟩:=id ho.read.1;obtain⟨AI,c2,rfl,-,ru,-⟩:=id ho.read.2.1;obtain⟨AN,cN,rfl,-,f8,-⟩:=id ho.read.2.2;obtain⟨w0,bQ⟩:∃z,z=w.alloc (.cells #[.slice A0 n.ends.length c0,.slice AI n.ids.length c2,.slice AN n.acn.length cN] 27):=⟨_,rfl⟩
 obtain⟨pb,fb⟩:∃z,z=w.heap.size:=⟨_,rfl⟩
 have aU:ab w w0:=by rw[bQ];exact ad _ (aa _)
 have gx:w0.heap.size=w.heap.size+1:=by rw[bQ];simp
 have dT:aY w0 pb (.slice A0 n.ends.length c0) (.slice AI n.ids.length c2) (.slice AN n.acn.length cN):=by rw[bQ,fb];exact aY.new _ _ _ _ _
 have gX:pb≠cb:=by omega
 have Y0:=au dT.cells.1 gX;have Y1:=au dT.cells.2.1 gX;have HN:Hid (∀W,dK cb w0 W->aC W (.slice A0 n.ends.length c0) (.slice AI n.ids.length c2) (.slice AN n.acn.length cN) n):=fun W hW=>((ho.keep aU.below).seen hW jR).read
 have HO:Hid (∀W,dK cb w0 W->Own W Bn (.slice AI n.ids.length c2) n.ids):=fun W hW=>Own.seen (Own.since hi aU) hW jR
 have jj:=zh aU;have mA:=zh gx;have uJ:=zh dT;have bS:=zh bQ;have eO:=zh fb;have XD:=zh Y0;have Y7:=zh Y1;have Ez:=zh (hc.since aU);have Tj:=zh vO;have lm:=zh vO.small.sz;have iJ:n.ends.length<=100:=vO.ends;have vI:cb<w0.heap.size:=by omega
 have abj:dK cb w0 w0:=dK.refl _ _;have xG:=kQ _ _ _ n s w0 (HN.out w0 abj) hs lm.out;obtain⟨PP,hPP⟩:∃z,z=bD n s:=⟨_,rfl⟩
 obtain⟨pr,XE⟩:∃z,z=bw n s:=⟨_,rfl⟩
 have hPl:PP.length<=100:=by rw[hPP];exact Iy _ _
 rw[<- hPP,<- XE]at xG;have Hcc:=zh xG;clear hc ho hi aU gx dT bQ fb vO xG hPP XE Y0 Y1 uf ru f8
 go_enter Tryz.func116,Tryz.ntmps116
 go_upto_region 2 with(fail);rw[<- bS.out,<- eO.out];obtain⟨k0,k1,k2,-,-,-⟩:=uJ.out.cells;go_wp2_with fail;refine Hcc.out.mono ?_;rintro e w1 ⟨u1,rfl,gR,aN⟩;obtain⟨A1,c1,rfl,-,ru,-⟩:=id gR.ints;have R_:Hid (dK cb w0 w1):=CB.of aN;have kB:=zh (Ez.out.since aN);have vS:=zh gR;clear gR aN k0 k1 k2 Hcc;go_upto_region 3 with(fail)
 go_cut [24]from 19 to 24 (fun t wx=>∃b:Bool,t=.bool b/\cG wx cb A L c (P+2)/\dK cb w0 wx/\Own wx w0.heap.size (.slice A1 PP.length c1) PP)
 case first=>
  cases pr
  ·go_wp2;go_meet
   case rel=>exact⟨_,rfl,kB.out.mono (by omega),R_.out,vS.out⟩
  ·go_wp2_with fail;refine(k8 cb A L c P 4 w1 kB.out (by omega) (by omega)).mono ?_;rintro e w2 ⟨b,rfl,mD,pU⟩;have sS:=zh mD;have n_:=zh (R_.out.trans pU);have fG:=zh (Own.seen vS.out pU vI);clear mD pU;go_wp2;go_meet
   case rel=>exact⟨_,by first | rfl | simp,sS.out,n_.out,fG.out⟩
 case rest=>
 obtain⟨b0,lV,eQ,F6,s_⟩:=hcut;subst lV;obtain⟨w2,rfl⟩:∃z,z=wc:=⟨_,rfl⟩
 have sS:=zh eQ;have n_:=zh F6;have fG:=zh s_;clear eQ F6 s_ kB R_ vS
 go_upto_if 24 with(fail)
 go_cut [7,10,11]from 24 to 74 (fun l _ _ wx=>∃ls,Own wx w0.heap.size l ls/\ls.length<=100/\cG wx cb A L c (P+5000)/\dK cb w0 wx)
 case first=>
  cases b0
  rotate_left
  ·go_wp2_with fail;refine(lH _ PP w2 fG.out.ints (by omega)).mono ?_;rintro e w3 ⟨u3,rfl,ex,bB⟩;have jy:=zh (Own.mono ex n_.out.size);have abk:=zh (n_.out.after bB);have Ex:=zh (sS.out.since bB);obtain⟨A3,c3,rfl,-,-,-⟩:=id ex.ints;clear ex bB;go_wp2;go_meet
   case rel=>exact⟨PP,jy.out,hPl,Ex.out.mono (by omega),abk.out⟩
  ·have k0:=XD.out w2 n_.out;go_upto_region 6 with(fail);clear k0
   go_loopw [7,30] (fun u i wr=>∃(k:Nat) (ls:List Int),k<=n.ends.length/\i=.int .i64 k/\Own wr w0.heap.size u ls/\ls.length=k/\cG wr cb A L c (P+2+20*k)/\dK cb w0 wr) (fun _ i _=>n.ends.length-(intOf i).toNat)
   case atStart=>exact⟨0,[],Nat.zero_le _,rfl,bU _ _,rfl,sS.out,n_.out⟩
   case round=>
    obtain⟨k,ls,hk,rfl,sY,FH,eQ,F6⟩:=hrel;obtain⟨AU,cU,rfl,-,-,-⟩:=id sY.ints;have Tk:=zh sY;have Ny:=zh FH;have zg:=zh eQ;have Tl:=zh F6;clear sY FH eQ F6
    by_cases az:k<n.ends.length
    ·have m3:IntKind.i64.wrap ((k:Int)+1)=(k:Int)+1:=aH _ (by omega) (by omega);go_wp2_with fail;refine(db cb A L c (P+2+20*k) 4 wr zg.out (by omega) (by omega)).mono ?_;rintro e w5 ⟨x,rfl,-,kC,rm⟩;have E4:=zh (Own.seen Tk.out rm vI);have xh:=zh (Tl.out.trans rm);obtain⟨P5,H8⟩:∃z,z=P+2+20*k+2:=⟨_,rfl⟩
     rw[<- H8]at kC;have sZ:=zh kC;have Sa:=zh H8
     have Tm:Hid (P5<=4100000000000000000):=by show _<=_;omega
     clear kC rm H8;go_upto_region 9 with(fail);have k0:=XD.out w5 xh.out;have k1:=Y7.out w5 xh.out
     go_cut [49]from 35 to 49 (fun t wx=>∃b:Bool,t=.bool b/\(b=true->n.ids.length=n.ends.length/\(s=4\/s=5))/\wx=w5)
     case first=>
      by_cases h1:n.ids.length=n.ends.length
      ·have e1:((n.ids.length:Int)==(n.ends.length:Int))=true:=by simp[h1]
       have H1:=zh h1;clear h1
       by_cases h2:4<=s
       ·have e2:(4<=s)=True:=by simp[h2]
        go_wp2_with fail;refine(oW s _).mono ?_;rintro e w6 ⟨rfl,rfl⟩;obtain⟨bb,B4⟩:∃z,z=fF 1 5 s:=⟨_,rfl⟩
        rw[<- B4];have ze:=zh B4;clear B4;go_wp2;go_meet
        case rel=>exact⟨bb,rfl,fun h=>⟨H1.out,by have h9:=bz.1 (ze.out.symm.trans h);omega⟩,rfl⟩
       ·have e2:(4<=s)=False:=by simp;omega
        go_wp2;go_meet
        case rel=>exact⟨false,rfl,fun h=>by simp at h,rfl⟩
      ·have e1:((n.ids.length:Int)==(n.ends.length:Int))=false:=by simp;omega
       go_wp2;go_meet
       case rel=>exact⟨false,rfl,fun h=>by simp at h,rfl⟩
     case rest=>
     obtain⟨b1,aN,AD,hwx⟩:=hcut;subst aN;have abl:=hwx.symm;clear hwx;subst abl;have Y8:=zh AD;clear AD k0 k1
     go_upto_if 49 with(fail)
     go_cut [11]from 49 to 67 (fun t wx=>∃x:Int,t=.int .i64 x/\cG wx cb A L c (P5+10)/\dK cb w5 wx)
     case first=>
      cases b1
      ·go_wp2;go_meet
       case rel=>exact⟨_,rfl,sZ.out.mono (by omega),dK.refl _ _⟩
      ·obtain⟨uI,On⟩:=Y8.out rfl;have P_:0<n.ids.length:=by omega
       obtain⟨P2,iT⟩:=aA n.ids 0 P_;have Y9:=HO.out w5 xh.out
       obtain⟨g2,rfl⟩:∃g2,AI=some ⟨g2,0,none⟩:=by
        rcases Y9.cases with⟨-,e1⟩ | ⟨gd,cd,hv,-,-⟩
        ·rw[e1]at P_;simp at P_
        ·cases hv;exact⟨gd,rfl⟩
       have l7:g2≠cb:=by have:=(World.ownsRow.lt Y9 g2 rfl).1;omega
       have hce:=Y9.cell iT;have HY:Hid (∀W,C2 cb cb w5 W->W.cell? ⟨pb,1,none⟩=some (.slice (some ⟨g2,0,none⟩) n.ids.length c2)/\W.cell? ⟨g2,0,none⟩=some (.int .i64 P2)):=fun W hW=>⟨hW.cell (Y7.out w5 xh.out) gX gX,hW.cell hce l7 l7⟩
       obtain⟨m,hm⟩:∃m,m=(aF s).length:=⟨_,rfl⟩
       have fP:m<=3:=by rw[hm];unfold aF;split <;> (try split) <;> simp
       obtain⟨m1,ww⟩:∃m1,m1=m+1:=⟨_,rfl⟩
       have Hm:=zh hm;have Hm1:=zh ww
       have abm:Hid (IntKind.i64.wrap ((m:Int)+1)=(m1:Int)):=by show _=_;rw[aH _ (by omega) (by omega)];omega
       have LC:Hid (m1<=4):=by show _<=_;omega
       have Wr:=zh P_;have abn:=zh On;have HBz:Hid (w5.heap.size<=w5.heap.size):=Nat.le_refl _;have CR:Hid (cb<w5.heap.size):=sZ.out.lt;clear uI On iT Y9 hce hm ww P_;go_upto_region 10 with(fail);refine jq 19 [6,8,10,13,17] (RW [dk (.int .i64 s),dk (.pointer (some ⟨pb,1,none⟩)),dk (.slice (some ⟨g2,0,none⟩) n.ids.length c2),dk (.pointer (some ⟨g2,0,none⟩)),dk (.int .i64 P2),dk (.pointer (some ⟨cb,0,none⟩)),jF (3),dk (.pointer (some ⟨cb,0,none⟩)),jF (3),dk (.pointer (some ⟨cb,0,none⟩)),jF (2),pM w5.heap.size 4 4,dk (.int .i64 s),fun u _=>∃A' c',u=.slice A' m c',dk (.int .i64 (m:Int)),dk (.int .i64 (m1:Int)),pM w5.heap.size m1 4,xg,xg]) (kD cb A L c (P5) (2) w5) (C2 cb cb) (RW.rel ?_) (by kernel_rfl) (by kernel_rfl) (by kernel_rfl) (by decide) (by kernel_rfl) (kD.start sZ.out (ah (aa _))) ?_ ?_
       ·intro r hr;simp only[List.mem_cons,List.not_mem_nil,or_false]at hr;rcases hr with rfl | rfl | rfl | rfl | rfl | rfl | rfl | rfl | rfl | rfl | rfl | rfl | rfl | rfl | rfl | rfl | rfl | rfl | rfl
        ·exact fun _ _ _ _ h=>h
        ·exact fun _ _ _ _ h=>h
        ·exact fun _ _ _ _ h=>h
        ·exact fun _ _ _ _ h=>h
        ·exact fun _ _ _ _ h=>h
        ·exact fun _ _ _ _ h=>h
        ·exact fun _ _ _ _ h=>h
        ·exact fun _ _ _ _ h=>h
        ·exact fun _ _ _ _ h=>h
        ·exact fun _ _ _ _ h=>h
        ·exact fun _ _ _ _ h=>h
        ·exact pM.rel CR.out CR.out
        ·exact fun _ _ _ _ h=>h
        ·exact fun _ _ _ _ h=>h
        ·exact fun _ _ _ _ h=>h
        ·exact fun _ _ _ _ h=>h
        ·exact pM.rel CR.out CR.out
        ·exact fun _ _ _ _ h=>h
        ·exact fun _ _ _ _ h=>h
       ·intro i o hi ho V W q hq hr hd
        match i,ho with
        | 0,ho=>
         cases ho;clear hd hi hr;refine⟨rfl,?_⟩;simp only[ap,zR19,zG,zA]
         refine aq (u:=.int .i64 s) (W':=W) (by go_simp) ⟨hq,C2.refl _ _ _,rfl⟩
        | 1,ho=>
         cases ho;clear hd hi hr;refine⟨rfl,?_⟩;simp only[ap,zR19,zG,zA]
         refine aq (u:=.pointer (some ⟨pb,1,none⟩)) (W':=W) (by go_simp) ⟨hq,C2.refl _ _ _,rfl⟩
        | 2,ho=>
         cases ho;have e1:(dk (.pointer (some ⟨pb,1,none⟩))) (V 1) W:=hd 1 (by decide +kernel);clear hd hi hr;refine⟨rfl,?_⟩;simp only[ap,zR19,zG,zA]
         have e1:V 1=_:=e1;rw[e1];clear e1;have k1:=(HY.out W hq.rel).1;refine aq (u:=.slice (some ⟨g2,0,none⟩) n.ids.length c2) (W':=W) (by go_simp) ⟨hq,C2.refl _ _ _,rfl⟩
        | 3,ho=>
         cases ho;have e2:(dk (.slice (some ⟨g2,0,none⟩) n.ids.length c2)) (V 2) W:=hd 2 (by decide +kernel);clear hd hi hr;refine⟨rfl,?_⟩;simp only[ap,zR19,zG,zA]
         have e2:V 2=_:=e2;rw[e2];clear e2;have P_:=Wr.out;refine aq (u:=.pointer (some ⟨g2,0,none⟩)) (W':=W) (by go_simp) ⟨hq,C2.refl _ _ _,rfl⟩
        | 4,ho=>
         cases ho;have e3:(dk (.pointer (some ⟨g2,0,none⟩))) (V 3) W:=hd 3 (by decide +kernel);clear hd hi hr;refine⟨rfl,?_⟩;simp only[ap,zR19,zG,zA]
         have e3:V 3=_:=e3;rw[e3];clear e3;have k1:=(HY.out W hq.rel).2;refine aq (u:=.int .i64 P2) (W':=W) (by go_simp) ⟨hq,C2.refl _ _ _,rfl⟩
        | 5,ho=>
         cases ho;clear hd hi hr;refine⟨rfl,?_⟩;simp only[ap,zR19,zG,zA]
         refine aq (u:=.pointer (some ⟨cb,0,none⟩)) (W':=W) (by go_simp) ⟨hq,C2.refl _ _ _,rfl⟩
        | 6,ho=>
         cases ho;have e5:(dk (.pointer (some ⟨cb,0,none⟩))) (V 5) W:=hd 5 (by decide +kernel);have oo:Hid (0=q):=hr 0 rfl;clear hd hi hr;refine⟨rfl,?_⟩;simp only[ap,zR19,zG,zA]
         have e5:V 5=_:=e5;rw[e5];clear e5;refine ee (f:=62) (args:=#[.pointer (some ⟨cb,0,none⟩),.int .i64 3]) (W':=W) (by go_simp) ?_
         refine(db cb A L c (P5+2*q) (3) W hq.cur (by have:=Tm.out;have:=oo.out;omega) (by omega)).mono ?_
         rintro e W' ⟨z,rfl,hz,eQ,hC⟩;exact⟨_,rfl,hq.call hC eQ (by omega),C2.of hC,z,rfl,hz⟩
        | 7,ho=>
         cases ho;clear hd hi hr;refine⟨rfl,?_⟩;simp only[ap,zR19,zG,zA]
         refine aq (u:=.pointer (some ⟨cb,0,none⟩)) (W':=W) (by go_simp) ⟨hq,C2.refl _ _ _,rfl⟩
        | 8,ho=>
         cases ho;have e7:(dk (.pointer (some ⟨cb,0,none⟩))) (V 7) W:=hd 7 (by decide +kernel);have oo:Hid (1=q):=hr 1 rfl;clear hd hi hr;refine⟨rfl,?_⟩;simp only[ap,zR19,zG,zA]
         have e7:V 7=_:=e7;rw[e7];clear e7;refine ee (f:=62) (args:=#[.pointer (some ⟨cb,0,none⟩),.int .i64 3]) (W':=W) (by go_simp) ?_
         refine(db cb A L c (P5+2*q) (3) W hq.cur (by have:=Tm.out;have:=oo.out;omega) (by omega)).mono ?_
         rintro e W' ⟨z,rfl,hz,eQ,hC⟩;exact⟨_,rfl,hq.call hC eQ (by omega),C2.of hC,z,rfl,hz⟩
        | 9,ho=>
         cases ho;clear hd hi hr;refine⟨rfl,?_⟩;simp only[ap,zR19,zG,zA]
         refine aq (u:=.pointer (some ⟨cb,0,none⟩)) (W':=W) (by go_simp) ⟨hq,C2.refl _ _ _,rfl⟩
        | 10,ho=>
         cases ho;have e9:(dk (.pointer (some ⟨cb,0,none⟩))) (V 9) W:=hd 9 (by decide +kernel);have oo:Hid (2=q):=hr 2 rfl;clear hd hi hr;refine⟨rfl,?_⟩;simp only[ap,zR19,zG,zA]
         have e9:V 9=_:=e9;rw[e9];clear e9;refine ee (f:=62) (args:=#[.pointer (some ⟨cb,0,none⟩),.int .i64 2]) (W':=W) (by go_simp) ?_
         refine(db cb A L c (P5+2*q) (2) W hq.cur (by have:=Tm.out;have:=oo.out;omega) (by omega)).mono ?_
         rintro e W' ⟨z,rfl,hz,eQ,hC⟩;exact⟨_,rfl,hq.call hC eQ (by omega),C2.of hC,z,rfl,hz⟩
        | 11,ho=>
         cases ho;have e4:(dk (.int .i64 P2)) (V 4) W:=hd 4 (by decide +kernel);have e6:(jF (3)) (V 6) W:=hd 6 (by decide +kernel);have e8:(jF (3)) (V 8) W:=hd 8 (by decide +kernel);have zS:(jF (2)) (V 10) W:=hd 10 (by decide +kernel);clear hd hi hr;refine⟨rfl,?_⟩;simp only[ap,zR19,zG,zA]
         have e4:V 4=_:=e4;obtain⟨z6,h6,-⟩:=e6;obtain⟨z8,h8,-⟩:=e8;obtain⟨Y_,h10,-⟩:=zS;rw[e4,h6,h8,h10];clear e4 h6 h8 h10;refine aq (u:=.slice (some ⟨W.heap.size,0,none⟩) 4 4) (W':=W.alloc (.cells #[.int .i64 P2,.int .i64 (z6:Int),.int .i64 (z8:Int),.int .i64 (Y_:Int)] 3)) (by go_simp) ⟨hq.since (ad _ (aa _)),C2.since (ad _ (aa _)),W.heap.size,[P2,(z6:Int),(z8:Int),(Y_:Int)],rfl,rfl,(fD W [P2,(z6:Int),(z8:Int),(Y_:Int)] (by simp[maxLen])).mono (Nat.le_trans HBz.out hq.rel.size)⟩
        | 12,ho=>
         cases ho;clear hd hi hr;refine⟨rfl,?_⟩;simp only[ap,zR19,zG,zA]
         refine aq (u:=.int .i64 s) (W':=W) (by go_simp) ⟨hq,C2.refl _ _ _,rfl⟩
        | 13,ho=>
         cases ho;have zv:(dk (.int .i64 s)) (V 12) W:=hd 12 (by decide +kernel);have oo:Hid (3=q):=hr 3 rfl;clear hd hi hr;refine⟨rfl,?_⟩;simp only[ap,zR19,zG,zA]
         have zv:V 12=_:=zv;rw[zv];clear zv;refine ee (f:=180) (args:=#[.int .i64 s]) (W':=W) (by go_simp) ?_;refine(eS s W).mono ?_;rintro e W' ⟨u,rfl,ho,hb⟩;obtain⟨A',c',hu,-,-,-⟩:=id ho.ints
         exact⟨_,rfl,hq.next hb,C2.since hb,A',c',by rw[Hm.out];exact hu⟩
        | 14,ho=>
         cases ho;have C7:(fun u _=>∃A' c',u=.slice A' m c') (V 13) W:=hd 13 (by decide +kernel)
         clear hd hi hr;refine⟨rfl,?_⟩;simp only[ap,zR19,zG,zA]
         obtain⟨A',c',h13⟩:=C7;rw[h13];clear h13;refine aq (u:=.int .i64 (m:Int)) (W':=W) (by go_simp) ⟨hq,C2.refl _ _ _,rfl⟩
        | 15,ho=>
         cases ho;have zw:(dk (.int .i64 (m:Int))) (V 14) W:=hd 14 (by decide +kernel);clear hd hi hr;refine⟨rfl,?_⟩;simp only[ap,zR19,zG,zA]
         have zw:V 14=_:=zw;rw[zw];clear zw;have t1:=abm.out;refine aq (u:=.int .i64 (m1:Int)) (W':=W) (by go_simp) ⟨hq,C2.refl _ _ _,rfl⟩
        | 16,ho=>
         cases ho;have C8:(pM w5.heap.size 4 4) (V 11) W:=hd 11 (by decide +kernel);have zx:(dk (.int .i64 (m1:Int))) (V 15) W:=hd 15 (by decide +kernel);clear hd hi hr;refine⟨rfl,?_⟩;simp only[ap,zR19,zG,zA]
         have zx:V 15=_:=zx;obtain⟨g,l,Te,hl,ho⟩:=C8;rw[Te]at ho;rw[zx,Te];clear zx Te;have t1:=LC.out
         have t2:((4:Int)<(m1:Int))=False:=by simp;omega
         refine aq (u:=.slice (some ⟨g,0,none⟩) m1 4) (W':=W) (by go_simp) ⟨hq,C2.refl _ _ _,g,l.take m1,rfl,by rw[List.length_take];omega,?_⟩
         have h9:Own W w5.heap.size (.slice (some ⟨g,0,none⟩) l.length 4) l:=by rw[hl];exact ho
         exact Lq h9 (by omega)
        | 17,ho=>
         cases ho;have e0:(dk (.int .i64 s)) (V 0) W:=hd 0 (by decide +kernel);have Iz:(pM w5.heap.size m1 4) (V 16) W:=hd 16 (by decide +kernel);have oo:Hid (4=q):=hr 4 rfl;clear hd hi hr;refine⟨rfl,?_⟩;simp only[ap,zR19,zG,zA]
         have e0:V 0=_:=e0;obtain⟨g,l,h16,hl,ho⟩:=Iz;rw[h16]at ho;rw[e0,h16];clear e0 h16;refine ee (f:=167) (args:=#[.int .i64 s,.slice (some ⟨g,0,none⟩) m1 4]) (W':=W) (by go_simp) ?_;refine(LW s abn.out _ l W ho.ints (by rw[hl,Hm1.out,Hm.out])).mono ?_;rintro e W' ⟨⟨x,rfl⟩,hb⟩;exact⟨_,rfl,hq.next hb,C2.since hb,x,rfl⟩
        | 18,ho=>
         cases ho;have IA:(xg) (V 17) W:=hd 17 (by decide +kernel);clear hd hi hr;refine⟨rfl,?_⟩;simp only[ap,zR19,zG,zA]
         obtain⟨x,XF⟩:=IA;rw[XF];clear XF;refine aq (u:=.int .i64 x) (W':=W) (by go_simp) ⟨hq,C2.refl _ _ _,x,rfl⟩
        | i+19,ho=>omega
       intro V W q hq BK bH hV;have IG:5<=q:=bH 17 4 (by omega) rfl;have e0:(dk (.int .i64 s)) (V 0) W:=hV 0 (by decide);have e1:(dk (.pointer (some ⟨pb,1,none⟩))) (V 1) W:=hV 1 (by decide);have e2:(dk (.slice (some ⟨g2,0,none⟩) n.ids.length c2)) (V 2) W:=hV 2 (by decide);have e3:(dk (.pointer (some ⟨g2,0,none⟩))) (V 3) W:=hV 3 (by decide);have e4:(dk (.int .i64 P2)) (V 4) W:=hV 4 (by decide);have e5:(dk (.pointer (some ⟨cb,0,none⟩))) (V 5) W:=hV 5 (by decide);have e6:(jF (3)) (V 6) W:=hV 6 (by decide);have e7:(dk (.pointer (some ⟨cb,0,none⟩))) (V 7) W:=hV 7 (by decide);have e8:(jF (3)) (V 8) W:=hV 8 (by decide);have e9:(dk (.pointer (some ⟨cb,0,none⟩))) (V 9) W:=hV 9 (by decide);have zS:(jF (2)) (V 10) W:=hV 10 (by decide);have C8:(pM w5.heap.size 4 4) (V 11) W:=hV 11 (by decide);have zv:(dk (.int .i64 s)) (V 12) W:=hV 12 (by decide);have C7:(fun u _=>∃A' c',u=.slice A' m c') (V 13) W:=hV 13 (by decide)
       have zw:(dk (.int .i64 (m:Int))) (V 14) W:=hV 14 (by decide);have zx:(dk (.int .i64 (m1:Int))) (V 15) W:=hV 15 (by decide);have Iz:(pM w5.heap.size m1 4) (V 16) W:=hV 16 (by decide);have IA:(xg) (V 17) W:=hV 17 (by decide);have LY:(xg) (V 18) W:=hV 18 (by decide);clear hV bH;have e0:V 0=_:=e0;have e1:V 1=_:=e1;have e2:V 2=_:=e2;have e3:V 3=_:=e3;have e4:V 4=_:=e4;have e5:V 5=_:=e5;obtain⟨z6,e6,b6⟩:=e6;have e7:V 7=_:=e7;obtain⟨z8,e8,b8⟩:=e8;have e9:V 9=_:=e9;obtain⟨Y_,zS,b10⟩:=zS;obtain⟨g11,l11,C8,n11,o11⟩:=C8;have zv:V 12=_:=zv;obtain⟨A13,c13,C7⟩:=C7;have zw:V 14=_:=zw;have zx:V 15=_:=zx;obtain⟨g16,l16,Iz,n16,o16⟩:=Iz;obtain⟨z17,IA⟩:=IA;obtain⟨z18,LY⟩:=LY;simp only[ap,zR19,zG]
       (try simp only[zA])
       simp only[List.drop_succ_cons,List.drop_zero];rw[e0,e1,e2,e3,e4,e5,e6,e7,e8,e9,zS,C8,zv,C7,zw,zx,Iz,IA,LY];clear e0 e1 e2 e3 e4 e5 e6 e7 e8 e9 zS C8 zv C7 zw zx Iz IA LY;have lT:=hq.rel;have oB:=hq.cur;have hq5:q<=5:=by simpa using BK
       go_wp2;go_meet
       case rel=>exact⟨_,rfl,oB.mono (by omega),⟨lT.os,lT.tape,lT.output,lT.size,fun k hk hn=>lT.block k hk hn hn⟩⟩
     case rest=>
     obtain⟨x9,hx9,oB,Sb⟩:=hcut;subst hx9;obtain⟨w7,rfl⟩:∃z,z=wc:=⟨_,rfl⟩
     have jT:ab w7 (w7.alloc (.cells #[.int .i64 x9] 3)):=ad _ (aa _);have LZ:=zh (Own.since (Own.seen E4.out Sb vI) jT);have E5:=zh ((xh.out.trans Sb).after jT);have zk:=zh (oB.since jT)
     have dz:Hid (ls.length+1<=17592186044416):=by show _<=_;have:=Ny.out;omega
     have e5:(0<=(k:Int))=True:=by simp
     clear oB Sb jT
     go_wp2_with (at_builtin;refine nJ (base:=w0.heap.size) rfl _ _ rfl rfl LZ.out w7.heap.size x9 rfl (by simp) dz.out E5.out.size ?_;intro g9 zb w9 gP lu pD Sc;have kN:=Below.grown (Below.refl w0.heap.size _) lu E5.out.size (fun q hq=>(World.ownsRow.lt LZ.out q hq).1);have tg:=zh gP;have E6:=zh (dK.trans' E5.out kN);have E7:=zh (zk.out.keep (fun k hk=>kN.block k (by omega)));clear gP lu pD Sc kN)
     go_roundw
     case rel=>exact⟨k+1,_,by omega,by first | rfl | go_num,tg.out,by have:=Ny.out;simp;omega,E7.out.mono (by have:=Sa.out;omega),E6.out⟩
     case measure=>simp[intOf];omega
    ·obtain⟨wo,rfl⟩:∃z,z=wr:=⟨_,rfl⟩
     go_wp2;go_meet
     case rel=>exact⟨ls,Tk.out,by have:=Ny.out;omega,zg.out.mono (by omega),Tl.out⟩
 case rest=>
  obtain⟨ls,sY,FH,eQ,F6⟩:=hcut;obtain⟨w3,rfl⟩:∃z,z=wc:=⟨_,rfl⟩
  obtain⟨AL,cl,rfl,-,UO,-⟩:=id sY.ints;have Tk:=zh sY;have zg:=zh eQ;have Tl:=zh F6;unfold maxLen at UO;clear sY eQ F6 sS n_ fG;go_upto_region 14 with(fail)
  go_cut [81]from 75 to 81 (fun t wx=>∃b:Bool,t=.bool b/\(b=true->0<ls.length)/\cG wx cb A L c (P+5002)/\dK cb w0 wx/\Own wx w0.heap.size (.slice AL ls.length cl) ls)
  case first=>
   by_cases OR:0<ls.length
   ·have e1:((0:Int)<(ls.length:Int))=True:=eq_true (by omega);have Za:=zh OR;clear OR;go_wp2_with fail;refine(k8 cb A L c (P+5000) 2 w3 zg.out (by omega) (by omega)).mono ?_;rintro e w4 ⟨b,rfl,nA,nU⟩;have E8:=zh nA;have L0:=zh (Tl.out.trans nU);have CA:=zh (Own.seen Tk.out nU vI);clear nA nU;go_wp2;go_meet
    case rel=>exact⟨b,by first | rfl | simp,fun _=>Za.out,E8.out,L0.out,CA.out⟩
   ·have oY:ls=[]:=List.eq_nil_of_length_eq_zero (by omega);subst oY;clear OR;go_wp2;go_meet
    case rel=>exact⟨false,rfl,fun h=>by simp at h,zg.out.mono (by omega),Tl.out,Tk.out⟩
  case rest=>
  obtain⟨b1,aN,AD,eQ,F6,sY⟩:=hcut;subst aN;obtain⟨w4,rfl⟩:∃z,z=wc:=⟨_,rfl⟩
  have Y8:=zh AD;have E8:=zh eQ;have L0:=zh F6;have CA:=zh sY;clear AD eQ F6 sY zg Tl Tk
  go_upto_if 81 with(fail)
  go_cut [12]from 81 to 107 (fun _ wx=>∃ls',Own wx w0.heap.size (.slice AL ls.length cl) ls'/\ls'.length=ls.length/\cG wx cb A L c (P+5020)/\dK cb w0 wx)
  case first=>
   cases b1
   ·go_wp2;go_meet
    case rel=>exact⟨ls,CA.out,rfl,E8.out.mono (by omega),L0.out⟩
   ·have zq:=Y8.out rfl
    obtain⟨gl,rfl⟩:∃gl,AL=some ⟨gl,0,none⟩:=by
     rcases CA.out.cases with⟨-,e1⟩ | ⟨gd,cd,hv,-,-⟩
     ·rw[e1]at zq;simp at zq
     ·cases hv;exact⟨gd,rfl⟩
    go_wp2_with fail;refine(db cb A L c (P+5002) (ls.length:Int) w4 E8.out (by omega) (by omega)).mono ?_;rintro e w5 ⟨v,rfl,hv,kC,rm⟩;have CF:v<ls.length:=by omega
    have E4:=zh (Own.seen CA.out rm vI);have xh:=zh (L0.out.trans rm);obtain⟨P5,H8⟩:∃z,z=P+5002+2:=⟨_,rfl⟩
    rw[<- H8]at kC;have sZ:=zh kC;have Sa:=zh H8
    have Tm:Hid (P5<=4100000000000000000):=by show _<=_;omega
    obtain⟨x0,lp⟩:=aA ls v CF;obtain⟨x1,pN⟩:∃z,z=IntKind.i64.wrap (x0+1):=⟨_,rfl⟩
    have Hx1:Hid (IntKind.i64.wrap (x0+1)=x1):=pN.symm;have HC:Hid (∀W,C2 cb cb w5 W->∀(z:Nat) (y:Int),ls[z]?=some y->W.cell? ⟨gl,z,none⟩=some (.int .i64 y)):=fun W hW z y hy=>(hW.own vI vI E4.out).cell hy
    have HX:Hid (∀W,C2 cb cb w5 W->W.cell? ⟨gl,v,none⟩=some (.int .i64 x0)):=fun W hW=>HC.out W hW v x0 lp
    have Rp:=zh lp;have Hv:=zh CF;have HBz:Hid (w5.heap.size<=w5.heap.size):=Nat.le_refl _;have CR:Hid (cb<w5.heap.size):=sZ.out.lt;clear kC rm H8 lp pN hv zq;go_upto_region 16 with(fail);refine jq 22 [16,20] (RW [dk (.slice (some ⟨gl,0,none⟩) ls.length cl),dk (.int .i64 (v:Int)),dk (.pointer (some ⟨cb,0,none⟩)),dk (.slice (some ⟨gl,0,none⟩) ls.length cl),dk (.int .i64 (v:Int)),dk (.pointer (some ⟨gl,v,none⟩)),dk (.int .i64 x0),dk (.int .i64 x1),dk (.slice (some ⟨gl,0,none⟩) ls.length cl),dk (.int .i64 (v:Int)),dk (.pointer (some ⟨gl,v,none⟩)),dk (.int .i64 x0),dk (.slice (some ⟨gl,0,none⟩) ls.length cl),dk (.pointer (some ⟨cb,0,none⟩)),dk (.slice (some ⟨gl,0,none⟩) ls.length cl),dk (.int .i64 (ls.length:Int)),jF ((ls.length:Int)),fun u _=>∃z:Nat,u=.pointer (some ⟨gl,z,none⟩)/\z<ls.length,xg,pM w5.heap.size 7 7,xg,dk (.pointer (some ⟨gl,v,none⟩))]) (kD cb A L c (P5) (2) w5) (C2 cb cb) (RW.rel ?_) (by kernel_rfl) (by kernel_rfl) (by kernel_rfl) (by decide) (by kernel_rfl) (kD.start sZ.out (ah (aa _))) ?_ ?_
    ·intro r hr;simp only[List.mem_cons,List.not_mem_nil,or_false]at hr;rcases hr with rfl | rfl | rfl | rfl | rfl | rfl | rfl | rfl | rfl | rfl | rfl | rfl | rfl | rfl | rfl | rfl | rfl | rfl | rfl | rfl | rfl | rfl
     ·exact fun _ _ _ _ h=>h
     ·exact fun _ _ _ _ h=>h
     ·exact fun _ _ _ _ h=>h
     ·exact fun _ _ _ _ h=>h
     ·exact fun _ _ _ _ h=>h
     ·exact fun _ _ _ _ h=>h
     ·exact fun _ _ _ _ h=>h
     ·exact fun _ _ _ _ h=>h
     ·exact fun _ _ _ _ h=>h
     ·exact fun _ _ _ _ h=>h
     ·exact fun _ _ _ _ h=>h
     ·exact fun _ _ _ _ h=>h
     ·exact fun _ _ _ _ h=>h
     ·exact fun _ _ _ _ h=>h
     ·exact fun _ _ _ _ h=>h
     ·exact fun _ _ _ _ h=>h
     ·exact fun _ _ _ _ h=>h
     ·exact fun _ _ _ _ h=>h
     ·exact fun _ _ _ _ h=>h
     ·exact pM.rel CR.out CR.out
     ·exact fun _ _ _ _ h=>h
     ·exact fun _ _ _ _ h=>h
    ·intro i o hi ho V W q hq hr hd
     match i,ho with
     | 0,ho=>
      cases ho;clear hd hi hr;refine⟨rfl,?_⟩;simp only[ap,zR22,zG,zA]
      refine aq (u:=.slice (some ⟨gl,0,none⟩) ls.length cl) (W':=W) (by go_simp) ⟨hq,C2.refl _ _ _,rfl⟩
     | 1,ho=>
      cases ho;clear hd hi hr;refine⟨rfl,?_⟩;simp only[ap,zR22,zG,zA]
      refine aq (u:=.int .i64 (v:Int)) (W':=W) (by go_simp) ⟨hq,C2.refl _ _ _,rfl⟩
     | 2,ho=>
      cases ho;clear hd hi hr;refine⟨rfl,?_⟩;simp only[ap,zR22,zG,zA]
      refine aq (u:=.pointer (some ⟨cb,0,none⟩)) (W':=W) (by go_simp) ⟨hq,C2.refl _ _ _,rfl⟩
     | 3,ho=>
      cases ho;clear hd hi hr;refine⟨rfl,?_⟩;simp only[ap,zR22,zG,zA]
      refine aq (u:=.slice (some ⟨gl,0,none⟩) ls.length cl) (W':=W) (by go_simp) ⟨hq,C2.refl _ _ _,rfl⟩
     | 4,ho=>
      cases ho;clear hd hi hr;refine⟨rfl,?_⟩;simp only[ap,zR22,zG,zA]
      refine aq (u:=.int .i64 (v:Int)) (W':=W) (by go_simp) ⟨hq,C2.refl _ _ _,rfl⟩
     | 5,ho=>
      cases ho;have e3:(dk (.slice (some ⟨gl,0,none⟩) ls.length cl)) (V 3) W:=hd 3 (by decide +kernel);have e4:(dk (.int .i64 (v:Int))) (V 4) W:=hd 4 (by decide +kernel);clear hd hi hr;refine⟨rfl,?_⟩;simp only[ap,zR22,zG,zA]
      have e3:V 3=_:=e3;rw[e3];clear e3;have e4:V 4=_:=e4;rw[e4];clear e4;have t1:=Hv.out;refine aq (u:=.pointer (some ⟨gl,v,none⟩)) (W':=W) (by go_simp) ⟨hq,C2.refl _ _ _,rfl⟩
     | 6,ho=>
      cases ho;have e5:(dk (.pointer (some ⟨gl,v,none⟩))) (V 5) W:=hd 5 (by decide +kernel);clear hd hi hr;refine⟨rfl,?_⟩;simp only[ap,zR22,zG,zA]
      have e5:V 5=_:=e5;rw[e5];clear e5;have k1:=HX.out W hq.rel;refine aq (u:=.int .i64 x0) (W':=W) (by go_simp) ⟨hq,C2.refl _ _ _,rfl⟩
     | 7,ho=>
      cases ho;have e6:(dk (.int .i64 x0)) (V 6) W:=hd 6 (by decide +kernel);clear hd hi hr;refine⟨rfl,?_⟩;simp only[ap,zR22,zG,zA]
      have e6:V 6=_:=e6;rw[e6];clear e6;have t1:=Hx1.out;refine aq (u:=.int .i64 x1) (W':=W) (by go_simp) ⟨hq,C2.refl _ _ _,rfl⟩
     | 8,ho=>
      cases ho;clear hd hi hr;refine⟨rfl,?_⟩;simp only[ap,zR22,zG,zA]
      refine aq (u:=.slice (some ⟨gl,0,none⟩) ls.length cl) (W':=W) (by go_simp) ⟨hq,C2.refl _ _ _,rfl⟩
     | 9,ho=>
      cases ho;clear hd hi hr;refine⟨rfl,?_⟩;simp only[ap,zR22,zG,zA]
      refine aq (u:=.int .i64 (v:Int)) (W':=W) (by go_simp) ⟨hq,C2.refl _ _ _,rfl⟩
     | 10,ho=>
      cases ho;have e8:(dk (.slice (some ⟨gl,0,none⟩) ls.length cl)) (V 8) W:=hd 8 (by decide +kernel);have e9:(dk (.int .i64 (v:Int))) (V 9) W:=hd 9 (by decide +kernel);clear hd hi hr;refine⟨rfl,?_⟩;simp only[ap,zR22,zG,zA]
      have e8:V 8=_:=e8;rw[e8];clear e8;have e9:V 9=_:=e9;rw[e9];clear e9;have t1:=Hv.out;refine aq (u:=.pointer (some ⟨gl,v,none⟩)) (W':=W) (by go_simp) ⟨hq,C2.refl _ _ _,rfl⟩
     | 11,ho=>
      cases ho;have zS:(dk (.pointer (some ⟨gl,v,none⟩))) (V 10) W:=hd 10 (by decide +kernel);clear hd hi hr;refine⟨rfl,?_⟩;simp only[ap,zR22,zG,zA]
      have zS:V 10=_:=zS;rw[zS];clear zS;have k1:=HX.out W hq.rel;refine aq (u:=.int .i64 x0) (W':=W) (by go_simp) ⟨hq,C2.refl _ _ _,rfl⟩
     | 12,ho=>
      cases ho;clear hd hi hr;refine⟨rfl,?_⟩;simp only[ap,zR22,zG,zA]
      refine aq (u:=.slice (some ⟨gl,0,none⟩) ls.length cl) (W':=W) (by go_simp) ⟨hq,C2.refl _ _ _,rfl⟩
     | 13,ho=>
      cases ho;clear hd hi hr;refine⟨rfl,?_⟩;simp only[ap,zR22,zG,zA]
      refine aq (u:=.pointer (some ⟨cb,0,none⟩)) (W':=W) (by go_simp) ⟨hq,C2.refl _ _ _,rfl⟩
     | 14,ho=>
      cases ho;clear hd hi hr;refine⟨rfl,?_⟩;simp only[ap,zR22,zG,zA]
      refine aq (u:=.slice (some ⟨gl,0,none⟩) ls.length cl) (W':=W) (by go_simp) ⟨hq,C2.refl _ _ _,rfl⟩
     | 15,ho=>
      cases ho;have zw:(dk (.slice (some ⟨gl,0,none⟩) ls.length cl)) (V 14) W:=hd 14 (by decide +kernel);clear hd hi hr;refine⟨rfl,?_⟩;simp only[ap,zR22,zG,zA]
      have zw:V 14=_:=zw;rw[zw];clear zw;refine aq (u:=.int .i64 (ls.length:Int)) (W':=W) (by go_simp) ⟨hq,C2.refl _ _ _,rfl⟩
     | 16,ho=>
      cases ho;have C7:(dk (.pointer (some ⟨cb,0,none⟩))) (V 13) W:=hd 13 (by decide +kernel);have zx:(dk (.int .i64 (ls.length:Int))) (V 15) W:=hd 15 (by decide +kernel);have oo:Hid (0=q):=hr 0 rfl;clear hd hi hr;refine⟨rfl,?_⟩;simp only[ap,zR22,zG,zA]
      have C7:V 13=_:=C7;rw[C7];clear C7;have zx:V 15=_:=zx;rw[zx];clear zx;refine ee (f:=62) (args:=#[.pointer (some ⟨cb,0,none⟩),.int .i64 (ls.length:Int)]) (W':=W) (by go_simp) ?_
      refine(db cb A L c (P5+2*q) ((ls.length:Int)) W hq.cur (by have:=Tm.out;have:=oo.out;omega) (by omega)).mono ?_
      rintro e W' ⟨z,rfl,hz,eQ,hC⟩;exact⟨_,rfl,hq.call hC eQ (by omega),C2.of hC,z,rfl,hz⟩
     | 17,ho=>
      cases ho;have zv:(dk (.slice (some ⟨gl,0,none⟩) ls.length cl)) (V 12) W:=hd 12 (by decide +kernel);have Iz:(jF ((ls.length:Int))) (V 16) W:=hd 16 (by decide +kernel);clear hd hi hr;refine⟨rfl,?_⟩;simp only[ap,zR22,zG,zA]
      have zv:V 12=_:=zv;rw[zv];clear zv;obtain⟨z,hz,hzb⟩:=Iz;rw[hz];clear hz
      have gx:z<ls.length:=by have:=Hv.out;omega
      refine aq (u:=.pointer (some ⟨gl,z,none⟩)) (W':=W) (by go_simp) ⟨hq,C2.refl _ _ _,z,rfl,gx⟩
     | 18,ho=>
      cases ho;have IA:(fun u _=>∃z:Nat,u=.pointer (some ⟨gl,z,none⟩)/\z<ls.length) (V 17) W:=hd 17 (by decide +kernel)
      clear hd hi hr;refine⟨rfl,?_⟩;simp only[ap,zR22,zG,zA]
      obtain⟨z,XF,hz⟩:=IA;rw[XF];clear XF;obtain⟨y,hy⟩:=aA ls z hz;have k1:=HC.out W hq.rel z y hy;refine aq (u:=.int .i64 y) (W':=W) (by go_simp) ⟨hq,C2.refl _ _ _,y,rfl⟩
     | 19,ho=>
      cases ho;have e7:(dk (.int .i64 x1)) (V 7) W:=hd 7 (by decide +kernel);have C8:(dk (.int .i64 x0)) (V 11) W:=hd 11 (by decide +kernel);have LY:(xg) (V 18) W:=hd 18 (by decide +kernel);clear hd hi hr;refine⟨rfl,?_⟩;simp only[ap,zR22,zG,zA]
      have e7:V 7=_:=e7;have C8:V 11=_:=C8;obtain⟨y,h18⟩:=LY;rw[e7,C8,h18];clear e7 C8 h18;refine aq (u:=.slice (some ⟨W.heap.size,0,none⟩) 7 7) (W':=W.alloc (.cells #[.int .i64 x1,.int .i64 0,.int .i64 1,.int .i64 2,.int .i64 3,.int .i64 x0,.int .i64 y] 3)) (by go_simp) ⟨hq.since (ad _ (aa _)),C2.since (ad _ (aa _)),W.heap.size,[x1,0,1,2,3,x0,y],rfl,rfl,(fD W [x1,0,1,2,3,x0,y] (by simp[maxLen])).mono (Nat.le_trans HBz.out hq.rel.size)⟩
     | 20,ho=>
      cases ho;have e2:(dk (.pointer (some ⟨cb,0,none⟩))) (V 2) W:=hd 2 (by decide +kernel);have Tn:(pM w5.heap.size 7 7) (V 19) W:=hd 19 (by decide +kernel);have oo:Hid (1=q):=hr 1 rfl;clear hd hi hr;refine⟨rfl,?_⟩;simp only[ap,zR22,zG,zA]
      have e2:V 2=_:=e2;obtain⟨g,l,SQ,hl,ho⟩:=Tn;rw[SQ]at ho;rw[e2,SQ];clear e2 SQ;refine ee (f:=68) (args:=#[.pointer (some ⟨cb,0,none⟩),.slice (some ⟨g,0,none⟩) 7 7]) (W':=W) (by go_simp) ?_
      refine(nY cb A L c (P5+2*q) w5.heap.size g 7 7 l W hq.cur (by have:=Tm.out;have:=oo.out;omega) ho hl.symm CR.out (by omega) (by omega)).mono ?_
      rintro e W' ⟨z,rfl,-,eQ,hC⟩;exact⟨_,rfl,hq.call hC eQ (by omega),C2.of hC,z,rfl⟩
     | 21,ho=>
      cases ho;have e0:(dk (.slice (some ⟨gl,0,none⟩) ls.length cl)) (V 0) W:=hd 0 (by decide +kernel);have e1:(dk (.int .i64 (v:Int))) (V 1) W:=hd 1 (by decide +kernel);clear hd hi hr;refine⟨rfl,?_⟩;simp only[ap,zR22,zG,zA]
      have e0:V 0=_:=e0;rw[e0];clear e0;have e1:V 1=_:=e1;rw[e1];clear e1;have t1:=Hv.out;refine aq (u:=.pointer (some ⟨gl,v,none⟩)) (W':=W) (by go_simp) ⟨hq,C2.refl _ _ _,rfl⟩
     | i+22,ho=>omega
    intro V W q hq BK bH hV;have IG:2<=q:=bH 20 1 (by omega) rfl;have e0:(dk (.slice (some ⟨gl,0,none⟩) ls.length cl)) (V 0) W:=hV 0 (by decide);have e1:(dk (.int .i64 (v:Int))) (V 1) W:=hV 1 (by decide);have e2:(dk (.pointer (some ⟨cb,0,none⟩))) (V 2) W:=hV 2 (by decide);have e3:(dk (.slice (some ⟨gl,0,none⟩) ls.length cl)) (V 3) W:=hV 3 (by decide);have e4:(dk (.int .i64 (v:Int))) (V 4) W:=hV 4 (by decide);have e5:(dk (.pointer (some ⟨gl,v,none⟩))) (V 5) W:=hV 5 (by decide);have e6:(dk (.int .i64 x0)) (V 6) W:=hV 6 (by decide);have e7:(dk (.int .i64 x1)) (V 7) W:=hV 7 (by decide);have e8:(dk (.slice (some ⟨gl,0,none⟩) ls.length cl)) (V 8) W:=hV 8 (by decide);have e9:(dk (.int .i64 (v:Int))) (V 9) W:=hV 9 (by decide);have zS:(dk (.pointer (some ⟨gl,v,none⟩))) (V 10) W:=hV 10 (by decide);have C8:(dk (.int .i64 x0)) (V 11) W:=hV 11 (by decide);have zv:(dk (.slice (some ⟨gl,0,none⟩) ls.length cl)) (V 12) W:=hV 12 (by decide);have C7:(dk (.pointer (some ⟨cb,0,none⟩))) (V 13) W:=hV 13 (by decide);have zw:(dk (.slice (some ⟨gl,0,none⟩) ls.length cl)) (V 14) W:=hV 14 (by decide);have zx:(dk (.int .i64 (ls.length:Int))) (V 15) W:=hV 15 (by decide);have Iz:(jF ((ls.length:Int))) (V 16) W:=hV 16 (by decide);have IA:(fun u _=>∃z:Nat,u=.pointer (some ⟨gl,z,none⟩)/\z<ls.length) (V 17) W:=hV 17 (by decide)
    have LY:(xg) (V 18) W:=hV 18 (by decide);have Tn:(pM w5.heap.size 7 7) (V 19) W:=hV 19 (by decide);have Zb:(xg) (V 20) W:=hV 20 (by decide);have Zc:(dk (.pointer (some ⟨gl,v,none⟩))) (V 21) W:=hV 21 (by decide);clear hV bH;have e0:V 0=_:=e0;have e1:V 1=_:=e1;have e2:V 2=_:=e2;have e3:V 3=_:=e3;have e4:V 4=_:=e4;have e5:V 5=_:=e5;have e6:V 6=_:=e6;have e7:V 7=_:=e7;have e8:V 8=_:=e8;have e9:V 9=_:=e9;have zS:V 10=_:=zS;have C8:V 11=_:=C8;have zv:V 12=_:=zv;have C7:V 13=_:=C7;have zw:V 14=_:=zw;have zx:V 15=_:=zx;obtain⟨z16,Iz,b16⟩:=Iz;obtain⟨z17,IA,b17⟩:=IA;obtain⟨z18,LY⟩:=LY;obtain⟨g19,l19,Tn,n19,o19⟩:=Tn;obtain⟨z20,Zb⟩:=Zb;have Zc:V 21=_:=Zc;simp only[ap,zR22,zG]
    (try simp only[zA])
    simp only[List.drop_succ_cons,List.drop_zero];rw[e0,e1,e2,e3,e4,e5,e6,e7,e8,e9,zS,C8,zv,C7,zw,zx,Iz,IA,LY,Tn,Zb,Zc];clear e0 e1 e2 e3 e4 e5 e6 e7 e8 e9 zS C8 zv C7 zw zx Iz IA LY Tn Zb Zc;have lT:=hq.rel;have oB:=hq.cur;have hq5:q<=2:=by simpa using BK
    have L3:=lT.own vI vI E4.out;have c9:=L3.cell Rp.out;have f9:=L3.free v;have tg:=zh (L3.set (k:=v) z20);have tq:=(World.ownsRow.lt L3 gl rfl).1;have XG:dK cb w0 W:=xh.out.trans ⟨lT.os,lT.tape,lT.output,lT.size,fun k hk hn=>lT.block k hk hn hn⟩
    have E6:Hid (dK cb w0 (W.setCell ⟨gl,v,none⟩ (.int .i64 z20))):=CB.setCell XG (p:=⟨gl,v,none⟩) (.inl tq) _
    have E7:Hid (cG (W.setCell ⟨gl,v,none⟩ (.int .i64 z20)) cb A L c (P5+4)):=(oB.mono (by omega)).keep (fun j hj=>Below.heap_setCell _ _ _ _ (by show j≠gl;omega))
    clear hq lT oB L3 tq XG BK IG;go_wp2;go_meet
    case rel=>exact⟨_,tg.out,by rw[List.length_set],E7.out.mono (by have:=Sa.out;omega),E6.out⟩
  case rest=>
  obtain⟨l2,sY,El,eQ,F6⟩:=hcut;obtain⟨w5,rfl⟩:∃z,z=wc:=⟨_,rfl⟩
  have E4:=zh sY;have wQ:=zh El;have sZ:=zh eQ;have xh:=zh F6;clear sY El eQ F6 E8 L0 CA Y8;go_wp2_with fail;refine(db cb A L c (P+5020) 24 w5 sZ.out (by omega) (by omega)).mono ?_;rintro e w6 ⟨x,rfl,-,dq,ic⟩;have L4:=zh (Own.seen E4.out ic vI);have OE:=zh (xh.out.trans ic);have CC:=zh dq;clear dq ic E4 xh sZ;rcases(show x=0\/x=1\/2<=x by omega)with rfl | rfl | h2
  ·have jT:ab w6 (w6.alloc (.cells #[.int .i64 0] 3)):=ad _ (aa _);have LZ:=zh (Own.since L4.out jT);have E5:=zh (OE.out.after jT);have zk:=zh (CC.out.since jT)
   have dz:Hid (l2.length+1<=17592186044416):=by show _<=_;have:=wQ.out;omega
   clear jT
   go_wp2_with (at_builtin;refine nJ (base:=w0.heap.size) rfl _ _ rfl rfl LZ.out w6.heap.size 0 rfl (by simp) dz.out E5.out.size ?_;intro g9 zb w9 gP lu pD Sc;have kN:=Below.grown (Below.refl w0.heap.size _) lu E5.out.size (fun q hq=>(World.ownsRow.lt LZ.out q hq).1);have tg:=zh gP;have E6:=zh (dK.trans' E5.out kN);have E7:=zh (zk.out.keep (fun k hk=>kN.block k (by omega)));clear gP lu pD Sc kN)
   go_ret
   exact⟨_,_,rfl,tg.out.mono (by have:=mA.out;omega),by have:=wQ.out;simp;omega,E7.out.mono (by omega),(CB.of jj.out.below).trans (E6.out.mono (by have:=mA.out;omega))⟩
  ·by_cases OR:0<ls.length
   ·have e1:((0:Int)<(ls.length:Int))=True:=eq_true (by omega)
    obtain⟨gl,rfl⟩:∃gl,AL=some ⟨gl,0,none⟩:=by
     rcases L4.out.cases with⟨-,e1⟩ | ⟨gd,cd,hv,-,-⟩
     ·have:=wQ.out;rw[e1]at this;simp at this;omega
     ·injection hv with h1 h2 h3
      exact⟨gd,h1⟩
    obtain⟨wL,FX⟩:∃z,z=w6.alloc (.cells #[.int .i64 (-1),.int .i64 999999999999,.int .i64 1000000000000] 3):=⟨_,rfl⟩
    obtain⟨gq,SJ⟩:∃z,z=w6.heap.size:=⟨_,rfl⟩
    have I0:ab w6 wL:=by rw[FX];exact ad _ (aa _)
    have PS:Own wL w6.heap.size (.slice (some ⟨gq,0,none⟩) 3 3) [-1,999999999999,1000000000000]:=by rw[FX,SJ];exact fD w6 [-1,999999999999,1000000000000] (by simp[maxLen])
    have WQ:=zh PS;have abo:=zh (Own.since L4.out I0);have abp:=zh (OE.out.after I0);have Ls:=zh (CC.out.since I0);have WR:=zh FX;have Ve:=zh SJ;have abq:cb<w6.heap.size:=CC.out.lt;have Za:=zh OR;clear PS I0 FX SJ OR;go_wp2_with fail;rw[<- WR.out,<- Ve.out];refine(nY cb A L c _ w6.heap.size gq 3 3 _ wL Ls.out (by omega) WQ.out rfl abq (by simp) (by simp)).mono ?_;rintro e w7 ⟨z,rfl,-,rW,ra⟩;have L3:=Own.seen abo.out ra vI
    obtain⟨y0,II⟩:=aA l2 0 (by have:=wQ.out;have:=Za.out;omega)
    have c9:=L3.cell II;have f9:=L3.free 0;have tg:=zh (L3.set (k:=0) z);have tq:=(World.ownsRow.lt L3 gl rfl).1;have E6:Hid (dK cb w0 (w7.setCell ⟨gl,0,none⟩ (.int .i64 z))):=CB.setCell (abp.out.trans ra) (p:=⟨gl,0,none⟩) (.inl tq) _
    have E7:Hid (cG (w7.setCell ⟨gl,0,none⟩ (.int .i64 z)) cb A L c (P+5020+2+2)):=rW.keep (fun j hj=>Below.heap_setCell _ _ _ _ (by show j≠gl;omega))
    have vP:(0:Int)<(ls.length:Int):=by have:=Za.out;omega
    clear rW ra L3 tq II;go_wp2;go_ret
    exact⟨_,_,rfl,tg.out.mono (by have:=mA.out;omega),by rw[List.length_set];have:=wQ.out;omega,E7.out.mono (by omega),(CB.of jj.out.below).trans (E6.out.mono (by have:=mA.out;omega))⟩
   ·have oY:ls=[]:=List.eq_nil_of_length_eq_zero (by omega);subst oY;clear OR;go_wp2;go_ret
    exact⟨_,_,rfl,L4.out.mono (by have:=mA.out;omega),by have:=wQ.out;omega,CC.out.mono (by omega),(CB.of jj.out.below).trans (OE.out.mono (by have:=mA.out;omega))⟩
  ·have e1:((x:Int)==0)=false:=by simp;omega
   have e2:((x:Int)==1)=false:=by simp;omega
   clear h2;go_wp2;go_ret
   exact⟨_,_,rfl,L4.out.mono (by have:=mA.out;omega),by have:=wQ.out;omega,CC.out.mono (by omega),(CB.of jj.out.below).trans (OE.out.mono (by have:=mA.out;omega))⟩
def xi (B:Nat) (u:Value) (W:World):Prop:=∃ls,Own W B u ls/\ls.length<=200
theorem xi.rel {cb rb B:Nat} (hc:cb<B) (hr:rb<B):∀u W W',C2 cb rb W W'->xi B u W->xi B u W':=by
 rintro u W W' h ⟨ls,h1,h2⟩;exact⟨ls,h.own hc hr h1,h2⟩
def Sd (w:World) (e:Ending) (w':World):Prop:=
 ∃ve vi vn N S u ls,∃s:Int,e=.returned (.tuple #[.agg #[ve,vi,vn],.int .i64 s,u])/\ar w' w.heap.size ve vi vn N S/\Bd N/\(0<=s/\s<=6)/\Own w' w.heap.size u ls/\ls.length<=200/\Below w.heap.size w w'
theorem iX (v:Value) (L:Nat) (w:World) (h:Lp w v L) (hL:L<=1048576):
  Calls Tryz.prog 44 #[v] w (Sd w):=by
 obtain⟨A,c,rfl,Tg,yt,XH⟩:=h;obtain⟨w0,bQ⟩:∃z,z=w.alloc (.cells #[.slice none 0 0,.slice none 0 0,.slice none 0 0] 27):=⟨_,rfl⟩
 have aU:ab w w0:=by rw[bQ];exact ad _ (aa _)
 have gx:w0.heap.size=w.heap.size+1:=by rw[bQ];simp
 have iy:aS w0 w.heap.size (.slice none 0 0) (.slice none 0 0) (.slice none 0 0):=by
  rw[bQ];show(w.heap.push _)[w.heap.size]?=_
  rw[Array.getElem?_push_size]
 obtain⟨w1,pf⟩:∃z,z=w0.alloc (.cells #[.slice A L c,.int .i64 0,.int .u64 0] 78):=⟨_,rfl⟩
 obtain⟨cb,E9⟩:∃z,z=w0.heap.size:=⟨_,rfl⟩
 have dr:ab w0 w1:=by rw[pf];exact ad _ (aa _)
 have xG:w1.heap[cb]?=some (.cells #[.slice A L c,.int .i64 0,.int .u64 0] 78):=by
  rw[pf,E9];show(w0.heap.push _)[w0.heap.size]?=_
  rw[Array.getElem?_push_size]
 have zg:=zh (FW XH (aU.after dr) (by omega) xG hL Tg);have iH:=zh (iy.since dr);have dM:=zh (aU.after dr);have bS:=zh bQ;have Rz:=zh pf;have RK:Hid (cb=w0.heap.size):=E9
 have Hz:Hid (w0.heap.size=w.heap.size+1/\w1.heap.size=w.heap.size+1+1/\cb=w.heap.size+1):=⟨gx,by rw[pf];simp;omega,by omega⟩
 clear XH aU iy dr xG bQ pf E9 gx
 go_enter Tryz.func44,Tryz.ntmps44
 go_upto_region 1 with(fail);rw[<- bS.out];go_upto_region 2 with(fail);rw[<- Rz.out,<- RK.out];go_wp2_with fail;refine(Lr cb A L c 0 w1 zg.out (by omega)).mono ?_;rintro e w2 ⟨sx,rfl,Pl,mD,pU⟩;have sS:=zh mD;have Mm:=zh pU;have Zd:=zh Pl;clear Pl mD pU;go_wp2_with fail;refine(Oj cb A L c (0+2) sx w2 sS.out (by omega)).mono ?_;rintro e w3 ⟨ve,vi,vn,N,S,rfl,kR,vO,vw,XI⟩;have k7:CB cb w1.heap.size w1 w3:=Mm.out.trans (XI.mono Mm.out.size);have ho:=kR.mono Mm.out.size;obtain⟨D0,d0,rfl,-,ru,-⟩:=id ho.read.1;obtain⟨D1,d1,rfl,-,-,-⟩:=id ho.read.2.1;obtain⟨D2,d2,rfl,-,-,-⟩:=id ho.read.2.2;obtain⟨w7,pI⟩:∃z,z=w3.alloc (.cells #[.slice D0 N.ends.length d0,.slice D1 N.ids.length d1,.slice D2 N.acn.length d2] 27):=⟨_,rfl⟩
 obtain⟨pb,fb⟩:∃z,z=w3.heap.size:=⟨_,rfl⟩
 have Ze:ab w3 w7:=by rw[pI];exact ad _ (aa _)
 have ra:CB cb w1.heap.size w1 w7:=k7.trans (CB.of (Ze.below.mono k7.size))
 have dT:aY w7 pb (.slice D0 N.ends.length d0) (.slice D1 N.ids.length d1) (.slice D2 N.acn.length d2):=by rw[pI,fb];exact aY.new _ _ _ _ _
 have YB:w1.heap.size<=pb:=by rw[fb];exact k7.size
 have jR:cb<w1.heap.size:=by have:=Hz.out;omega
 have gX:pb≠cb:=by omega
 obtain⟨P7,Ti⟩:∃z,z=0+2+400000000000000000:=⟨_,rfl⟩
 have YX:Hid (P7<=3900000000000000000):=by show _<=_;omega
 have zk:Hid (cG w7 cb A L c P7):=by show cG _ _ _ _ _ _;rw[Ti];exact vw.since Ze
 have Ot:Hid (aS w7 w.heap.size (.slice none 0 0) (.slice none 0 0) (.slice none 0 0)):=(ra.block _ (by have:=Hz.out;omega) (by have:=Hz.out;omega)).trans iH.out
 have aaZ:Hid (w7.heap.size<=w7.heap.size):=Nat.le_refl _;have hz7:=ra.size
 have D_:Hid (cb<w7.heap.size/\w.heap.size<w7.heap.size):=⟨by omega,by have:=Hz.out;omega⟩
 have HY:Hid (∀W,C2 cb w.heap.size w7 W->W.cell? ⟨pb,0,none⟩=some (.slice D0 N.ends.length d0)/\W.cell? ⟨pb,1,none⟩=some (.slice D1 N.ids.length d1)/\W.cell? ⟨pb,2,none⟩=some (.slice D2 N.acn.length d2)):=fun W hW=>by
  have Of:pb≠w.heap.size:=by have:=Hz.out;omega
  obtain⟨k0,k1,k2,-,-,-⟩:=dT.cells;exact⟨hW.cell k0 gX Of,hW.cell k1 gX Of,hW.cell k2 gX Of⟩
 have If:=zh (ho.keep Ze.below);have Tj:=zh vO
 have k_:Hid (Below w.heap.size w w7):=Below.trans dM.out.below ((ra.mono (by have:=Hz.out;omega)).below (by have:=Hz.out;omega))
 have Hw7:=zh pI;have qY:=zh fb;have Wg:=zh hz7;clear ho kR vO vw k7 XI Ze ra dT Ti pI fb hz7;go_upto_region 4 with(fail);rw[<- Hw7.out,<- qY.out];refine jq 9 [5,6] (RW [dk (.agg #[.slice D0 N.ends.length d0,.slice D1 N.ids.length d1,.slice D2 N.acn.length d2]),dk (.int .i64 sx),dk (.pointer (some ⟨cb,0,none⟩)),dk (.agg #[.slice D0 N.ends.length d0,.slice D1 N.ids.length d1,.slice D2 N.acn.length d2]),dk (.int .i64 sx),xi w7.heap.size,fun _ _=>True,dk (.int .i64 sx),xi w7.heap.size]) (sW cb w.heap.size A L c (P7) (10000) 1 w7 (fun W=>aS W w.heap.size (.slice D0 N.ends.length d0) (.slice D1 N.ids.length d1) (.slice D2 N.acn.length d2))) (C2 cb w.heap.size) (RW.rel ?_) (by kernel_rfl) (by kernel_rfl) (by kernel_rfl) (by decide) (by kernel_rfl) (sW.start zk.out Ot.out (ah (aa _))) ?_ ?_
 ·intro r hr;simp only[List.mem_cons,List.not_mem_nil,or_false]at hr;rcases hr with rfl | rfl | rfl | rfl | rfl | rfl | rfl | rfl | rfl
  ·exact fun _ _ _ _ h=>h
  ·exact fun _ _ _ _ h=>h
  ·exact fun _ _ _ _ h=>h
  ·exact fun _ _ _ _ h=>h
  ·exact fun _ _ _ _ h=>h
  ·exact xi.rel D_.out.1 D_.out.2
  ·exact fun _ _ _ _ h=>h
  ·exact fun _ _ _ _ h=>h
  ·exact xi.rel D_.out.1 D_.out.2
 ·intro i o hi ho V W q hq hr hd
  match i,ho with
  | 0,ho=>
   cases ho;clear hd hi hr;refine⟨rfl,?_⟩;simp only[ap,zR9,zG,zA]
   obtain⟨k0,k1,k2⟩:=HY.out W hq.rel;refine aq (u:=.agg #[.slice D0 N.ends.length d0,.slice D1 N.ids.length d1,.slice D2 N.acn.length d2]) (W':=W) (by go_simp) ⟨hq,C2.refl _ _ _,rfl⟩
  | 1,ho=>
   cases ho;clear hd hi hr;refine⟨rfl,?_⟩;simp only[ap,zR9,zG,zA]
   refine aq (u:=.int .i64 sx) (W':=W) (by go_simp) ⟨hq,C2.refl _ _ _,rfl⟩
  | 2,ho=>
   cases ho;clear hd hi hr;refine⟨rfl,?_⟩;simp only[ap,zR9,zG,zA]
   refine aq (u:=.pointer (some ⟨cb,0,none⟩)) (W':=W) (by go_simp) ⟨hq,C2.refl _ _ _,rfl⟩
  | 3,ho=>
   cases ho;clear hd hi hr;refine⟨rfl,?_⟩;simp only[ap,zR9,zG,zA]
   obtain⟨k0,k1,k2⟩:=HY.out W hq.rel;refine aq (u:=.agg #[.slice D0 N.ends.length d0,.slice D1 N.ids.length d1,.slice D2 N.acn.length d2]) (W':=W) (by go_simp) ⟨hq,C2.refl _ _ _,rfl⟩
  | 4,ho=>
   cases ho;clear hd hi hr;refine⟨rfl,?_⟩;simp only[ap,zR9,zG,zA]
   refine aq (u:=.int .i64 sx) (W':=W) (by go_simp) ⟨hq,C2.refl _ _ _,rfl⟩
  | 5,ho=>
   cases ho;have e2:(dk (.pointer (some ⟨cb,0,none⟩))) (V 2) W:=hd 2 (by decide +kernel);have e3:(dk (.agg #[.slice D0 N.ends.length d0,.slice D1 N.ids.length d1,.slice D2 N.acn.length d2])) (V 3) W:=hd 3 (by decide +kernel);have e4:(dk (.int .i64 sx)) (V 4) W:=hd 4 (by decide +kernel);have oo:Hid (0=q):=hr 0 rfl;clear hd hi hr;refine⟨rfl,?_⟩;simp only[ap,zR9,zG,zA]
   have e2:V 2=_:=e2;have e3:V 3=_:=e3;have e4:V 4=_:=e4;rw[e2,e3,e4];clear e2 e3 e4;refine ee (f:=116) (args:=#[.pointer (some ⟨cb,0,none⟩),.agg #[.slice D0 N.ends.length d0,.slice D1 N.ids.length d1,.slice D2 N.acn.length d2],.int .i64 sx]) (W':=W) (by go_simp) ?_
   refine(LX cb A L c (P7+10000*q) w1.heap.size _ _ _ N S sx W (hq.cur (by have:=oo.out;omega)) (by have:=YX.out;have:=oo.out;omega) (hq.rel.net (by omega) (by have:=Hz.out;omega) If.out) jR Tj.out (by have:=Zd.out;omega)).mono ?_
   rintro e W' ⟨u,ls,rfl,kR,CP,eQ,hC⟩
   exact⟨u,rfl,hq.call (by have:=oo.out;omega) hC eQ (by omega) (by have:=Hz.out;omega),C2.of hC,ls,kR.mono hq.rel.size,CP⟩
  | 6,ho=>
   cases ho;have e0:(dk (.agg #[.slice D0 N.ends.length d0,.slice D1 N.ids.length d1,.slice D2 N.acn.length d2])) (V 0) W:=hd 0 (by decide +kernel);have oo:Hid (1=q):=hr 1 rfl;clear hd hi hr;refine⟨rfl,?_⟩;simp only[ap,zR9,zG,zA]
   have e0:V 0=_:=e0;rw[e0];clear e0
   obtain⟨g0,g1,g2,f0,f1,f2⟩:=(hq.box (by have:=oo.out;omega)).box.cells
   refine Ck (W':=acr W w.heap.size (.slice D0 N.ends.length d0) (.slice D1 N.ids.length d1) (.slice D2 N.acn.length d2)) (by unfold acr;go_simp) ⟨hq.store (by have:=oo.out;omega) ((hq.box (by have:=oo.out;omega)).acr _ _ _),C2.set _ _ _ _ _ _,trivial⟩
  | 7,ho=>
   cases ho;have e1:(dk (.int .i64 sx)) (V 1) W:=hd 1 (by decide +kernel);clear hd hi hr;refine⟨rfl,?_⟩;simp only[ap,zR9,zG,zA]
   have e1:V 1=_:=e1;rw[e1];clear e1;refine aq (u:=.int .i64 sx) (W':=W) (by go_simp) ⟨hq,C2.refl _ _ _,rfl⟩
  | 8,ho=>
   cases ho;have e5:(xi w7.heap.size) (V 5) W:=hd 5 (by decide +kernel);clear hd hi hr;refine⟨rfl,?_⟩;simp only[ap,zR9,zG,zA]
   obtain⟨ls,kR,CP⟩:=e5;obtain⟨A',c',hA,-,-,-⟩:=id kR.ints;rw[hA]at kR ⊢;clear hA;refine aq (u:=.slice A' ls.length c') (W':=W) (by go_simp) ⟨hq,C2.refl _ _ _,ls,kR,CP⟩
  | i+9,ho=>omega
 intro V W q hq BK bH hV;have IG:1<q:=bH 6 1 (by omega) rfl;have e0:(dk (.agg #[.slice D0 N.ends.length d0,.slice D1 N.ids.length d1,.slice D2 N.acn.length d2])) (V 0) W:=hV 0 (by decide);have e1:(dk (.int .i64 sx)) (V 1) W:=hV 1 (by decide);have e2:(dk (.pointer (some ⟨cb,0,none⟩))) (V 2) W:=hV 2 (by decide);have e3:(dk (.agg #[.slice D0 N.ends.length d0,.slice D1 N.ids.length d1,.slice D2 N.acn.length d2])) (V 3) W:=hV 3 (by decide);have e4:(dk (.int .i64 sx)) (V 4) W:=hV 4 (by decide);have e5:(xi w7.heap.size) (V 5) W:=hV 5 (by decide);have e6:(fun _ _=>True) (V 6) W:=hV 6 (by decide)
 have e7:(dk (.int .i64 sx)) (V 7) W:=hV 7 (by decide);have e8:(xi w7.heap.size) (V 8) W:=hV 8 (by decide);clear hV bH;have e0:V 0=_:=e0;have e1:V 1=_:=e1;have e2:V 2=_:=e2;have e3:V 3=_:=e3;have e4:V 4=_:=e4
 obtain⟨l5,o5,n5⟩:=e5;obtain⟨A5,c5,e5,-,-,-⟩:=id o5.ints
 have e7:V 7=_:=e7
 obtain⟨l8,o8,n8⟩:=e8;obtain⟨A8,c8,e8,-,-,-⟩:=id o8.ints;rw[e8]at o8;have h8o:=zh o8;clear o8
 simp only[ap,zR9,zG]
 (try simp only[zA])
 simp only[List.drop_succ_cons,List.drop_zero];rw[e0,e1,e2,e3,e4,e5,e7,e8];clear e0 e1 e2 e3 e4 e5 e6 e7 e8;go_wp2;have hTd:=hq.done IG;have hrel:=hq.rel;obtain⟨t0,t1,t2,-,-,-⟩:=hTd.box.cells;refine bodyPost_ret (v:=.tuple #[.agg #[.slice D0 N.ends.length d0,.slice D1 N.ids.length d1,.slice D2 N.acn.length d2],.int .i64 sx,.slice A8 l8.length c8]) (by simp[results,Tryz.results44,go_sem, *]) rfl ?_;have Y2:=Hz.out;have hz8:=Wg.out;refine⟨_,_,_,N,S,_,l8,sx,rfl,(hrel.net (by omega) (by omega) If.out).mono (by omega),Tj.out,Zd.out,Own.mono h8o.out (by omega),n8,hrel.below k_.out (by omega) (by omega) k_.out.size⟩
theorem Lp.drop {w:World} {A:Option Addr} {L c:Nat} (h:Lp w (.slice A L c) L) {k:Nat} (hk:k<=L):∃A',(if c=k then A else A.map fun x=>x.add k)=A'/\Lp w (.slice A' (L-k) (c-k)) (L-k):=by
 obtain⟨A0,c0,e,h2,h3,h4⟩:=h;cases e
 refine⟨_,rfl,_,_,rfl,by omega,by unfold maxLen at h3 ⊢;omega,fun j hj=>?_⟩
 obtain⟨b,off,x,e1,e2,e3,e4⟩:=h4 (j+k) (by omega)
 refine⟨b,off+k,x,?_,by rw[show off+k+j=off+(j+k)by omega];exact e2,e3,e4⟩
 rw[if_neg (by omega),e1];show some (Addr.add _ k)=_
 unfold Addr.add
 by_cases h0:k=0
 ·rw[if_pos h0,h0];rfl
 ·rw[if_neg h0]
def OF (w:World) (e:Ending) (w':World):Prop:=
 ∃ve vi vn N S u ls,∃s v:Int,e=.returned (.tuple #[.agg #[ve,vi,vn],.int .i64 s,u,.int .i64 v])/\ar w' w.heap.size ve vi vn N S/\Bd N/\(0<=s/\s<=6)/\Own w' w.heap.size u ls/\ls.length<=200/\(-1<=v/\v<=100)/\Below w.heap.size w w'
theorem rY (v:Value) (L:Nat) (w:World) (h:Lp w v L) (hL:L<=1048576):
  Calls Tryz.prog 49 #[v] w (OF w):=by
 have Xx:=zh h;obtain⟨A,c,rfl,Tg,yt,XH⟩:=h;obtain⟨w0,bQ⟩:∃z,z=w.alloc (.cells #[.slice none 0 0,.slice none 0 0,.slice none 0 0] 27):=⟨_,rfl⟩
 have aU:ab w w0:=by rw[bQ];exact ad _ (aa _)
 have gx:w0.heap.size=w.heap.size+1:=by rw[bQ];simp
 have iy:aS w0 w.heap.size (.slice none 0 0) (.slice none 0 0) (.slice none 0 0):=by
  rw[bQ];show(w.heap.push _)[w.heap.size]?=_
  rw[Array.getElem?_push_size]
 obtain⟨w1,pf⟩:∃z,z=w0.alloc (.cells #[.slice A L c,.int .i64 0,.int .u64 0] 78):=⟨_,rfl⟩
 obtain⟨cb,E9⟩:∃z,z=w0.heap.size:=⟨_,rfl⟩
 have dr:ab w0 w1:=by rw[pf];exact ad _ (aa _)
 have xG:w1.heap[cb]?=some (.cells #[.slice A L c,.int .i64 0,.int .u64 0] 78):=by
  rw[pf,E9];show(w0.heap.push _)[w0.heap.size]?=_
  rw[Array.getElem?_push_size]
 obtain⟨k,hk⟩:∃k,k=L/2:=⟨_,rfl⟩
 have m1:Int.tdiv (L:Int) 2=(k:Int):=by rw[Int.tdiv_eq_ediv_of_nonneg (by omega)];omega
 have m2:IntKind.i64.wrap (k:Int)=(k:Int):=aH _ (by omega) (by omega);have m3:(L:Int)/2=(k:Int):=by omega
 have hkL:k<=L:=by omega
 obtain⟨A',eA,hBy⟩:=Xx.out.drop hkL;have zg:=zh (FW XH (aU.after dr) (by omega) xG hL Tg);have iH:=zh (iy.since dr);have dM:=zh (aU.after dr);have bS:=zh bQ;have Rz:=zh pf;have RK:Hid (cb=w0.heap.size):=E9;have mA:=zh gx
 have IH:Hid (w1.heap.size=w.heap.size+1+1):=by show _=_;rw[pf];simp;omega
 have HBy:=zh (hBy.keep dM.out.below);have HeA:=zh eA;clear XH aU iy dr xG bQ pf E9 gx hBy eA Xx;unfold maxLen at yt
 go_enter Tryz.func49,Tryz.ntmps49
 go_upto_region 1 with(fail);rw[<- bS.out];go_upto_region 2 with(fail);rw[<- Rz.out,<- RK.out];have eA:=HeA.out;have Tq:L-k<=1048576:=by omega
 have Hdj:=zh Tq;clear m3 HeA Tq hk;go_wp2_with fail;refine(iX _ (L-k) w1 HBy.out Hdj.out).mono ?_;clear m1 m2 hL Tg hkL yt eA;rintro e w3 ⟨ve,vi,vn,N,S,u,ls,sx,rfl,ho,vO,Pl,sY,FH,bB⟩;clear HBy Hdj;obtain⟨D0,d0,rfl,-,-,-⟩:=id ho.read.1;obtain⟨D1,d1,rfl,-,-,-⟩:=id ho.read.2.1;obtain⟨D2,d2,rfl,-,-,-⟩:=id ho.read.2.2;obtain⟨AU,cU,rfl,-,-,-⟩:=id sY.ints;obtain⟨w4,gU⟩:∃z,z=w3.alloc (.cells #[.slice D0 N.ends.length d0,.slice D1 N.ids.length d1,.slice D2 N.acn.length d2] 27):=⟨_,rfl⟩
 obtain⟨pb,fb⟩:∃z,z=w3.heap.size:=⟨_,rfl⟩
 have NU:ab w3 w4:=by rw[gU];exact ad _ (aa _)
 have dT:aY w4 pb (.slice D0 N.ends.length d0) (.slice D1 N.ids.length d1) (.slice D2 N.acn.length d2):=by rw[gU,fb];exact aY.new _ _ _ _ _
 have XJ:cb<w1.heap.size:=zg.out.lt
 have gX:pb≠cb:=by have:=bB.size;omega
 have h14:ab w1 w4:=bB.trans (NU.below.mono bB.size);have E8:=zh (zg.out.since h14);have vN:=zh (ho.keep NU.below);have CA:=zh (Own.since sY NU);have uJ:=zh dT;have Tj:=zh vO;have Zd:=zh Pl;have Ny:=zh FH;have Ju:=zh gU;have eO:=zh fb;have Zf:=zh h14
 have abr:Hid (w1.heap.size<=pb):=by show _<=_;rw[fb];exact bB.size
 have aci:Hid (pb<w4.heap.size):=by show _<_;rw[gU,fb];simp
 clear ho vO Pl sY FH bB gU fb NU h14 dT;have ml:=Tj.out.ends;go_upto_region 3 with(fail);rw[<- Ju.out,<- eO.out];obtain⟨q0,q1,q2,-,-,-⟩:=uJ.out.cells;go_wp2_with fail;refine(db cb A L c 0 (N.ends.length:Int) w4 E8.out (by omega) (by omega)).mono ?_;rintro e w5 ⟨x,rfl,hx,kC,rm⟩
 have Hx:Hid (x<=100):=by show _<=_;omega
 have sZ:=zh kC;have NY:Hid (dK cb w4 w5):=zh rm;have y0:=au q0 gX;have y1:=au q1 gX;have y2:=au q2 gX;have XD:=zh y0;have Y7:=zh y1;have HY2:=zh y2;clear hx kC rm q0 q1 q2 y0 y1 y2;go_wp2_with fail;refine(k8 cb A L c _ 24 w5 sZ.out (by omega) (by omega)).mono ?_;rintro e w6 ⟨b,rfl,dq,ic⟩;have CC:=zh dq;have S_:=zh (NY.out.trans ic);clear dq ic sZ NY
 go_upto_if 30 with(fail)
 go_cut [10]from 30 to 36 (fun t wx=>∃z:Int,t=.int .i64 z/\(-1<=z/\z<=100)/\dK cb w4 wx)
 case first=>
  cases b
  ·go_wp2;go_meet
   case rel=>exact⟨(x:Int),rfl,by have:=Hx.out;omega,S_.out⟩
  ·obtain⟨wL,FX⟩:∃z,z=w6.alloc (.cells #[.int .i64 (-1),.int .i64 (N.ends.length:Int)] 3):=⟨_,rfl⟩
   obtain⟨gl,tq⟩:∃z,z=w6.heap.size:=⟨_,rfl⟩
   have I0:ab w6 wL:=by rw[FX];exact ad _ (aa _)
   have PS:Own wL w6.heap.size (.slice (some ⟨gl,0,none⟩) 2 2) [-1,(N.ends.length:Int)]:=by rw[FX,tq];exact fD w6 [-1,(N.ends.length:Int)] (by simp[maxLen])
   have Ls:=zh (CC.out.since I0);have HCL:=zh (S_.out.after I0);have abs:=zh CC.out.lt;have WQ:=zh PS;have WR:=zh FX;have SN:=zh tq;have k0:=XD.out w6 S_.out;clear I0 PS FX tq;go_wp2_with fail;rw[<- WR.out,<- SN.out];refine(nY cb A L c _ w6.heap.size gl 2 2 _ wL Ls.out (by omega) WQ.out rfl abs.out (by simp) (by simp)).mono ?_;rintro e w7 ⟨z,rfl,hz,rW,ra⟩
   have hz6 : -1<=z/\z<=100:=by
    simp only[List.mem_cons,List.not_mem_nil,or_false]at hz;omega
   have Hz6:=zh hz6;have Ie:=zh (HCL.out.trans ra);clear hz hz6 rW ra k0;go_wp2;go_meet
   case rel=>exact⟨z,rfl,Hz6.out,Ie.out⟩
 case rest=>
 obtain⟨z,rfl,hz,ra⟩:=hcut;obtain⟨w7,rfl⟩:∃z,z=wc:=⟨_,rfl⟩
 have k0:=XD.out w7 ra;have k1:=Y7.out w7 ra;have k2:=HY2.out w7 ra;have Ie:=zh ra;have Wg:=zh hz;have gx:=mA.out;have dh:=IH.out;have XK:=RK.out;have h4s:=Zf.out.size;have dJ:aS w7 w.heap.size (.slice none 0 0) (.slice none 0 0) (.slice none 0 0):=Ie.out.acv (iH.out.since Zf.out) (by omega) (by omega);obtain⟨r0,r1,r2,f0,f1,f2⟩:=dJ.box.cells
 have XE:pb≠w.heap.size:=by have:=abr.out;omega
 have Du:=zh (vN.out.seen Ie.out XJ);have XL:=zh (Own.seen CA.out Ie.out XJ);have Hpr:=zh XE;clear ra hz dJ gx dh XK h4s XE ml;go_wp2;refine bodyPost_ret (v:=.tuple #[.agg #[.slice D0 N.ends.length d0,.slice D1 N.ids.length d1,.slice D2 N.acn.length d2],.int .i64 sx,.slice AU ls.length cU,.int .i64 z]) (by simp[results,Tryz.results49,go_sem, *]) rfl ?_;have dh:=IH.out;have gx:=mA.out;have XK:=RK.out;have XM:∀j,w.heap.size<j->(acr w7 w.heap.size (.slice D0 N.ends.length d0) (.slice D1 N.ids.length d1) (.slice D2 N.acn.length d2)).heap[j]?=w7.heap[j]?:=fun j hj=>dY _ _ _ _ _ (by omega)
 refine⟨_,_,_,N,S,_,ls,sx,z,rfl,(Du.out.aco (fun j hj=>XM j (by have:=(Du.out.range j hj).1;omega))).mono (by omega),Tj.out,Zd.out,Own.mono (aG XL.out (fun j hj=>XM j (by have:=(World.ownsRow.lt XL.out j (by simpa using hj)).1;omega))) (by omega),Ny.out,Wg.out,?_⟩
 have h1:Below w.heap.size w w7:=Below.trans (Below.trans dM.out.below (Zf.out.below.mono dM.out.below.size)) ((Ie.out.mono (show w.heap.size<=w4.heap.size by have:=Zf.out.size;omega)).below (by omega))
 exact((h1.setCell (by simp) _).setCell (by simp) _).setCell (by simp) _
theorem OG (v:Value) (xs:List Int) (x:Int) (w:World) (h:aO w v xs):Calls Tryz.prog 40 #[v,.int .i64 x] w fun e w'=>e=.returned (.bool (jx xs x))/\w=w':=by
 obtain⟨A,c,rfl,fg,hm,hA⟩:=h;unfold maxLen at hm;have HA:=zh hA;clear hA
 go_enter Tryz.func40,Tryz.ntmps40
 go_wp2
 go_loop [9] (fun i=>∃k:Nat,k<=xs.length/\i=.int .i64 k/\x∉xs.take k) (fun i=>xs.length-(intOf i).toNat)
 case atStart=>exact⟨0,Nat.zero_le _,rfl,by simp⟩
 case round=>
  obtain⟨k,hk,rfl,jH⟩:=hrel;have pc:=zh jH;clear jH
  by_cases az:k<xs.length
  ·obtain⟨y,hy⟩:=aA xs k az;obtain⟨b,off,rfl,gy⟩:=HA.out k y hy;have Hy:=zh hy;clear hy
   by_cases CH:y=x
   ·subst CH;go_wp2;go_ret
    exact⟨j7 (by unfold jx;simpa using List.mem_of_getElem? Hy.out),rfl⟩
   ·go_wp2
    go_round
    case rel=>
     refine⟨k+1,by omega,by simp,?_⟩
     rw[aV Hy.out];simp only[List.mem_append,List.mem_singleton,not_or];exact⟨pc.out,fun e=>CH e.symm⟩
    case measure=>simp[intOf];omega
  ·go_wp2;go_ret
   have:=pc.out
   rw[js xs az]at this
   exact⟨aW (by unfold jx;simpa using this),rfl⟩
theorem OH {xs:List Int} {x:Int} (h:x∈xs):jx xs x=true:=by
 unfold jx;simpa using h
end Go.Proofs.YtgmdpppljkmabaaGreat
