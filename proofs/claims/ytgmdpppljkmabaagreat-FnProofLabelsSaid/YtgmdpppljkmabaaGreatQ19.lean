/- Parts of the proof: walks of functions and plain laws. -/
import Derived.Test.YtgmdpppljkmabaaGreatQ0
import Derived.Test.YtgmdpppljkmabaaGreatQ18
import Derived.Test.YtgmdpppljkmabaaGreatQ10
import Derived.Test.YtgmdpppljkmabaaGreatQ4
import Derived.Test.YtgmdpppljkmabaaGreatQ6
import Derived.Test.YtgmdpppljkmabaaGreatQ9
import Derived.Test.YtgmdpppljkmabaaGreatQ5
set_option maxRecDepth 100000
set_option maxHeartbeats 16000000
namespace Go.Proofs.YtgmdpppljkmabaaGreat
open Go Go.RowKit
theorem aak {n:ak} (h:al n=true):TN 100 40 n:=by
 have hi:=m_.1 h;obtain⟨⟨h1,h2⟩,h3,h4,h5,-⟩:=hi
 have FG:n.ids.length<=40:=by
  unfold vb at h3;rw[Bool.or_eq_true,Bool.and_eq_true,beq_iff_eq]at h3;rcases h3 with h3 | ⟨h3,-⟩
  ·have:n.ids=[]:=by simpa using h3
   rw[this];simp
  ·omega
 have nH:n.aea.length=n.ends.length:=by
  unfold js at h4;rw[Bool.and_eq_true,beq_iff_eq]at h4;omega
 refine⟨⟨h2,fun k es he=>?_,FG,nH,fun k es he e hm=>?_⟩,h1⟩
 ·have:=h5 k (an he)
  rw[au he]at this;omega
 ·obtain⟨i,hie⟩:=List.getElem?_of_mem hm
  have hp:bv n k i e:=by
   unfold bv;rw[au he];exact hie
  obtain⟨-,p1,p2,p3,p4⟩:=df h hp;unfold bv at p4;obtain⟨fs,Z1⟩:=aM n.ends e.1.toNat (by omega);rw[au Z1]at p4
  exact⟨e.1.toNat,e.2.toNat,fs,Prod.ext (by simp;omega) (by simp;omega),Z1,an p4⟩
theorem RF {n N:ak} (h:al n=true) (he:N.ends=n.ends):al (kV N)=true:=by
 have hi:=m_.1 h;obtain⟨h1,-,-,h5,h6⟩:=hi;refine m_.2 ?_;unfold kV;rw[he];refine⟨h1,rfl,?_,h5,h6⟩;unfold js;rw[Bool.and_eq_true,beq_iff_eq,List.all_eq_true];refine⟨by simp,fun x hx=>?_⟩
 have:=(List.mem_replicate.1 hx).2
 rw[this];rfl
theorem RG (cb:Nat) (A:Option Addr) (L c P:Nat) (w:World) (hc:dm w cb A L c P) (hP:P<=3800000000000000000):
  Calls Tryz.prog 178 #[.pointer (some ⟨cb,0,none⟩),.int .i64 8] w (vB cb w.heap.size A L c (P+220000000000000000) w Bd):=RE cb A L c P 8 38 w hc hP (by omega) (by omega) (by omega)
theorem Vz (cb:Nat) (A:Option Addr) (L c P:Nat) (w:World) (hc:dm w cb A L c P) (hP:P<=4400000000000000000):
  Calls Tryz.prog 93 #[.pointer (some ⟨cb,0,none⟩),.int .i64 8] w (vB cb w.heap.size A L c (P+72057594037927936) w (TN 100 40)):=xQ cb A L c P 8 40 w hc hP (by omega) (by omega) (by omega)
theorem K9 {n N:ak} (he:N.ends=n.ends) (h:al (kV n)=true):al (kV N)=true:=by
 unfold kV at h ⊢
 rw[he];exact h
theorem C2.cb2 {cb rb B:Nat} {w W W':World} {x y z:Value} (h:C2 cb rb W W') (h0:CB cb B w W) (hB:rb<B) (hz:B<=W.heap.size) (hb':bx W' rb x y z) (hb:bx W rb x y z):CB cb B w W':=
 h0.trans ⟨h.os,h.tape,h.output,h.size,fun k hk hn=>by
  by_cases e:k=rb
  ·subst e;exact hb'.trans hb.symm
  ·exact h.block k (by omega) hn e⟩
theorem K_ {xs:List Int} {x:Int} {K:Nat}:∀y∈fa xs x K,0<=y/\y<K:=by
 intro y hy;unfold fa at hy;obtain⟨i,hi,rfl⟩:=List.mem_map.1 hy
 have:=List.mem_range.1 (List.mem_filter.1 hi).1
 exact⟨Int.natCast_nonneg i,by show(i:Int)<K;omega⟩
theorem G5 {xs:List Int} {x:Int} {k:Nat} (h:xs[k]?=some x):0<(fa xs x xs.length).length:=by
 refine List.length_pos_of_mem (a:=(k:Int)) ?_;unfold fa;refine List.mem_map.2 ⟨k,List.mem_filter.2 ⟨List.mem_range.2 (an h),?_⟩,rfl⟩;rw[au h];simp
theorem Js (cb:Nat) (A:Option Addr) (L c P:Nat) (s:Int) (w:World) (hc:dm w cb A L c P) (hP:P<=3000000000000000000):
  Calls Tryz.prog 115 #[.pointer (some ⟨cb,0,none⟩),.int .i64 s] w (vB cb w.heap.size A L c (P+400000000000000000) w Bd):=by
 have ja:=hc.lt;obtain⟨B,tL⟩:∃z,z=w.heap.size+1:=⟨_,rfl⟩
 obtain⟨w0,cG⟩:∃z,z=w.alloc (.cells #[.slice none 0 0,.slice none 0 0,.slice none 0 0] 27):=⟨_,rfl⟩
 have bB:aa w w0:=by rw[cG];exact ag _ (ad _)
 have il:w0.heap.size=B:=by rw[cG,tL];simp
 have gY:bx w0 w.heap.size (.slice none 0 0) (.slice none 0 0) (.slice none 0 0):=by
  rw[cG];show(w.heap.push _)[w.heap.size]?=_
  rw[Array.getElem?_push_size]
 have iF:=zh gY;have lC:=zh bB;have bK:=zh cG;have eT:=zh tL;have mX:=zh il;have GV:=zh (hc.since bB);clear gY bB cG hc tL il
 go_enter Tryz.func115,Tryz.ntmps115
 go_upto_region 1 with(fail);rw[<- bK.out];go_wp2_with fail;refine(RG cb A L c P w0 GV.out (by omega)).mono ?_;rintro e w1 ⟨ZP,ZQ,ZR,N0,S0,rfl,ho,aal,mY,mS⟩;obtain⟨A1,c1,rfl,-,rM,-⟩:=id ho.read.1;obtain⟨AI,cI,rfl,-,-,-⟩:=id ho.read.2.1;obtain⟨AN,cN,rfl,-,-,-⟩:=id ho.read.2.2;obtain⟨w2,gR⟩:∃z,z=w1.alloc (.cells #[.slice A1 N0.ends.length c1,.slice AI N0.ids.length cI,.slice AN N0.aea.length cN] 27):=⟨_,rfl⟩
 obtain⟨pb,gG⟩:∃z,z=w1.heap.size:=⟨_,rfl⟩
 have lJ:aa w1 w2:=by rw[gR];exact ag _ (ad _)
 have iE:B<=w1.heap.size:=by rw[<- mX.out];exact mS.size
 have kD:cb<B:=by have:=eT.out;omega
 have hmb:Mb cb B pb A L c (P+220000000000000000) w0 w2 (.slice A1 N0.ends.length c1) (.slice AI N0.ids.length cI) (.slice AN N0.aea.length cN) N0 S0:=
  ⟨(ho.keep lJ.below).mono (by rw[mX.out];exact Nat.le_refl _),by rw[gR,gG];exact bD.new _ _ _ _ _,fun hj=>by have:=(ho.range _ hj).2;omega,mY.since lJ,(mS.mono (by rw[mX.out];exact Nat.le_refl _)).trans (CB.of (lJ.below.mono iE))⟩
 have sJ:=zh hmb
 have ft:Hid (B<=pb/\pb<w2.heap.size):=⟨by rw[gG];exact iE,by rw[gR,gG];simp⟩
 have El:Hid (B<=w2.heap.size):=Nat.le_trans iE lJ.below.size;have nX:=zh gR;have sM:=zh gG;have RH:=zh aal;clear hmb gR gG aal ho mY mS lJ iE;go_upto_region 2 with(fail);rw[<- nX.out,<- sM.out];have qr:B<=pb:=ft.out.1;have iN:pb≠cb:=by omega
 by_cases hZ:s=3
 ·have g1:(s==3)=true:=by simp[hZ]
  go_wp2_with fail;refine(mT cb A L c _ 2 w2 sJ.out.cur (by omega) (by omega)).mono ?_;rintro e w3 ⟨bb,rfl,tP,ly⟩;have kK:=zh (sJ.out.seen ly tP kD qr El.out);have zn:Hid (B<=w3.heap.size):=Nat.le_trans El.out ly.size;clear tP ly sJ;cases bb
  ·skip;obtain⟨k0,k1,k2,-,-,-⟩:=kK.out.box.cells
   have ec:=kK.out.far.aeh iF.out (by have:=eT.out;omega) (by omega)
   obtain⟨y0,y1,y2,f0,f1,f2⟩:=ec.box.cells;have aP:=kK.out.own;have aW:=kK.out.far;rw[eT.out]at aP aW;have c_:=zh (dq lC.out aP kK.out.cur aW ja);clear aW ec aP;go_wp2;refine bodyPost_ret (v:=.agg #[.slice A1 N0.ends.length c1,.slice AI N0.ids.length cI,.slice AN N0.aea.length cN]) (by simp[results,Tryz.results115,go_sem, *]) rfl ?_;obtain⟨r1,r2,r3⟩:=c_.out;exact⟨_,_,_,N0,S0,rfl,r1,RH.out,r2.mono (by omega),r3⟩
  ·go_wp2_with fail;refine(Vz cb A L c _ w3 kK.out.cur (by omega)).mono ?_;rintro e w7 ⟨ve,vi,vn,N7,S7,rfl,ho,⟨IT,hn7⟩,xY,AB⟩;obtain⟨D0,d0,rfl,-,-,-⟩:=id ho.read.1;obtain⟨D1,d1,rfl,-,-,-⟩:=id ho.read.2.1;obtain⟨D2,d2,rfl,-,-,-⟩:=id ho.read.2.2;have RI:=kK.out.assign AB xY ho kK.out.box.lt kD qr zn.out;obtain⟨q0,q1,q2,f0,f1,f2⟩:=(kK.out.box.blk (AB.block pb kK.out.box.lt iN)).cells;have Fo:=zh RI;have acs:=zh (IT.bd (by omega) (by omega));clear RI IT hn7 ho xY AB;go_upto_region 29 with(fail);obtain⟨w8,kH⟩:∃z,z=aed w7 pb (.slice D0 N7.ends.length d0) (.slice D1 N7.ids.length d1) (.slice D2 N7.aea.length d2):=⟨_,rfl⟩
   have aam:((w7.setCell ⟨pb,0,none⟩ (.slice D0 N7.ends.length d0)).setCell ⟨pb,1,none⟩ (.slice D1 N7.ids.length d1)).setCell ⟨pb,2,none⟩ (.slice D2 N7.aea.length d2)=w8:=kH.symm;rw[aam];rw[<- kH]at Fo;clear kH aam q0 q1 q2 f0 f1 f2;obtain⟨k0,k1,k2,-,-,-⟩:=Fo.out.box.cells
   have ec:=Fo.out.far.aeh iF.out (by have:=eT.out;omega) (by omega)
   obtain⟨y0,y1,y2,f0,f1,f2⟩:=ec.box.cells;have aP:=Fo.out.own;have aW:=Fo.out.far;rw[eT.out]at aP aW;have c_:=zh (dq lC.out aP Fo.out.cur aW ja);clear aW ec aP;go_wp2;refine bodyPost_ret (v:=.agg #[.slice D0 N7.ends.length d0,.slice D1 N7.ids.length d1,.slice D2 N7.aea.length d2]) (by simp[results,Tryz.results115,go_sem, *]) rfl ?_;obtain⟨r1,r2,r3⟩:=c_.out;exact⟨_,_,_,N7,S7,rfl,r1,acs.out,r2.mono (by omega),r3⟩
 have g1:(s==3)=false:=by simp[hZ]
 by_cases RK:s=4\/s=5
 rotate_left
 ·have g2:(s==4)=false:=by simp;omega
  have g3:(s==5)=false:=by simp;omega
  have kK:=sJ;obtain⟨k0,k1,k2,-,-,-⟩:=kK.out.box.cells
  have ec:=kK.out.far.aeh iF.out (by have:=eT.out;omega) (by omega)
  obtain⟨y0,y1,y2,f0,f1,f2⟩:=ec.box.cells;have aP:=kK.out.own;have aW:=kK.out.far;rw[eT.out]at aP aW;have c_:=zh (dq lC.out aP kK.out.cur aW ja);clear aW ec aP;go_wp2;refine bodyPost_ret (v:=.agg #[.slice A1 N0.ends.length c1,.slice AI N0.ids.length cI,.slice AN N0.aea.length cN]) (by simp[results,Tryz.results115,go_sem, *]) rfl ?_;obtain⟨r1,r2,r3⟩:=c_.out;exact⟨_,_,_,N0,S0,rfl,r1,RH.out,r2.mono (by omega),r3⟩
 go_upto_if 20 with(fail)
 go_cut [20]from 21 to 22 (fun t wx=>t=.bool true/\wx=w2)
 case first=>
  by_cases h4:s=4
  ·have g2:(s==4)=true:=by simp[h4]
   go_wp2;go_meet
   case rel=>exact⟨by rw[g2],rfl⟩
  ·have g2:(s==4)=false:=by simp[h4]
   have g3:(s==5)=true:=by simp;omega
   go_wp2;go_meet
   case rel=>exact⟨by first | rfl | rw[g3],rfl⟩
 case rest=>
 obtain⟨dS,ks⟩:=hcut;subst dS;have qf:=ks.symm;clear ks;subst qf;clear RK g1 hZ;obtain⟨k0,k1,k2,-,-,-⟩:=sJ.out.box.cells;have CN:=zh sJ.out.own.read;go_wp2_with fail;refine(q_ _ _ _ N0 w2 CN.out).mono ?_;obtain⟨gk,hgk⟩:∃z,z=al N0:=⟨_,rfl⟩
 rw[<- hgk];rintro e w3 ⟨rfl,bN⟩;have VA:aa w2 w3:=bN;have kK:=zh (sJ.out.since VA kD qr El.out);have zn:Hid (B<=w3.heap.size):=Nat.le_trans El.out VA.below.size;have Hgk:=zh hgk;clear bN VA hgk k0 k1 k2;cases gk
 ·skip;obtain⟨k0,k1,k2,-,-,-⟩:=kK.out.box.cells
  have ec:=kK.out.far.aeh iF.out (by have:=eT.out;omega) (by omega)
  obtain⟨y0,y1,y2,f0,f1,f2⟩:=ec.box.cells;have aP:=kK.out.own;have aW:=kK.out.far;rw[eT.out]at aP aW;have c_:=zh (dq lC.out aP kK.out.cur aW ja);clear aW ec aP;go_wp2;refine bodyPost_ret (v:=.agg #[.slice A1 N0.ends.length c1,.slice AI N0.ids.length cI,.slice AN N0.aea.length cN]) (by simp[results,Tryz.results115,go_sem, *]) rfl ?_;obtain⟨r1,r2,r3⟩:=c_.out;exact⟨_,_,_,N0,S0,rfl,r1,RH.out,r2.mono (by omega),r3⟩
 go_wp2_with fail;refine(mT cb A L c _ 12 w3 kK.out.cur (by omega) (by omega)).mono ?_;rintro e w4 ⟨bb,rfl,pD,pY⟩;have sG:=zh (kK.out.seen pY pD kD qr zn.out);have VB:Hid (B<=w4.heap.size):=Nat.le_trans zn.out pY.size;clear pD pY;cases bb
 rotate_left
 ·skip;obtain⟨k0,k1,k2,-,-,-⟩:=sG.out.box.cells
  have ec:=sG.out.far.aeh iF.out (by have:=eT.out;omega) (by omega)
  obtain⟨y0,y1,y2,f0,f1,f2⟩:=ec.box.cells;have aP:=sG.out.own;have aW:=sG.out.far;rw[eT.out]at aP aW;have c_:=zh (dq lC.out aP sG.out.cur aW ja);clear aW ec aP;go_wp2;refine bodyPost_ret (v:=.agg #[.slice A1 N0.ends.length c1,.slice AI N0.ids.length cI,.slice AN N0.aea.length cN]) (by simp[results,Tryz.results115,go_sem, *]) rfl ?_;obtain⟨r1,r2,r3⟩:=c_.out;exact⟨_,_,_,N0,S0,rfl,r1,RH.out,r2.mono (by omega),r3⟩
 have HT0:=zh (aak Hgk.out.symm);obtain⟨k0,k1,k2,-,-,-⟩:=sG.out.box.cells;have MP:=zh sG.out.own.read;go_wp2_with fail;refine(tM cb A L c _ 100 40 _ _ _ N0 w4 sG.out.cur (by omega) MP.out HT0.out.1 (by omega) (by omega)).mono ?_;rintro e w5 ⟨ve5,vi5,vn5,N5,S5,rfl,yK,⟨he5,hi5,hl5⟩,mZ,vC⟩;obtain⟨D0,d0,rfl,-,-,-⟩:=id yK.read.1;obtain⟨D1,d1,rfl,-,-,-⟩:=id yK.read.2.1;obtain⟨D2,d2,rfl,-,-,-⟩:=id yK.read.2.2;have hm6:=sG.out.assign vC mZ yK sG.out.box.lt kD qr VB.out;obtain⟨q0,q1,q2,f0,f1,f2⟩:=(sG.out.box.blk (vC.block pb sG.out.box.lt iN)).cells;have nN:=zh hm6
 have RM:Hid (B<=(aed w5 pb (.slice D0 N5.ends.length d0) (.slice D1 N5.ids.length d1) (.slice D2 N5.aea.length d2)).heap.size):=by show _<=_;rw[gQ];exact Nat.le_trans VB.out vC.size
 have HT5:Hid (TN 100 40 N5):=⟨HT0.out.1.aeB he5 hi5 hl5,by rw[he5];exact HT0.out.2⟩
 have aan:Hid (al (kV N5)=true):=RF Hgk.out.symm he5;clear hm6 yK he5 hi5 hl5 mZ vC k0 k1 k2;go_upto_region 11 with(fail);obtain⟨w6,CR⟩:∃z,z=aed w5 pb (.slice D0 N5.ends.length d0) (.slice D1 N5.ids.length d1) (.slice D2 N5.aea.length d2):=⟨_,rfl⟩
 have aao:((w5.setCell ⟨pb,0,none⟩ (.slice D0 N5.ends.length d0)).setCell ⟨pb,1,none⟩ (.slice D1 N5.ids.length d1)).setCell ⟨pb,2,none⟩ (.slice D2 N5.aea.length d2)=w6:=CR.symm;rw[aao];rw[<- CR]at nN RM;clear CR aao q0 q1 q2 f0 f1 f2 sJ El kK zn sG VB CN MP nX sM;go_wp2_with fail;refine(mT cb A L c _ 3 w6 nN.out.cur (by omega) (by omega)).mono ?_;rintro e w7 ⟨bb3,rfl,xY,AB⟩;have Az:=zh (nN.out.seen AB xY kD qr RM.out);have Et:Hid (B<=w7.heap.size):=Nat.le_trans RM.out AB.size;clear xY AB nN RM
 go_upto_if 35 with(fail)
 go_cut [7]from 35 to 54 (fun _ wx=>∃ve vi vn N S,Mb cb B pb A L c (P+300000000000100000) w0 wx ve vi vn N S/\TN 100 40 N/\al (kV N)=true/\B<=wx.heap.size)
 case first=>
  cases bb3
  ·go_wp2;go_meet
   case rel=>exact⟨_,_,_,N5,S5,Az.out.mono (by omega),HT5.out,aan.out,Et.out⟩
  ·have KY:N5.ends.length<=40:=HT5.out.1.ends;obtain⟨Ef,S8,RI,Vn⟩:=Az.out.aeq (v':=.slice none 0 0) (ids':=[]) (j7 _ _) (bg.refl _ _) (fun j hj=>by simp at hj) kD qr Et.out
   obtain⟨-,x1,-,-,f1,-⟩:=Az.out.box.cells;have Fo:=zh RI
   have Hz8:Hid (B<=(w7.setCell ⟨pb,1,none⟩ (.slice none 0 0)).heap.size):=by show _<=_;rw[jC];exact Et.out
   clear Ef RI Vn;go_upto_region 13 with(fail);obtain⟨w8,kH⟩:∃z,z=w7.setCell ⟨pb,1,none⟩ (.slice none 0 0):=⟨_,rfl⟩
   rw[<- kH]at Fo Hz8 ⊢;clear kH x1 f1;obtain⟨x0,-,-,-,-,-⟩:=Fo.out.box.cells;go_wp2_with fail;refine(GF cb A L c _ N5.ends.length w8 Fo.out.cur (by omega) (by omega)).mono ?_;rintro e w9 ⟨og,xs,rfl,qv,aap,qq,RC⟩;have tO:=zh (Fo.out.seen RC qq kD qr Hz8.out);have tK:Hid (B<=w9.heap.size):=Nat.le_trans Hz8.out RC.size;have Qf:=zh qv;have ZG:=zh aap;have vh:xs.length=N5.ends.length:=qv.len.symm ▸ rfl
   have Vs:Hid (og∉S8/\og≠pb/\cb<og/\og<w9.heap.size):=by
    have h1:=(World.ownsRow.lt qv og (by simp[Value.ownBlock]));have h2:=Fo.out.box.lt
    exact⟨fun hj=>by have:=(Fo.out.own.range _ hj).2;omega,by omega,by omega,h1.2⟩
   clear qv aap qq RC x0;have zi:=zh vh;clear vh;go_upto_region 14 with(fail)
   go_loopw [43] (fun i wr=>∃(k:Nat) (vi:Value) (N:ak) (S:List Nat),k<=N5.ends.length/\i=.int .i64 k/\Mb cb B pb A L c (P+220000000000000000+2+1000+2+200) w0 wr (.slice D0 N5.ends.length d0) vi (.slice D2 N5.aea.length d2) N S/\N.ends=N5.ends/\N.aea=N5.aea/\N.ids.length=k/\Own wr w8.heap.size (.slice (some ⟨og,0,none⟩) N5.ends.length N5.ends.length) xs/\B<=wr.heap.size/\og∉S) (fun i _=>N5.ends.length-(intOf i).toNat)
   case atStart=>exact⟨0,_,{ N5 with ids:=[] },S8,Nat.zero_le _,rfl,tO.out,rfl,rfl,rfl,Qf.out,tK.out,Vs.out.1⟩
   case round=>
    obtain⟨k,vi,N,S,hk,rfl,hm,Z_,TD,yE,xS,hz,iA⟩:=hrel;obtain⟨rQ,rR,rfl,-,-,-⟩:=id hm.own.read.2.1;rw[yE]at hm;have Hm:=zh hm;have Hf:=zh (And.intro Z_ (And.intro TD yE));have G2:=zh xS;have Hz:=zh hz;have q9:=zh iA;clear hm Z_ TD yE xS hz iA
    by_cases hlt:k<N5.ends.length
    ·obtain⟨x,hx⟩:=aM xs k (by rw[zi.out];exact hlt)
     have sk:=ZG.out x (List.mem_of_getElem? hx);have c0:=G2.out.cell hx;have m3:IntKind.i64.wrap ((k:Int)+1)=(k:Int)+1:=aF _ (by omega) (by omega)
     have Hl:Hid (N.ids.length+[x+1].length<=17592186044416):=by show _<=_;have:=Hf.out.2.2;simp;omega
     have m1:IntKind.i64.wrap (x+1)=x+1:=aF _ (by omega) (by omega);have oa:aa wr (wr.alloc (.cells #[.int .i64 (x+1)] 3)):=ag _ (ad _);have HmA:=zh (Hm.out.since oa kD qr Hz.out);have HoA:=zh (G2.out.since oa);have HzA:Hid (B<=(wr.alloc (.cells #[.int .i64 (x+1)] 3)).heap.size):=Nat.le_trans Hz.out oa.below.size;obtain⟨x0,x1,x2,f0,f1,f2⟩:=Hm.out.box.cells;have aP:=HmA.out.aej.1.1;have Ei:=zh aP;clear oa sk hx aP
     go_wp2_with (at_builtin;refine jW (base:=B) rfl _ _ rfl rfl Ei.out rfl (sP _ _) Hl.out HzA.out ?_;intro v' w9 T iS gL TE;obtain⟨V,mV,cV,rfl⟩:=iy.one iS;obtain⟨km,S9,Jp,Eg,OF,Eh⟩:=HmA.out.aeK iS gL TE kD qr HzA.out HoA.out rfl ⟨q9.out,Vs.out.2.1⟩;clear x0 x1 x2 f0 f1 f2 iS gL TE;have act:=zh Jp;have vP:=zh Eg;have acu:=zh OF;have OG:=zh Eh;clear Jp Eg OF Eh;obtain⟨x0,x1,x2,f0,f1,f2⟩:=km.cells;clear km)
     go_roundw
     case rel=>exact⟨k+1,_,_,S9,by omega,by first | rfl | go_num,act.out,Hf.out.1,Hf.out.2.1,by have:=Hf.out.2.2;simp;omega,vP.out,Nat.le_trans HzA.out acu.out,OG.out⟩
     case measure=>simp[intOf];omega
    ·obtain⟨wo,rfl⟩:∃z,z=wr:=⟨_,rfl⟩
     go_wp2;go_meet
     case rel=>exact⟨_,_,_,N,S,Hm.out.mono (by omega),⟨HT5.out.1.aeB Hf.out.1 Hf.out.2.1 (by have:=Hf.out.2.2;omega),by rw[Hf.out.1];exact HT5.out.2⟩,K9 Hf.out.1 aan.out,Hz.out⟩
 case rest=>
  obtain⟨ve,vi,vn,N1,S1,hm,hT,L9,hz⟩:=hcut;obtain⟨B0,b0,rfl,-,-,-⟩:=id hm.own.read.1;obtain⟨B1,b1,rfl,-,-,-⟩:=id hm.own.read.2.1;obtain⟨B2,b2,rfl,-,-,-⟩:=id hm.own.read.2.2;obtain⟨w8,rfl⟩:∃z,z=wc:=⟨_,rfl⟩
  obtain⟨gI,hgI⟩:∃z,z=w8.heap.size:=⟨_,rfl⟩
  have Hm:=zh hm;have HT:=zh hT;have Vr:=zh L9;have Hz:=zh hz;have HgI:=zh hgI;have KY:N1.ends.length<=40:=hT.1.ends;have he1:0<N1.ends.length:=hT.2;clear hm hT L9 hz hgI Az Et;obtain⟨x0,-,x2,-,-,f2⟩:=Hm.out.box.cells
  go_upto_region 19 with(at_make;refine jp _ rfl _ _ rfl _ _ N1.ends.length rfl rfl rfl rfl (by omega) ?_;intro w9 iS km OF;obtain⟨aaq,S9,Jp,-⟩:=Hm.out.aeD (v':=.slice (some ⟨w8.heap.size,0,none⟩) N1.ends.length N1.ends.length) (in':=List.replicate N1.ends.length 0) (T:=[w8.heap.size]) ⟨iS.mono Hz.out,rfl⟩ (bg.aek km) (fun j hj=>.inr (by simp at hj;omega)) kD qr Hz.out;have tO:=zh Jp;have z7:=zh (show aa w8 w9 from km);have tK:=zh OF;clear iS km OF Jp x0 x2 f2;obtain⟨x0,x1,x2,f0,f1,f2⟩:=aaq.cells;clear aaq)
  obtain⟨Ar,B8⟩:∃z,z=w9.setCell ⟨pb,2,none⟩ (.slice (some ⟨w8.heap.size,0,none⟩) N1.ends.length N1.ends.length):=⟨_,rfl⟩
  have OT:Hid (B<=Ar.heap.size/\w8.heap.size<Ar.heap.size):=by show _/\_;rw[B8,jC];exact⟨Nat.le_trans Hz.out (Nat.le_of_lt tK.out),tK.out⟩
  rw[<- B8]at tO ⊢;clear B8 x0 x1 x2 f0 f1 f2 z7 tK;rw[<- HgI.out]at tO OT ⊢;obtain⟨k0,k1,k2,-,-,-⟩:=tO.out.box.cells;have aar:=zh tO.out.own.read;go_wp2_with fail;refine(K8 _ _ _ _ Ar aar.out Vr.out).mono ?_;obtain⟨xs,hxs⟩:∃z,z=bn { N1 with aea:=List.replicate N1.ends.length 0 }:=⟨_,rfl⟩
  have vh:xs.length=N1.ends.length:=by rw[hxs];exact mN _
  rw[<- hxs];rintro e RB ⟨u11,rfl,VC,La⟩
  obtain⟨gp,cp,rfl⟩:∃gp cp,u11=.slice (some ⟨gp,0,none⟩) N1.ends.length cp:=by
   rcases VC.cases with⟨-,e1⟩ | ⟨gd,cd,rfl,-,-⟩
   ·rw[e1]at vh;simp at vh;omega
   ·exact⟨gd,cd,by rw[vh]⟩
  have VD:aa Ar RB:=La;have aas:=zh (tO.out.since VD kD qr OT.out.1);have acv:Hid (B<=RB.heap.size):=Nat.le_trans OT.out.1 VD.below.size;have VE:=zh VC;have zi:=zh vh;have Hxs:=zh hxs
  have TK:cb<Ar.heap.size:=by have:=OT.out.1;omega
  clear VC La VD vh hxs k0 k1 k2 tO aar;obtain⟨k0,-,-,-,-,-⟩:=aas.out.box.cells;go_upto_region 21 with(fail);clear k0
  go_loopw [65] (fun i wr=>∃(k:Nat) (N:ak) (S:List Nat),k<=N1.ends.length/\i=.int .i64 k/\Mb cb B pb A L c (P+300000000000100000+4*k) w0 wr (.slice B0 N1.ends.length b0) (.slice B1 N1.ids.length b1) (.slice (some ⟨gI,0,none⟩) N1.ends.length N1.ends.length) N S/\TN 100 40 N/\N.aea.length=N1.ends.length/\Own wr Ar.heap.size (.slice (some ⟨gp,0,none⟩) N1.ends.length cp) xs/\B<=wr.heap.size/\Ar.heap.size<=wr.heap.size) (fun i _=>N1.ends.length-(intOf i).toNat)
  case atStart=>exact⟨0,_,_,Nat.zero_le _,rfl,aas.out,⟨⟨HT.out.1.ends,HT.out.1.row,HT.out.1.ids,by simp,HT.out.1.wf⟩,HT.out.2⟩,by simp,VE.out,acv.out,Nat.le_of_lt (Nat.lt_of_le_of_lt (World.ownsRow.lt VE.out gp rfl).1 (World.ownsRow.lt VE.out gp rfl).2)⟩
  case round=>
   obtain⟨k,N,S,hk,rfl,hm,hT,yE,qv,hz,aat⟩:=hrel;have Hm:=zh hm;have Rf:=zh hT;have si:=zh yE;have Qf:=zh qv;have EZ:=zh hz;have Rx:=zh aat;clear hm hT yE qv hz aat
   by_cases hlt:k<N1.ends.length
   ·have m3:IntKind.i64.wrap ((k:Int)+1)=(k:Int)+1:=aF _ (by omega) (by omega)
    obtain⟨x,hx⟩:=aM xs k (by rw[zi.out];exact hlt)
    have c0:=Qf.out.cell hx
    by_cases W9:x=(k:Int)
    ·have e1:(x==(k:Int))=true:=by simp[W9]
     subst W9;have Hx:=zh hx;clear hx;go_wp2_with fail;refine(mT cb A L c _ 8 wr Hm.out.cur (by omega) (by omega)).mono ?_;rintro e w12 ⟨bq,rfl,TL,OU⟩;have aau:=zh (Hm.out.seen OU TL kD qr EZ.out);have OV:=zh (Own.seen Qf.out OU TK);have Lb:Hid (B<=w12.heap.size/\Ar.heap.size<=w12.heap.size):=⟨Nat.le_trans EZ.out OU.size,Nat.le_trans Rx.out OU.size⟩;clear TL OU c0;cases bq
     rotate_left
     ·go_wp2;go_roundw
      case rel=>exact⟨k+1,N,S,by omega,by first | rfl | go_num,aau.out.mono (by omega),Rf.out,si.out,OV.out,Lb.out.1,Lb.out.2⟩
      case measure=>simp[intOf];omega
     ·go_wp2_with fail
      refine(uJ _ xs (k:Int) w12 OV.out.ints (by rw[zi.out];omega)).mono ?_
      obtain⟨PL,hPL⟩:∃z,z=fa xs (k:Int) xs.length:=⟨_,rfl⟩
      have qH:0<PL.length:=by rw[hPL];exact G5 Hx.out
      have SN:∀y∈PL,0<=y/\y<N1.ends.length:=by rw[hPL,<- zi.out];exact K_
      have TM:PL.length<=40:=by rw[hPL];exact Nat.le_trans (sE _ _ _) (by rw[zi.out];exact KY)
      rw[<- hPL];rintro e Qk ⟨u13,rfl,VF,OW⟩
      obtain⟨go,co,rfl⟩:∃go co,u13=.slice (some ⟨go,0,none⟩) PL.length co:=by
       rcases VF.cases with⟨-,e2⟩ | ⟨gd,cd,rfl,-,-⟩
       ·rw[e2]at qH;simp at qH
       ·exact⟨gd,cd,rfl⟩
      have zq:aa w12 Qk:=OW;have VG:=zh (aau.out.since zq kD qr Lb.out.1);have aav:=zh (Own.since OV.out zq);have VH:Hid (B<=Qk.heap.size/\Ar.heap.size<=Qk.heap.size):=⟨Nat.le_trans Lb.out.1 zq.below.size,Nat.le_trans Lb.out.2 zq.below.size⟩;have acw:=zh VF;have Hpi:=zh SN
      have aaw:cb<w12.heap.size:=by have:=Lb.out.1;omega
      have lp:=zh (show Qk.cell? ⟨pb,2,none⟩=some (.slice (some ⟨gI,0,none⟩) N1.ends.length N1.ends.length)from VG.out.box.cells.2.2.1);clear VF OW zq hPL SN;go_upto_region 25 with(fail);refine aL (fun W=>W.cell? ⟨pb,2,none⟩=some (.slice (some ⟨gI,0,none⟩) N1.ends.length N1.ends.length)) 9 [false,false,false,false,false,false,true,true,true] (by kernel_rfl) (by kernel_rfl) (show(World.drew Qk).cell? ⟨pb,2,none⟩=some (.slice (some ⟨gI,0,none⟩) N1.ends.length N1.ends.length)from lp.out) ?_
      simp only[eE,ea,zT]
      iterate 6 (apply bV rfl;(intro W hW;(have k0:=hW);go_simp;with_reducible rfl);simp only[zA])
      obtain⟨W,dE⟩:∃W,W=World.drew Qk:=⟨_,rfl⟩
      rw[<- dE];have hW:=(show(World.drew Qk).cell? ⟨pb,2,none⟩=some (.slice (some ⟨gI,0,none⟩) N1.ends.length N1.ends.length)from lp.out);rw[<- dE]at hW;have gA:=zh dE;clear dE;refine Or.inl ⟨rfl,?_⟩
      go_simp
      (with_reducible refine(dJ cb A L c (P+300000000000100000+4*k+2) PL.length W (by rw[gA.out];exact VG.out.cur.since (aj (ad _))) (by omega) (by omega)).mono ?_)
      rintro e W' ⟨a,rfl,ha,fh,hC⟩;refine⟨_,rfl,aA hW iN _ hC,?_⟩
      replace hW:=aA hW iN _ hC
      have qg:aa Qk W:=(by rw[gA.out];exact aj (ad _))
      have ly:=((eF.refl cb Qk).after qg).trans hC;have OX:=zh (VG.out.seen ly fh kD qr VH.out.1);have TO:=zh (Own.seen aav.out ly TK);have aax:Hid (B<=W'.heap.size/\Ar.heap.size<=W'.heap.size):=⟨Nat.le_trans VH.out.1 ly.size,Nat.le_trans VH.out.2 ly.size⟩;have Jn:a<PL.length:=(by omega);obtain⟨yi,hyi⟩:=aM PL a Jn;have hyr:=Hpi.out yi (List.mem_of_getElem? hyi);obtain⟨y,rfl⟩:=Int.eq_ofNat_of_zero_le hyr.1;have Mc:y<N1.ends.length:=(by omega);have c1:=(Own.seen acw.out ly aaw).cell hyi
      obtain⟨zz,c2⟩:=OX.out.own.aez (j:=y) (by rw[si.out];exact Mc)
      obtain⟨f0,aay⟩:=OX.out.aen (k:=y) 1 (by rw[si.out];exact Mc) kD
      have acx:=zh aay
      have HgS:=zh (OX.out.own.aen (k:=y) 1 (by rw[si.out];exact Mc)).1
      clear hC fh qg ha ly aay hyi hyr
      (try simp only[zA])
      refine dG (v:=?_) rfl ?_ hW ?_;rotate_left;(go_simp;with_reducible rfl)
      simp only[zA]
      refine dG (v:=?_) rfl ?_ hW ?_;rotate_left;(go_simp;with_reducible rfl)
      simp only[zA];simp only[bz];go_wp2;go_roundw
      case rel=>exact⟨k+1,_,S,by omega,by first | rfl | go_num,acx.out.mono (by omega),⟨Rf.out.1.aen y 1,Rf.out.2⟩,by show(N.aea.set y 1).length=_;rw[List.length_set];exact si.out,aK TO.out (fun j hj=>Below.heap_setCell _ _ _ _ (by
       have h1:=(World.ownsRow.lt TO.out j (by simpa using hj)).1;have h2:=HgI.out;have h3:=OT.out.2;show j≠gI
       omega)),by rw[jC];exact aax.out.1,by rw[jC];exact aax.out.2⟩
      case measure=>simp[intOf];omega
    ·have e1:(x==(k:Int))=false:=by simp[W9]
     clear W9 hx;go_wp2;go_roundw
     case rel=>exact⟨k+1,N,S,by omega,by first | rfl | go_num,Hm.out.mono (by omega),Rf.out,si.out,Qf.out,EZ.out,Rx.out⟩
     case measure=>simp[intOf];omega
   ·obtain⟨wo,rfl⟩:∃z,z=wr:=⟨_,rfl⟩
    go_wp2_with fail;refine(mT cb A L c _ 4 wo Hm.out.cur (by omega) (by omega)).mono ?_;rintro e w7 ⟨bq,rfl,xY,AB⟩;have Az:=zh (Hm.out.seen AB xY kD qr EZ.out);have Et:Hid (B<=w7.heap.size):=Nat.le_trans EZ.out AB.size;clear xY AB;cases bq
    ·skip;obtain⟨k0,k1,k2,-,-,-⟩:=Az.out.box.cells
     have ec:=Az.out.far.aeh iF.out (by have:=eT.out;omega) (by omega)
     obtain⟨y0,y1,y2,f0,f1,f2⟩:=ec.box.cells;have aP:=Az.out.own;have aW:=Az.out.far;rw[eT.out]at aP aW;have c_:=zh (dq lC.out aP Az.out.cur aW ja);clear aW ec aP;go_wp2;refine bodyPost_ret (v:=.agg #[.slice B0 N1.ends.length b0,.slice B1 N1.ids.length b1,.slice (some ⟨gI,0,none⟩) N1.ends.length N1.ends.length]) (by simp[results,Tryz.results115,go_sem, *]) rfl ?_;obtain⟨r1,r2,r3⟩:=c_.out;exact⟨_,_,_,N,S,rfl,r1,(Rf.out.1.bd (by omega) (by omega)),r2.mono (by omega),r3⟩
    ·obtain⟨P7,Xj⟩:∃z,z=P+300000000000100000+4*k+2:=⟨_,rfl⟩
     have HP7:Hid (P7<=4000000000000000000):=by show _<=_;omega
     have acy:=zh Xj
     have B7:Hid (dm w7 cb A L c P7):=by show dm _ _ _ _ _ _;rw[Xj];exact Az.out.cur
     have RN:Hid (bx w7 w.heap.size (.slice none 0 0) (.slice none 0 0) (.slice none 0 0)):=Az.out.far.aeh iF.out (by have:=eT.out;omega) (by omega)
     have acz:Hid (w7.heap.size<=w7.heap.size):=Nat.le_refl _
     have DK:Hid (cb<w7.heap.size/\w.heap.size<w7.heap.size):=⟨by have:=Et.out;omega,by have:=Et.out;have:=eT.out;omega⟩
     have Hm0:Hid (0<N1.ends.length):=he1
     have HY:Hid (∀W,C2 cb w.heap.size w7 W->W.cell? ⟨pb,2,none⟩=some (.slice (some ⟨gI,0,none⟩) N1.ends.length N1.ends.length)):=fun W hW=>by
      have K6:pb≠w.heap.size:=by have:=eT.out;omega
      exact hW.cell Az.out.box.cells.2.2.1 iN K6
     clear Xj;go_upto_region 28 with(fail);refine j3 10 [6,8] (RW [dM (.pointer (some ⟨pb,2,none⟩)),dM (.slice (some ⟨gI,0,none⟩) N1.ends.length N1.ends.length),dM (.pointer (some ⟨cb,0,none⟩)),dM (.pointer (some ⟨pb,2,none⟩)),dM (.slice (some ⟨gI,0,none⟩) N1.ends.length N1.ends.length),dM (.int .i64 (N1.ends.length:Int)),kn ((N1.ends.length:Int)),dM (.pointer (some ⟨cb,0,none⟩)),kn (3),fun u _=>∃z:Nat,u=.pointer (some ⟨gI,z,none⟩)/\z<N1.ends.length]) (vD cb w.heap.size A L c (P7) (2) 2 w7 (fun W=>True)) (C2 cb w.heap.size) (RW.rel ?_) (by kernel_rfl) (by kernel_rfl) (by kernel_rfl) (by decide) (by kernel_rfl) (vD.start B7.out RN.out (aj (ad _))) ?_ ?_
     ·intro r hr;simp only[List.mem_cons,List.not_mem_nil,or_false]at hr;rcases hr with rfl | rfl | rfl | rfl | rfl | rfl | rfl | rfl | rfl | rfl
      ·exact fun _ _ _ _ h=>h
      ·exact fun _ _ _ _ h=>h
      ·exact fun _ _ _ _ h=>h
      ·exact fun _ _ _ _ h=>h
      ·exact fun _ _ _ _ h=>h
      ·exact fun _ _ _ _ h=>h
      ·exact fun _ _ _ _ h=>h
      ·exact fun _ _ _ _ h=>h
      ·exact fun _ _ _ _ h=>h
      ·exact fun _ _ _ _ h=>h
     ·intro i o hi ho V W q hq hr hd
      match i,ho with
      | 0,ho=>
       cases ho;clear hd hi hr;refine⟨rfl,?_⟩;simp only[aN,zR10,zG,zA]
       refine av (u:=.pointer (some ⟨pb,2,none⟩)) (W':=W) (by go_simp) ⟨hq,C2.refl _ _ _,rfl⟩
      | 1,ho=>
       cases ho;have e0:(dM (.pointer (some ⟨pb,2,none⟩))) (V 0) W:=hd 0 (by decide +kernel);clear hd hi hr;refine⟨rfl,?_⟩;simp only[aN,zR10,zG,zA]
       have e0:V 0=_:=e0;rw[e0];clear e0;have k2:=HY.out W hq.rel;refine av (u:=.slice (some ⟨gI,0,none⟩) N1.ends.length N1.ends.length) (W':=W) (by go_simp) ⟨hq,C2.refl _ _ _,rfl⟩
      | 2,ho=>
       cases ho;clear hd hi hr;refine⟨rfl,?_⟩;simp only[aN,zR10,zG,zA]
       refine av (u:=.pointer (some ⟨cb,0,none⟩)) (W':=W) (by go_simp) ⟨hq,C2.refl _ _ _,rfl⟩
      | 3,ho=>
       cases ho;clear hd hi hr;refine⟨rfl,?_⟩;simp only[aN,zR10,zG,zA]
       refine av (u:=.pointer (some ⟨pb,2,none⟩)) (W':=W) (by go_simp) ⟨hq,C2.refl _ _ _,rfl⟩
      | 4,ho=>
       cases ho;have e3:(dM (.pointer (some ⟨pb,2,none⟩))) (V 3) W:=hd 3 (by decide +kernel);clear hd hi hr;refine⟨rfl,?_⟩;simp only[aN,zR10,zG,zA]
       have e3:V 3=_:=e3;rw[e3];clear e3;have k2:=HY.out W hq.rel;refine av (u:=.slice (some ⟨gI,0,none⟩) N1.ends.length N1.ends.length) (W':=W) (by go_simp) ⟨hq,C2.refl _ _ _,rfl⟩
      | 5,ho=>
       cases ho;have e4:(dM (.slice (some ⟨gI,0,none⟩) N1.ends.length N1.ends.length)) (V 4) W:=hd 4 (by decide +kernel);clear hd hi hr;refine⟨rfl,?_⟩;simp only[aN,zR10,zG,zA]
       have e4:V 4=_:=e4;rw[e4];clear e4;refine av (u:=.int .i64 (N1.ends.length:Int)) (W':=W) (by go_simp) ⟨hq,C2.refl _ _ _,rfl⟩
      | 6,ho=>
       cases ho;have e2:(dM (.pointer (some ⟨cb,0,none⟩))) (V 2) W:=hd 2 (by decide +kernel);have e5:(dM (.int .i64 (N1.ends.length:Int))) (V 5) W:=hd 5 (by decide +kernel);have nZ:Hid (0=q):=hr 0 rfl;clear hd hi hr;refine⟨rfl,?_⟩;simp only[aN,zR10,zG,zA]
       have e2:V 2=_:=e2;rw[e2];clear e2;have e5:V 5=_:=e5;rw[e5];clear e5;refine eM (f:=62) (args:=#[.pointer (some ⟨cb,0,none⟩),.int .i64 (N1.ends.length:Int)]) (W':=W) (by go_simp) ?_
       refine(dJ cb A L c (P7+2*q) ((N1.ends.length:Int)) W (hq.cur (by have:=nZ.out;omega)) (by have:=HP7.out;have:=nZ.out;omega) (by omega)).mono ?_
       rintro e W' ⟨z,rfl,hz,fh,hC⟩
       exact⟨_,rfl,hq.call (by have:=nZ.out;omega) hC fh (by omega) (by have:=eT.out;omega),C2.of hC,z,rfl,hz⟩
      | 7,ho=>
       cases ho;clear hd hi hr;refine⟨rfl,?_⟩;simp only[aN,zR10,zG,zA]
       refine av (u:=.pointer (some ⟨cb,0,none⟩)) (W':=W) (by go_simp) ⟨hq,C2.refl _ _ _,rfl⟩
      | 8,ho=>
       cases ho;have e7:(dM (.pointer (some ⟨cb,0,none⟩))) (V 7) W:=hd 7 (by decide +kernel);have nZ:Hid (1=q):=hr 1 rfl;clear hd hi hr;refine⟨rfl,?_⟩;simp only[aN,zR10,zG,zA]
       have e7:V 7=_:=e7;rw[e7];clear e7;refine eM (f:=62) (args:=#[.pointer (some ⟨cb,0,none⟩),.int .i64 3]) (W':=W) (by go_simp) ?_
       refine(dJ cb A L c (P7+2*q) (3) W (hq.cur (by have:=nZ.out;omega)) (by have:=HP7.out;have:=nZ.out;omega) (by omega)).mono ?_
       rintro e W' ⟨z,rfl,hz,fh,hC⟩
       exact⟨_,rfl,hq.call (by have:=nZ.out;omega) hC fh (by omega) (by have:=eT.out;omega),C2.of hC,z,rfl,hz⟩
      | 9,ho=>
       cases ho;have e1:(dM (.slice (some ⟨gI,0,none⟩) N1.ends.length N1.ends.length)) (V 1) W:=hd 1 (by decide +kernel);have e6:(kn ((N1.ends.length:Int))) (V 6) W:=hd 6 (by decide +kernel);clear hd hi hr;refine⟨rfl,?_⟩;simp only[aN,zR10,zG,zA]
       have e1:V 1=_:=e1;rw[e1];clear e1;obtain⟨z,hz,hzb⟩:=e6;rw[hz];clear hz
       have il:z<N1.ends.length:=by have:=Hm0.out;omega
       refine av (u:=.pointer (some ⟨gI,z,none⟩)) (W':=W) (by go_simp) ⟨hq,C2.refl _ _ _,z,rfl,il⟩
      | i+10,ho=>omega
     intro V W q hq DM bZ hV;have LL:2<=q:=bZ 8 1 (by omega) rfl;have e0:(dM (.pointer (some ⟨pb,2,none⟩))) (V 0) W:=hV 0 (by decide);have e1:(dM (.slice (some ⟨gI,0,none⟩) N1.ends.length N1.ends.length)) (V 1) W:=hV 1 (by decide);have e2:(dM (.pointer (some ⟨cb,0,none⟩))) (V 2) W:=hV 2 (by decide);have e3:(dM (.pointer (some ⟨pb,2,none⟩))) (V 3) W:=hV 3 (by decide);have e4:(dM (.slice (some ⟨gI,0,none⟩) N1.ends.length N1.ends.length)) (V 4) W:=hV 4 (by decide);have e5:(dM (.int .i64 (N1.ends.length:Int))) (V 5) W:=hV 5 (by decide);have e6:(kn ((N1.ends.length:Int))) (V 6) W:=hV 6 (by decide);have e7:(dM (.pointer (some ⟨cb,0,none⟩))) (V 7) W:=hV 7 (by decide);have e8:(kn (3)) (V 8) W:=hV 8 (by decide);have e9:(fun u _=>∃z:Nat,u=.pointer (some ⟨gI,z,none⟩)/\z<N1.ends.length) (V 9) W:=hV 9 (by decide)
     clear hV bZ;have e0:V 0=_:=e0;have e1:V 1=_:=e1;have e2:V 2=_:=e2;have e3:V 3=_:=e3;have e4:V 4=_:=e4;have e5:V 5=_:=e5;obtain⟨z6,e6,b6⟩:=e6;have e7:V 7=_:=e7;obtain⟨z8,e8,b8⟩:=e8;obtain⟨z9,e9,b9⟩:=e9;simp only[aN,zR10,zG]
     (try simp only[zA])
     simp only[List.drop_succ_cons,List.drop_zero];rw[e0,e1,e2,e3,e4,e5,e6,e7,e8,e9];clear e0 e1 e2 e3 e4 e5 e6 e7 e8 e9;have hrel:=hq.rel;have aaz:=hq.cur (by omega)
     have UA:q=2:=by simp at DM;omega
     have RI:Mb cb B pb A L c (P7+4) w0 W (.slice B0 N1.ends.length b0) (.slice B1 N1.ids.length b1) (.slice (some ⟨gI,0,none⟩) N1.ends.length N1.ends.length) N S:=by
      have JN:=eT.out;have hzB:=Et.out;have K6:pb≠w.heap.size:=by omega
      exact⟨hrel.net kD (by omega) Az.out.own,Az.out.box.blk (hrel.block pb Az.out.box.lt iN K6),Az.out.nb,aaz.mono (by omega),hrel.cb2 Az.out.far (by omega) hzB (hq.box (by omega)) RN.out⟩
     obtain⟨zz,c2⟩:=RI.own.aez (j:=z9) (by rw[si.out];exact b9)
     obtain⟨f0,Jp⟩:=RI.aen (k:=z9) z8 (by rw[si.out];exact b9) kD
     have tO:=zh Jp
     have hWn:w.heap.size+1<=W.heap.size:=by have:=hrel.size;have:=DK.out.2;omega
     clear hq DM LL hrel aaz RI Jp b6 b8;go_upto_region 29 with(fail);obtain⟨w9,zf⟩:∃z,z=W.setCell ⟨gI,z9,none⟩ (.int .i64 z8):=⟨_,rfl⟩
     rw[<- zf]at tO ⊢;clear zf c2 f0;obtain⟨k0,k1,k2,-,-,-⟩:=tO.out.box.cells
     have ec:=tO.out.far.aeh iF.out (by have:=eT.out;omega) (by omega)
     obtain⟨y0,y1,y2,f0,f1,f2⟩:=ec.box.cells;have aP:=tO.out.own;have aW:=tO.out.far;rw[eT.out]at aP aW;have c_:=zh (dq lC.out aP tO.out.cur aW ja);clear aW ec aP;go_wp2;refine bodyPost_ret (v:=.agg #[.slice B0 N1.ends.length b0,.slice B1 N1.ids.length b1,.slice (some ⟨gI,0,none⟩) N1.ends.length N1.ends.length]) (by simp[results,Tryz.results115,go_sem, *]) rfl ?_;obtain⟨r1,r2,r3⟩:=c_.out
     exact⟨_,_,_,_,S,rfl,r1,((Rf.out.1.aen z9 z8).bd (by omega) (by omega)),r2.mono (by have:=acy.out;omega),r3⟩
structure Tr (N:Nat) (dep:Nat->Int) (par:Nat->Option Nat):Prop where
 some_:∀v p,v<N->par v=some p->p<N/\dep p+1=dep v
 pos:∀v,v<N->0<=dep v
def VI (par:Nat->Option Nat):Nat->Nat->Nat->Bool
 | 0,w,x=>w==x
 | f+1,w,x=>w==x||(match par w with | none=>false | some y=>VI par f y x)
def oL (dep:Nat->Int) (par:Nat->Option Nat) (w x:Nat):Bool:=VI par (dep w).toNat w x
theorem sR {N:Nat} {dep:Nat->Int} {par:Nat->Option Nat} (h:Tr N dep par):∀(f w x:Nat),w<N->(dep w).toNat<=f->VI par f w x=oL dep par w x
 | 0,w,x,hw,hf=>by
  have h1:=h.pos w hw;unfold oL;rw[show(dep w).toNat=0 by omega]
 | f+1,w,x,hw,hf=>by
  unfold oL
  cases hp:par w with
  | none=>
   cases hd:(dep w).toNat with
   | zero=>simp[VI,hp]
   | succ d=>simp[VI,hp]
  | some y=>
   obtain⟨h1,h2⟩:=h.some_ w y hw hp;have h3:=h.pos y h1;obtain⟨d,hd⟩:∃d,(dep w).toNat=d+1:=⟨(dep w).toNat-1,by omega⟩
   rw[hd];simp only[VI,hp];rw[sR h f y x h1 (by omega),sR h d y x h1 (by omega)]
theorem ie {N:Nat} {dep:Nat->Int} {par:Nat->Option Nat} (h:Tr N dep par) {w x:Nat} (hw:w<N):oL dep par w x=(w==x||(match par w with | none=>false | some y=>oL dep par y x)):=by
 rw[<- sR h ((dep w).toNat+1) w x hw (by omega)];simp only[VI]
 cases hp:par w with
 | none=>rfl
 | some y=>
  obtain⟨h1,h2⟩:=h.some_ w y hw hp;simp only[];rw[sR h _ y x h1 (by omega)]
theorem jD {N:Nat} {dep:Nat->Int} {par:Nat->Option Nat} (h:Tr N dep par) {w:Nat} (hw:w<N):oL dep par w w=true:=by rw[ie h hw];simp
theorem p9 {N:Nat} {dep:Nat->Int} {par:Nat->Option Nat} (h:Tr N dep par):∀(f w x:Nat),w<N->(dep w).toNat<=f->oL dep par w x=true->x<N/\(x=w\/dep x<dep w)
 | f,w,x,hw,hf,ha=>by
  rw[ie h hw,Bool.or_eq_true]at ha;rcases ha with ha | ha
  ·have:=eq_of_beq ha
   subst this;exact⟨hw,.inl rfl⟩
  ·cases hp:par w with
   | none=>rw[hp]at ha;simp at ha
   | some y=>
    rw[hp]at ha;obtain⟨h1,h2⟩:=h.some_ w y hw hp;have h3:=h.pos y h1
    cases f with
    | zero=>omega
    | succ f=>
     obtain⟨g1,g2⟩:=p9 h f y x h1 (by omega) ha;refine⟨g1,.inr ?_⟩;rcases g2 with g2 | g2
     ·subst g2;omega
     ·omega
theorem p_ {N:Nat} {dep:Nat->Int} {par:Nat->Option Nat} (h:Tr N dep par):∀(f w x:Nat),w<N->(dep w).toNat<=f->oL dep par w x=true->w≠x->∃c,c<N/\par c=some x/\oL dep par w c=true
 | f,w,x,hw,hf,ha,hn=>by
  rw[ie h hw,Bool.or_eq_true]at ha;rcases ha with ha | ha
  ·exact absurd (eq_of_beq ha) hn
  ·cases hp:par w with
   | none=>rw[hp]at ha;simp at ha
   | some y=>
    rw[hp]at ha;obtain⟨h1,h2⟩:=h.some_ w y hw hp;have h3:=h.pos y h1
    by_cases hy:y=x
    ·subst hy;exact⟨w,hw,hp,jD h hw⟩
    ·cases f with
     | zero=>omega
     | succ f=>
      obtain⟨c,hc,g1,g2⟩:=p_ h f y x h1 (by omega) ha hy;refine⟨c,hc,g1,?_⟩;rw[ie h hw,hp,Bool.or_eq_true];exact .inr g2
theorem B9 {N:Nat} {dep:Nat->Int} {par:Nat->Option Nat} (h:Tr N dep par):∀(f w c x:Nat),w<N->(dep w).toNat<=f->oL dep par w c=true->par c=some x->oL dep par w x=true
 | f,w,c,x,hw,hf,ha,hp=>by
  rw[ie h hw,Bool.or_eq_true]at ha;rcases ha with ha | ha
  ·have:=eq_of_beq ha
   subst this;obtain⟨h1,-⟩:=h.some_ w x hw hp;rw[ie h hw,hp,Bool.or_eq_true];exact .inr (jD h h1)
  ·cases hq:par w with
   | none=>rw[hq]at ha;simp at ha
   | some y=>
    rw[hq]at ha;obtain⟨h1,h2⟩:=h.some_ w y hw hq;have h3:=h.pos y h1
    cases f with
    | zero=>omega
    | succ f=>
     have g:=B9 h f y c x h1 (by omega) ha hp;rw[ie h hw,hq,Bool.or_eq_true];exact .inr g
theorem v_ {N:Nat} {dep:Nat->Int} {par:Nat->Option Nat} (h:Tr N dep par):∀(f w a b:Nat),w<N->(dep w).toNat<=f->oL dep par w a=true->oL dep par w b=true->dep a=dep b->a=b
 | f,w,a,b,hw,hf,ha,hb,he=>by
  have ga:=p9 h f w a hw hf ha;have gb:=p9 h f w b hw hf hb;rw[ie h hw,Bool.or_eq_true]at ha hb
  by_cases e1:w=a
  ·subst e1;rcases gb.2 with g | g
   ·exact g.symm
   ·omega
  ·by_cases e2:w=b
   ·subst e2;rcases ga.2 with g | g
    ·exact g
    ·omega
   ·rcases ha with ha | ha
    ·exact absurd (eq_of_beq ha) e1
    ·rcases hb with hb | hb
     ·exact absurd (eq_of_beq hb) e2
     ·cases hp:par w with
      | none=>rw[hp]at ha;simp at ha
      | some y=>
       rw[hp]at ha hb;obtain⟨h1,h2⟩:=h.some_ w y hw hp;have h3:=h.pos y h1
       cases f with
       | zero=>omega
       | succ f=>exact v_ h f y a b h1 (by omega) ha hb he
def xZ (dep:Nat->Int) (par:Nat->Option Nat) (D:List Nat) (w x:Nat):Bool:=w==x||D.any (fun c=>(par c==some x)&&oL dep par w c)
theorem Lc {N:Nat} {dep:Nat->Int} {par:Nat->Option Nat} (h:Tr N dep par) {D:List Nat} {x:Nat} (hD:∀c,c<N->par c=some x->c∈D) (hN:∀c∈D,c<N) {w:Nat} (hw:w<N):xZ dep par D w x=oL dep par w x:=by
 rw[Bool.eq_iff_iff];unfold xZ;rw[Bool.or_eq_true,List.any_eq_true];constructor
 ·rintro(h1 | ⟨c,hc,h1⟩)
  ·have:=eq_of_beq h1
   subst this;exact jD h hw
  ·rw[Bool.and_eq_true]at h1;exact B9 h _ w c x hw (Nat.le_refl _) h1.2 (eq_of_beq h1.1)
 ·intro ha
  by_cases e:w=x
  ·left;simp[e]
  ·obtain⟨c,hc,h1,h2⟩:=p_ h _ w x hw (Nat.le_refl _) ha e
   exact .inr ⟨c,hD c hc h1,by rw[h1,h2];simp⟩
theorem kX {p q r:Nat->Bool}:∀ {l:List Nat},(∀w∈l,r w=(p w||q w))->(∀w∈l,p w=true->q w=false)->l.countP r=l.countP p+l.countP q
 | [],_,_=>rfl
 | a::l,h1,h2=>by
  have ih:=kX (l:=l) (fun w hw=>h1 w (List.mem_cons_of_mem _ hw)) (fun w hw=>h2 w (List.mem_cons_of_mem _ hw))
  have e1:=h1 a (by simp);have e2:=h2 a (by simp);rw[List.countP_cons,List.countP_cons,List.countP_cons,ih,e1]
  cases hp:p a <;> cases hq:q a <;> simp_all <;> omega
def jK (N:Nat) (dep:Nat->Int) (par:Nat->Option Nat) (x:Nat):Nat:=(List.range N).countP fun w=>oL dep par w x
structure Jt (N:Nat) (dep:Nat->Int) (par:Nat->Option Nat) (D:List Nat) (s:List Int):Prop where
 len:s.length=N
 val:∀x,x<N->s.getD x 0=((List.range N).countP fun w=>xZ dep par D w x:Nat)
theorem Jt.start (N:Nat) (dep:Nat->Int) (par:Nat->Option Nat):Jt N dep par [] (List.replicate N 1):=by
 refine⟨by simp,fun x hx=>?_⟩
 have e:(List.range N).countP (fun w=>xZ dep par [] w x)=1:=by
  have:(fun w=>xZ dep par [] w x)=fun w=>w==x:=by funext w;simp[xZ]
  rw[this];have h1:=List.countP_eq_length_filter (p:=fun w=>w==x) (l:=List.range N)
  have h2:(List.range N).count x=1:=by rw[List.Nodup.count List.nodup_range,if_pos (List.mem_range.2 hx)]
  rw[<- h2];rfl
 rw[e,zDd,List.getElem?_replicate,if_pos hx];rfl
theorem Jt.own {N:Nat} {dep:Nat->Int} {par:Nat->Option Nat} (h:Tr N dep par) {D:List Nat} {s:List Int} (hs:Jt N dep par D s) {c:Nat} (hc:c<N) (hD:∀k,k<N->par k=some c->k∈D) (hN:∀k∈D,k<N):s.getD c 0=(jK N dep par c:Nat):=by
 rw[hs.val c hc];unfold jK;congr 1
 refine List.countP_congr fun w hw=>?_
 rw[Lc h hD hN (List.mem_range.1 hw)]
theorem Jt.skip {N:Nat} {dep:Nat->Int} {par:Nat->Option Nat} {D:List Nat} {s:List Int} (hs:Jt N dep par D s) {c:Nat} (hp:par c=none):Jt N dep par (D++[c]) s:=by
 refine⟨hs.len,fun x hx=>?_⟩
 rw[hs.val x hx];congr 1
 refine List.countP_congr fun w _=>?_
 unfold xZ;rw[List.any_append];simp[hp]
theorem Jt.step {N:Nat} {dep:Nat->Int} {par:Nat->Option Nat} (h:Tr N dep par) {D:List Nat} {s:List Int} (hs:Jt N dep par D s) {c p:Nat} (hc:c<N) (hcD:c∉D) (hp:par c=some p) (hD:∀k,k<N->par k=some c->k∈D) (hN:∀k∈D,k<N):
  Jt N dep par (D++[c]) (s.set p (s.getD p 0+s.getD c 0)):=by
 obtain⟨TP,hd⟩:=h.some_ c p hc hp;have WM:=hs.own h hc hD hN
 refine⟨by rw[List.length_set];exact hs.len,fun x hx=>?_⟩
 by_cases e:x=p
 ·subst e
  rw[zDd,List.getElem?_set_self (by rw[hs.len];exact TP),Option.getD_some,WM,hs.val x hx]
  unfold jK;rw[<- Int.natCast_add];congr 1
  symm
  refine kX (fun w hw=>?_) fun w hw h1=>?_
  ·unfold xZ;rw[List.any_append];simp[hp,Bool.or_assoc]
  ·have rC:=List.mem_range.1 hw
   cases h2:oL dep par w c with
   | false=>rfl
   | true=>
    exfalso
    have g2:=p9 h _ w c rC (Nat.le_refl _) h2;unfold xZ at h1;rw[Bool.or_eq_true,List.any_eq_true]at h1;rcases h1 with h1 | ⟨k,hk,h1⟩
    ·have:=eq_of_beq h1
     subst this;rcases g2.2 with g | g
     ·subst g;omega
     ·omega
    ·rw[Bool.and_eq_true]at h1;have nY:=eq_of_beq h1.1;obtain⟨-,iq⟩:=h.some_ k x (hN k hk) nY
     have:=v_ h _ w k c rC (Nat.le_refl _) h1.2 h2 (by omega)
     subst this;exact hcD hk
 ·rw[zDd,List.getElem?_set_ne (Ne.symm e),<- zDd,hs.val x hx];congr 1
  refine List.countP_congr fun w _=>?_
  unfold xZ;rw[List.any_append]
  have:(par c==some x)=false:=by rw[hp];simp;omega
  simp[this]
abbrev sS (st:List Int×List Int) (x:Int):Int:=st.1.getD x.toNat 0
structure BD (n:ak) (v:Nat) (st:List Int×List Int) (i:Nat):Prop where
 zero:sS st (v:Int)=0
 par:∀x∈st.2,x≠(v:Int)->∃y∈st.2,x∈eh n y/\sS st y+1=sS st x
 sorted:∀j k,j<=k->k<st.2.length->sS st (st.2.getD j 0)<=sS st (st.2.getD k 0)
 span:∀k,k<st.2.length->i<st.2.length->sS st (st.2.getD k 0)<=sS st (st.2.getD i 0)+1
 closed:∀k,k<i->k<st.2.length->∀x∈eh n (st.2.getD k 0),x∈st.2/\sS st x<=sS st (st.2.getD k 0)+1
theorem BD.begin {n:ak} {v:Nat} (hv:v<n.ends.length):BD n v (bG n v) 0 where
 zero:=by unfold sS bG;simp[hv]
 par:=fun x hx gM=>by
  have:x=(v:Int):=by simpa[bG]using hx
  exact absurd this gM
 sorted:=fun j k nV hk=>by
  have:(bG n v).2.length=1:=rfl
  obtain rfl:j=k:=by omega
  exact Int.le_refl _
 span:=fun k hk hi=>by
  have:(bG n v).2.length=1:=rfl
  obtain rfl:k=0:=by omega
  omega
 closed:=fun k hk=>by omega
theorem jj {xs:List Int} {k:Nat} (h:k<xs.length):xs.getD k 0∈xs:=by
 rw[zDd,List.getElem?_eq_getElem h];exact List.getElem_mem h
theorem pG {xs ys:List Int} {k:Nat} (h:k<xs.length):(xs++ys).getD k 0=xs.getD k 0:=by
 rw[zDd,List.getElem?_append_left h,<- zDd]
theorem Ld {xs:List Int} {x:Int}:(xs++[x]).getD xs.length 0=x:=by simp[zDd]
theorem BD.one {n:ak} {v i:Nat} {st:List Int×List Int} {x:Int} (hI:BI n.ends.length st) (hR:BR n v st) (h:BD n v st i) (hi:i<st.2.length) (hx:x∈eh n (st.2.getD i 0)) (sk:0<=x/\x<n.ends.length):
  BD n v (ba (st.2.getD i 0) st x) i/\x∈(ba (st.2.getD i 0) st x).2/\sS (ba (st.2.getD i 0) st x) x<=sS (ba (st.2.getD i 0) st x) (st.2.getD i 0)+1/\(∀y∈st.2,y∈(ba (st.2.getD i 0) st x).2/\sS (ba (st.2.getD i 0) st x) y=sS st y):=by
 have hc:st.2.getD i 0∈st.2:=jj hi;obtain⟨c,hcd⟩:∃c,c=st.2.getD i 0:=⟨_,rfl⟩
 have hlen:=hI.len;have hxn:((x.toNat:Nat):Int)=x:=by omega
 rw[<- hcd]at hc hx ⊢;unfold ba
 split
 ·rename_i lP
  have keep:∀y∈st.2,y.toNat≠x.toNat:=fun y hy e=>by
   have h1:=hI.walk y hy
   have h2:=(hR.seen y.toNat (by omega)).2 (by rw[show((y.toNat:Nat):Int)=y by omega];exact hy)
   rw[e]at h2;omega
  have kd:∀y∈st.2,sS (st.1.set x.toNat (st.1.getD c.toNat 0+1),st.2++[x]) y=sS st y:=fun y hy=>by
   unfold sS;show(st.1.set x.toNat _).getD y.toNat 0=_
   rw[zDd,List.getElem?_set_ne (fun e=>keep y hy e.symm),<- zDd]
  have kx:sS (st.1.set x.toNat (st.1.getD c.toNat 0+1),st.2++[x]) x=sS st c+1:=by
   unfold sS;show(st.1.set x.toNat _).getD x.toNat 0=_
   rw[zDd,List.getElem?_set_self (by omega)];rfl
  have kl:∀k,k<(st.2++[x]).length->(k<st.2.length/\(st.2++[x]).getD k 0=st.2.getD k 0)\/(k=st.2.length/\(st.2++[x]).getD k 0=x):=fun k hk=>by
   rw[List.length_append,List.length_singleton]at hk;rcases Nat.lt_or_ge k st.2.length with h1 | h1
   ·exact .inl ⟨h1,pG h1⟩
   ·obtain rfl:k=st.2.length:=by omega
    exact .inr ⟨rfl,Ld⟩
  refine⟨⟨?_,?_,?_,?_,?_⟩,by simp,by rw[kx,kd c hc];omega,fun y hy=>⟨List.mem_append_left _ hy,kd y hy⟩⟩
  ·rw[kd _ hR.start];exact h.zero
  ·intro z hz gM;rcases List.mem_append.1 hz with hz | hz
   ·obtain⟨y,hy,h1,h2⟩:=h.par z hz gM
    exact⟨y,List.mem_append_left _ hy,h1,by rw[kd y hy,kd z hz];exact h2⟩
   ·obtain rfl:z=x:=by simpa using hz
    exact⟨c,List.mem_append_left _ hc,hx,by rw[kd c hc,kx]⟩
  ·intro j k nV hk;have hk:k<(st.2++[x]).length:=hk;rcases kl k hk with⟨lc,ek⟩ | ⟨lc,ek⟩
   ·rcases kl j (by omega)with⟨uf,ej⟩ | ⟨uf,ej⟩
    ·rw[ek,ej,kd _ (jj lc),kd _ (jj uf)];exact h.sorted j k nV lc
    ·omega
   ·rw[ek,kx];rcases kl j (by omega)with⟨uf,ej⟩ | ⟨uf,ej⟩
    ·rw[ej,kd _ (jj uf),hcd];exact h.span j uf hi
    ·rw[ej,kx];exact Int.le_refl _
  ·intro k hk _;have ei:(st.2++[x]).getD i 0=c:=by rw[pG hi,hcd]
   rw[ei,kd c hc];rcases kl k hk with⟨lc,ek⟩ | ⟨lc,ek⟩
   ·rw[ek,kd _ (jj lc),hcd];exact h.span k lc hi
   ·rw[ek,kx];exact Int.le_refl _
  ·intro k hk _ z hz;have lc:k<st.2.length:=by omega
   have ek:(st.2++[x]).getD k 0=st.2.getD k 0:=pG lc;rw[ek]at hz ⊢;obtain⟨h1,h2⟩:=h.closed k hk lc z hz
   exact⟨List.mem_append_left _ h1,by rw[kd _ h1,kd _ (jj lc)];exact h2⟩
 ·rename_i lP
  have hxm:x∈st.2:=by
   have:=(hR.seen x.toNat (by omega)).1 (by omega)
   rwa [hxn]at this
  refine⟨h,hxm,?_,fun y hy=>⟨hy,rfl⟩⟩
  obtain⟨k,hk,e⟩:=List.mem_iff_getElem.1 hxm
  have:=h.span k hk hi
  rw[<- hcd,show st.2.getD k 0=x by rw[zDd,List.getElem?_eq_getElem hk];exact e]at this
  exact this
theorem BD.fold {n:ak} {v i:Nat} {c:Int}:∀(xs:List Int) {st:List Int×List Int},BI n.ends.length st->BR n v st->BD n v st i->i<st.2.length->st.2.getD i 0=c->(∀x∈xs,x∈eh n c/\0<=x/\x<n.ends.length) ->
  BD n v (xs.foldl (ba c) st) i/\(∀x∈xs,x∈(xs.foldl (ba c) st).2/\sS (xs.foldl (ba c) st) x<=sS (xs.foldl (ba c) st) c+1)/\(∀y∈st.2,y∈(xs.foldl (ba c) st).2/\sS (xs.foldl (ba c) st) y=sS st y)
 | [],_,_,_,h,_,_,_=>⟨h,fun _ hx=>by simp at hx,fun y hy=>⟨hy,rfl⟩⟩
 | x::xs,st,hI,hR,h,hi,hc,hxs=>by
  have hx:=hxs x (List.mem_cons_self ..)
  have LM:c∈st.2:=by rw[<- hc];exact jj hi
  have h1:=BD.one hI hR h hi (by rw[hc];exact hx.1) hx.2
  rw[hc]at h1;obtain⟨g1,g2,g3,g4⟩:=h1;obtain⟨ys,hw⟩:=ra c st x
  have wO:i<(ba c st x).2.length:=by rw[hw,List.length_append];omega
  have ks:(ba c st x).2.getD i 0=c:=by rw[hw,pG hi];exact hc
  obtain⟨k1,k2,k3⟩:=BD.fold xs (hI.step (hI.walk c LM) hx.2) (BR.one hI hR LM hx.1 hx.2).1 g1 wO ks (fun y hy=>hxs y (List.mem_cons_of_mem _ hy))
  refine⟨k1,fun y hy=>?_,fun y hy=>?_⟩
  ·rcases List.mem_cons.1 hy with rfl | hy
   ·obtain⟨m1,m2⟩:=k3 y g2;obtain⟨_,m4⟩:=k3 c (g4 c LM).1;refine⟨m1,?_⟩;show sS (xs.foldl (ba c) (ba c st y)) y<=sS (xs.foldl (ba c) (ba c st y)) c+1
    rw[m2,m4];exact g3
   ·exact k2 y hy
  ·obtain⟨m1,m2⟩:=g4 y hy;obtain⟨m3,m4⟩:=k3 y m1;exact⟨m3,m4.trans m2⟩
theorem AC {n:ak} (hn:al n=true) {v:Nat}:∀(f:Nat) (st:List Int×List Int) (i:Nat),BI n.ends.length st->BR n v st->BD n v st i->i<=st.2.length->n.ends.length<f+i ->
  ∃dP:List Int×List Int,sj n f st i=dP.1/\BI n.ends.length dP/\BR n v dP/\BD n v dP dP.2.length
 | 0,st,i,hI,_,_,hi,hf=>by have:=hI.bd;omega
 | f+1,st,i,hI,hR,hD,hi,hf=>by
  unfold sj
  by_cases hlt:i<st.2.length
  ·rw[if_pos hlt];have hc:st.2.getD i 0∈st.2:=jj hlt;have FO:=hI.walk _ hc;have eU:=nB hn FO;have h1:=BR.fold (cur:=st.2.getD i 0) (eh n (st.2.getD i 0)) hI hR hc (fun x hx=>⟨hx,eU x hx⟩)
   obtain⟨k1,k2,k3⟩:=BD.fold (eh n (st.2.getD i 0)) hI hR hD hlt rfl (fun x hx=>⟨hx,eU x hx⟩)
   obtain⟨ys,hw⟩:=jQ (st.2.getD i 0) (eh n (st.2.getD i 0)) st
   have hlen:i<((eh n (st.2.getD i 0)).foldl (ba (st.2.getD i 0)) st).2.length:=by rw[hw,List.length_append];omega
   refine AC hn f _ (i+1) (hI.fold FO _ eU) h1.1 ⟨k1.zero,k1.par,k1.sorted,fun k hk wO=>?_,fun k hk nY x hx=>?_⟩ (by omega) (by omega)
   ·have m1:=k1.span k hk hlen;have m2:=k1.sorted i (i+1) (by omega) wO;omega
   ·by_cases e:k=i
    ·subst e;have ek:((eh n (st.2.getD k 0)).foldl (ba (st.2.getD k 0)) st).2.getD k 0=st.2.getD k 0:=by rw[hw,pG hlt]
     rw[ek]at hx ⊢;exact k2 x hx
    ·exact k1.closed k (by omega) nY x hx
  ·rw[if_neg hlt];obtain rfl:i=st.2.length:=by omega
   exact⟨st,rfl,hI,hR,hD⟩
structure VJ (n:ak) (v:Nat) (D:Nat->Int):Prop where
 zero:D v=0
 par:∀x:Nat,f6 n v x->x≠v->∃y:Nat,f6 n v y/\(x:Int)∈eh n (y:Int)/\D y+1=D x
 nb:∀a b:Nat,f6 n v a->(b:Int)∈eh n (a:Int)->D b<=D a+1
 pos:∀x:Nat,f6 n v x->0<=D x
theorem qc {n:ak} (hn:al n=true) {v:Nat} (hv:v<n.ends.length):VJ n v (fun w=>(bS n v).getD w 0):=by
 obtain⟨st,h1,hI,hR,hD⟩:=AC hn (n.ends.length+1) (bG n v) 0 (BI.start hv) (BR.begin hv) (BD.begin hv) (Nat.zero_le _) (by omega);have e:bS n v=st.1:=h1
 have hm:∀x:Nat,f6 n v x->(x:Int)∈st.2:=fun x hx=>by
  have vh:=mg hn hv hx
  have:=(h_ hn hv vh).2 hx
  rw[e]at this;exact(hR.seen x vh).1 this
 refine⟨?_,fun x hx gM=>?_,fun a b ha hb=>?_,fun x hx=>(h_ hn hv (mg hn hv hx)).2 hx⟩
 ·have:=hD.zero
  show(bS n v).getD v 0=0
  rw[e];simpa[sS]using this
 ·obtain⟨y,hy,h2,h3⟩:=hD.par x (hm x hx) (by omega);have hyr:=hI.walk y hy;obtain⟨k,rfl⟩:=Int.eq_ofNat_of_zero_le hyr.1;refine⟨k,?_,h2,?_⟩
  ·have:=hR.rch _ hy;simpa using this
  ·show(bS n v).getD k 0+1=(bS n v).getD x 0
   rw[e];simpa[sS]using h3
 ·obtain⟨k,hk,BA⟩:=List.mem_iff_getElem.1 (hm a ha)
  have:=(hD.closed k hk hk (b:Int) (by rw[zDd,List.getElem?_eq_getElem hk];simpa[BA]using hb)).2
  show(bS n v).getD b 0<=(bS n v).getD a 0+1
  rw[e]
  rw[show st.2.getD k 0=(a:Int)by rw[zDd,List.getElem?_eq_getElem hk];exact BA]at this
  simpa[sS]using this
def aw (n:ak) (r v:Nat):Int:=(bS n r).getD v 0
def fX (n:ak) (r v:Nat):Int:=match (n.ends.getD v []).findIdx? (fun e=>decide (0<aw n r v)&&decide (aw n r e.1.toNat=aw n r v-1))with | some k=>(k:Int) | none => -1
def oe (n:ak) (r:Nat):List Int:=(List.range n.ends.length).map (fX n r)
def jl (n:ak) (v:Nat):Int:=fX n (ai n v) v
def qs (n:ak) (r v:Nat):Int:=if aw n r v<0 then 0 else aw n r v
def eB (n:ak) (v:Nat) (q:Int):Nat:=((n.ends.getD v []).getD q.toNat (0,0)).1.toNat
def mx (n:ak) (r v:Nat):Option Nat:=if 0<=fX n r v then some (eB n v (fX n r v)) else none
def dt (n:ak) (v:Nat):Int:=aw n (ai n v) v
def jb (n:ak) (v:Nat):Option Nat:=if 0<=jl n v then some (eB n v (jl n v)) else none
theorem nO (n:ak) (r v:Nat):(fX n r v = -1/\∀e∈n.ends.getD v [],¬(0<aw n r v/\aw n r e.1.toNat=aw n r v-1))\/(∃k:Nat,fX n r v=(k:Int)/\k<(n.ends.getD v []).length/\0<aw n r v/\aw n r (eB n v k)=aw n r v-1/\((n.ends.getD v []).getD k (0,0))∈n.ends.getD v []):=by
 unfold fX
 cases h:(n.ends.getD v []).findIdx? (fun e=>decide (0<aw n r v)&&decide (aw n r e.1.toNat=aw n r v-1)) with
 | none=>
  left
  rw[List.findIdx?_eq_none_iff]at h;refine⟨rfl,fun e he hc=>?_⟩
  have:=h e he
  rw[decide_eq_true hc.1,decide_eq_true hc.2]at this;cases this
 | some k=>
  right
  rw[List.findIdx?_eq_some_iff_getElem]at h;obtain⟨hk,h1,-⟩:=h;rw[Bool.and_eq_true]at h1
  have e:(n.ends.getD v []).getD k (0,0)=(n.ends.getD v [])[k]:=by rw[zDd,List.getElem?_eq_getElem hk];rfl
  refine⟨k,rfl,hk,of_decide_eq_true h1.1,?_,?_⟩
  ·unfold eB;rw[Int.toNat_natCast,e];exact of_decide_eq_true h1.2
  ·rw[e];exact List.getElem_mem hk
theorem ig {n:ak} (hn:al n=true) {v:Nat} {e:Int×Int} (he:e∈n.ends.getD v []):v<n.ends.length/\0<=e.1/\e.1<n.ends.length:=by
 rcases Nat.lt_or_ge v n.ends.length with h | h
 ·have h1:n.ends[v]?=some (n.ends.getD v []):=by rw[zDd,List.getElem?_eq_getElem h];rfl
  exact⟨h,(bX hn h1).2 e he⟩
 ·rw[zDd,List.getElem?_eq_none h]at he;simp at he
theorem lF {n:ak} {v:Nat} {e:Int×Int} (he:e∈n.ends.getD v []) (h0:0<=e.1):((e.1.toNat:Nat):Int)∈eh n (v:Int):=by
 unfold eh;rw[Int.toNat_natCast,Int.toNat_of_nonneg h0];exact List.mem_map.2 ⟨e,he,rfl⟩
theorem na {n:ak} (hn:al n=true) {r v:Nat} (hr:r<n.ends.length) (hv:v<n.ends.length):0<=aw n r v↔f6 n r v:=h_ hn hr hv
theorem fi {n:ak} (hn:al n=true) {r v:Nat} (_:r<n.ends.length) (h0:0<=fX n r v):v<n.ends.length/\eB n v (fX n r v)<n.ends.length/\0<aw n r v/\aw n r (eB n v (fX n r v))=aw n r v-1/\f6 n v (eB n v (fX n r v))/\(fX n r v).toNat<(n.ends.getD v []).length:=by
 rcases nO n r v with⟨h1,-⟩ | ⟨k,h1,h2,h3,h4,h5⟩
 ·omega
 ·rw[h1];obtain⟨a,b,c⟩:=ig hn h5;refine⟨a,?_,h3,h4,?_,by simpa using h2⟩
  ·unfold eB;rw[Int.toNat_natCast];omega
  ·refine f6.refl.step ?_
   have:=lF h5 b
   unfold eB;rw[Int.toNat_natCast];exact this
theorem trR {n:ak} (hn:al n=true) {r:Nat} (hr:r<n.ends.length):Tr n.ends.length (qs n r) (mx n r):=by
 refine⟨fun v p _ hp=>?_,fun v _=>by unfold qs;split <;> omega⟩
 unfold mx at hp
 by_cases h:0<=fX n r v
 ·rw[if_pos h]at hp;cases hp;obtain⟨h1,h2,h3,h4,-,-⟩:=fi hn hr h;refine⟨h2,?_⟩;unfold qs;rw[h4,if_neg (by omega),if_neg (by omega)];omega
 ·rw[if_neg h]at hp;cases hp
theorem Md {n:ak} (hn:al n=true):Tr n.ends.length (dt n) (jb n):=by
 refine⟨fun v p hv hp=>?_,fun v hv=>?_⟩
 ·unfold jb jl at hp
  have hr:=(bu hn hv).2.1
  by_cases h:0<=fX n (ai n v) v
  ·rw[if_pos h]at hp;cases hp;obtain⟨h1,h2,h3,h4,h5,-⟩:=fi hn hr h;refine⟨h2,?_⟩;unfold dt;rw[<- fk hn hv h5,h4];omega
  ·rw[if_neg h]at hp;cases hp
 ·exact(na hn (bu hn hv).2.1 hv).2 ((bu hn hv).1.symm hn hv)
theorem Eu {n:ak} (hn:al n=true) {r:Nat} (hr:r<n.ends.length):∀(f w v:Nat),w<n.ends.length->(dt n w).toNat<=f->ai n w=r->oL (qs n r) (mx n r) w v=oL (dt n) (jb n) w v
 | f,w,v,hw,hf,hl=>by
  have hT:=Md hn;have hR:=trR hn hr;rw[ie hR hw,ie hT hw]
  have e:mx n r w=jb n w:=by unfold jb jl;rw[hl];rfl
  rw[e]
  cases hp:jb n w with
  | none=>rfl
  | some y=>
   obtain⟨h1,h2⟩:=hT.some_ w y hw hp;have h3:=hT.pos y h1
   have hy:ai n y=r:=by
    unfold jb jl at hp
    by_cases h:0<=fX n (ai n w) w
    ·rw[if_pos h]at hp;cases hp;obtain⟨-,-,-,-,h5,-⟩:=fi hn (bu hn hw).2.1 h
     rw[<- fk hn hw h5];exact hl
    ·rw[if_neg h]at hp;cases hp
   cases f with
   | zero=>omega
   | succ f=>
    simp only[];rw[Eu hn hr f y v h1 (by omega) hy]
theorem tR {n:ak} (hn:al n=true):∀(f w v:Nat),w<n.ends.length->(dt n w).toNat<=f->oL (dt n) (jb n) w v=true->ai n w=ai n v
 | f,w,v,hw,hf,ha=>by
  have hT:=Md hn;rw[ie hT hw,Bool.or_eq_true]at ha;rcases ha with ha | ha
  ·rw[eq_of_beq ha]
  ·cases hp:jb n w with
   | none=>rw[hp]at ha;simp at ha
   | some y=>
    rw[hp]at ha;obtain⟨h1,h2⟩:=hT.some_ w y hw hp;have h3:=hT.pos y h1
    have hy:ai n w=ai n y:=by
     unfold jb jl at hp
     by_cases h:0<=fX n (ai n w) w
     ·rw[if_pos h]at hp;cases hp;obtain⟨-,-,-,-,h5,-⟩:=fi hn (bu hn hw).2.1 h;exact fk hn hw h5
     ·rw[if_neg h]at hp;cases hp
    cases f with
    | zero=>omega
    | succ f=>rw[hy];exact tR hn f y v h1 (by omega) ha
theorem OY {n:ak} (hn:al n=true) {v:Nat} (hv:v<n.ends.length):jK n.ends.length (qs n (ai n v)) (mx n (ai n v)) v=jK n.ends.length (dt n) (jb n) v:=by
 have hr:=(bu hn hv).2.1;unfold jK;refine List.countP_congr fun w hw=>?_
 have rC:=List.mem_range.1 hw
 by_cases e:ai n w=ai n v
 ·rw[Eu hn hr _ w v rC (Nat.le_refl _) e]
 ·have e1:oL (dt n) (jb n) w v=false:=by
   rw[Bool.eq_false_iff];exact fun h=>e (tR hn _ w v rC (Nat.le_refl _) h)
  have e2:oL (qs n (ai n v)) (mx n (ai n v)) w v=false:=by
   rw[ie (trR hn hr) rC]
   have h1:¬0<=aw n (ai n v) w:=fun h=>e (by
    have h2:=(na hn hr rC).1 h;have h3:=fk hn hr h2;rw[nD hn hv]at h3
    exact h3.symm)
   have h2:mx n (ai n v) w=none:=by
    unfold mx;rw[if_neg];intro h
    have:=(fi hn hr h).2.2.1
    omega
   have h3:(w==v)=false:=by
    rw[beq_eq_false_iff_ne];intro h;exact e (by rw[h])
   rw[h2,h3];rfl
  rw[e1,e2]
theorem pH {n:ak} (hn:al n=true) {v:Nat} (hv:v<n.ends.length):jl n v<0↔v=ai n v:=by
 have hs:=bu hn hv;have Ju:f6 n (ai n v) v:=hs.1.symm hn hv;unfold jl;have hd:=qc hn hs.2.1;constructor
 ·intro h;rcases nO n (ai n v) v with⟨h1,h2⟩ | ⟨k,h1,-⟩
  ·refine Decidable.byContradiction fun gM=>?_
   obtain⟨y,Jv,Mc,hy3⟩:=hd.par v Ju gM;have IN:=mg hn hs.2.1 Jv;have h4:=vO hn IN Mc;obtain⟨j,q,h5⟩:=nC.1 h4;have CD:=hd.pos y Jv;refine h2 _ (List.mem_of_getElem? h5) ⟨?_,?_⟩
   ·unfold aw;omega
   ·show aw n (ai n v) ((y:Int)).toNat=_
    rw[Int.toNat_natCast]
    unfold aw;omega
  ·omega
 ·intro h;rcases nO n (ai n v) v with⟨h1,-⟩ | ⟨k,h1,h2,h3,-⟩
  ·omega
  ·exfalso
   have h4:=hd.zero;rw[<- h]at h3 h4;unfold aw at h3;omega
def fF (n:ak) (v:Nat):Int:=((n.ids.getD (ai n v) 0*100+dt n v)*10+(if jl n v<0 then 9 else jl n v))*2+((jK n.ends.length (dt n) (jb n) v%2:Nat):Int)
def ko (n:ak) (v:Nat):Int:=n.ids.getD (gE n v).toNat 0*100+aw n (gE n v).toNat v
def oh (n:ak) (s:Int):List Int:=
 if s=1 then (if ll n=true then ml n else [])
 else if s=2 then (match fE n with | some (some l)=>l | _=>[])
 else if s=3 then (List.range n.ends.length).map (dt n)
 else if s=4 then (List.range n.ends.length).map (ko n)
 else (List.range n.ends.length).map (fF n)
theorem Ev {N:Nat} {dep:Nat->Int} {par:Nat->Option Nat} (h:Tr N dep par) {l:List Nat} (hp:l.Perm (List.range N)) (hs:l.Pairwise (fun a b=>dep b<=dep a)) {k:Nat} (hk:k<l.length):
  (∀c,c<N->par c=some l[k]->c∈l.take k)/\(∀c∈l.take k,c<N)/\l[k]∉l.take k/\l[k]<N:=by
 have hm:∀c,c∈l↔c<N:=fun c=>by rw[hp.mem_iff,List.mem_range]
 have hnd:l.Nodup:=hp.nodup_iff.2 List.nodup_range;refine⟨fun c hc x6=>?_,fun c hc=>(hm c).1 (List.mem_of_mem_take hc),fun hc=>?_,(hm _).1 (List.getElem_mem hk)⟩
 ·obtain⟨j,hj,hjc⟩:=List.mem_iff_getElem.1 ((hm c).2 hc);obtain⟨-,hd⟩:=h.some_ c _ hc x6;rcases Nat.lt_or_ge j k with h1 | h1
  ·rw[<- hjc];exact List.mem_take_iff_getElem.2 ⟨j,by omega,rfl⟩
  ·exfalso
   rcases Nat.lt_or_eq_of_le h1 with h2 | h2
   ·have:=List.pairwise_iff_getElem.1 hs k j hk hj h2
    rw[hjc]at this;omega
   ·subst h2;rw[hjc]at hd;omega
 ·obtain⟨j,hj,hjc⟩:=List.mem_take_iff_getElem.1 hc;exact List.pairwise_iff_getElem.1 hnd j k (by omega) hk (by omega) hjc
end Go.Proofs.YtgmdpppljkmabaaGreat
