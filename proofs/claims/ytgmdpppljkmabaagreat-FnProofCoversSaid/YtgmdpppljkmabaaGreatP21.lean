/- Parts of the proof: walks of functions and plain laws. -/
import Derived.Test.YtgmdpppljkmabaaGreatP0
import Derived.Test.YtgmdpppljkmabaaGreatP20
import Derived.Test.YtgmdpppljkmabaaGreatP12
import Derived.Test.YtgmdpppljkmabaaGreatP2
import Derived.Test.YtgmdpppljkmabaaGreatP11
import Derived.Test.YtgmdpppljkmabaaGreatP6
import Derived.Test.YtgmdpppljkmabaaGreatP1
import Derived.Test.YtgmdpppljkmabaaGreatP10
import Derived.Test.YtgmdpppljkmabaaGreatP5
set_option maxRecDepth 100000
set_option maxHeartbeats 16000000
namespace Go.Proofs.YtgmdpppljkmabaaGreat
open Go Go.RowKit
theorem WS {n:aj} (h:ak n=true):TN 100 40 n:=by
 have hi:=gW.1 h;obtain⟨⟨h1,h2⟩,h3,h4,h5,-⟩:=hi
 have Dk:n.ids.length<=40:=by
  unfold sF at h3;rw[Bool.or_eq_true,Bool.and_eq_true,beq_iff_eq]at h3;rcases h3 with h3 | ⟨h3,-⟩
  ·have:n.ids=[]:=by simpa using h3
   rw[this];simp
  ·omega
 have lD:n.acn.length=n.ends.length:=by
  unfold fe at h4;rw[Bool.and_eq_true,beq_iff_eq]at h4;omega
 refine⟨⟨h2,fun k es he=>?_,Dk,lD,fun k es he e hm=>?_⟩,h1⟩
 ·have:=h5 k (al he)
  rw[ao he]at this;omega
 ·obtain⟨i,hie⟩:=List.getElem?_of_mem hm
  have hp:aZ n k i e:=by
   unfold aZ;rw[ao he];exact hie
  obtain⟨-,p1,p2,p3,p4⟩:=cY h hp;unfold aZ at p4;obtain⟨fs,Mk⟩:=aA n.ends e.1.toNat (by omega);rw[ao Mk]at p4
  exact⟨e.1.toNat,e.2.toNat,fs,Prod.ext (by simp;omega) (by simp;omega),Mk,al p4⟩
theorem Oh {n N:aj} (h:ak n=true) (he:N.ends=n.ends):ak (j5 N)=true:=by
 have hi:=gW.1 h;obtain⟨h1,-,-,h5,h6⟩:=hi;refine gW.2 ?_;unfold j5;rw[he];refine⟨h1,rfl,?_,h5,h6⟩;unfold fe;rw[Bool.and_eq_true,beq_iff_eq,List.all_eq_true];refine⟨by simp,fun x hx=>?_⟩
 have:=(List.mem_replicate.1 hx).2
 rw[this];rfl
theorem Oi (cb:Nat) (A:Option Addr) (L c P:Nat) (w:World) (hc:cG w cb A L c P) (hP:P<=3800000000000000000):
  Calls Tryz.prog 178 #[.pointer (some ⟨cb,0,none⟩),.int .i64 8] w (sR cb w.heap.size A L c (P+220000000000000000) w Bd):=Og cb A L c P 8 38 w hc hP (by omega) (by omega) (by omega)
theorem RM (cb:Nat) (A:Option Addr) (L c P:Nat) (w:World) (hc:cG w cb A L c P) (hP:P<=4400000000000000000):
  Calls Tryz.prog 93 #[.pointer (some ⟨cb,0,none⟩),.int .i64 8] w (sR cb w.heap.size A L c (P+72057594037927936) w (TN 100 40)):=vg cb A L c P 8 40 w hc hP (by omega) (by omega) (by omega)
theorem Il {n N:aj} (he:N.ends=n.ends) (h:ak (j5 n)=true):ak (j5 N)=true:=by
 unfold j5 at h ⊢
 rw[he];exact h
theorem C2.cb2 {cb rb B:Nat} {w W W':World} {x y z:Value} (h:C2 cb rb W W') (h0:CB cb B w W) (hB:rb<B) (hz:B<=W.heap.size) (hb':aS W' rb x y z) (hb:aS W rb x y z):CB cb B w W':=
 h0.trans ⟨h.os,h.tape,h.output,h.size,fun k hk hn=>by
  by_cases e:k=rb
  ·subst e;exact hb'.trans hb.symm
  ·exact h.block k (by omega) hn e⟩
theorem Im {xs:List Int} {x:Int} {K:Nat}:∀y∈eu xs x K,0<=y/\y<K:=by
 intro y hy;unfold eu at hy;obtain⟨i,hi,rfl⟩:=List.mem_map.1 hy
 have:=List.mem_range.1 (List.mem_filter.1 hi).1
 exact⟨Int.natCast_nonneg i,by show(i:Int)<K;omega⟩
theorem EP {xs:List Int} {x:Int} {k:Nat} (h:xs[k]?=some x):0<(eu xs x xs.length).length:=by
 refine List.length_pos_of_mem (a:=(k:Int)) ?_;unfold eu;refine List.mem_map.2 ⟨k,List.mem_filter.2 ⟨List.mem_range.2 (al h),?_⟩,rfl⟩;rw[ao h];simp
theorem Oj (cb:Nat) (A:Option Addr) (L c P:Nat) (s:Int) (w:World) (hc:cG w cb A L c P) (hP:P<=3000000000000000000):
  Calls Tryz.prog 115 #[.pointer (some ⟨cb,0,none⟩),.int .i64 s] w (sR cb w.heap.size A L c (P+400000000000000000) w Bd):=by
 have ig:=hc.lt;obtain⟨B,rS⟩:∃z,z=w.heap.size+1:=⟨_,rfl⟩
 obtain⟨w0,bQ⟩:∃z,z=w.alloc (.cells #[.slice none 0 0,.slice none 0 0,.slice none 0 0] 27):=⟨_,rfl⟩
 have aU:ab w w0:=by rw[bQ];exact ad _ (aa _)
 have gx:w0.heap.size=B:=by rw[bQ,rS];simp
 have iy:aS w0 w.heap.size (.slice none 0 0) (.slice none 0 0) (.slice none 0 0):=by
  rw[bQ];show(w.heap.push _)[w.heap.size]?=_
  rw[Array.getElem?_push_size]
 have iH:=zh iy;have jj:=zh aU;have bS:=zh bQ;have el:=zh rS;have mA:=zh gx;have Ez:=zh (hc.since aU);clear iy aU bQ hc rS gx
 go_enter Tryz.func115,Tryz.ntmps115
 go_upto_region 1 with(fail);rw[<- bS.out];go_wp2_with fail;refine(Oi cb A L c P w0 Ez.out (by omega)).mono ?_;rintro e w1 ⟨VU,VV,VW,N0,S0,rfl,ho,WT,lM,lL⟩;obtain⟨A1,c1,rfl,-,ru,-⟩:=id ho.read.1;obtain⟨AI,cI,rfl,-,-,-⟩:=id ho.read.2.1;obtain⟨AN,cN,rfl,-,-,-⟩:=id ho.read.2.2;obtain⟨w2,iY⟩:∃z,z=w1.alloc (.cells #[.slice A1 N0.ends.length c1,.slice AI N0.ids.length cI,.slice AN N0.acn.length cN] 27):=⟨_,rfl⟩
 obtain⟨pb,fb⟩:∃z,z=w1.heap.size:=⟨_,rfl⟩
 have kb:ab w1 w2:=by rw[iY];exact ad _ (aa _)
 have ia:B<=w1.heap.size:=by rw[<- mA.out];exact lL.size
 have jR:cb<B:=by have:=el.out;omega
 have su:Mb cb B pb A L c (P+220000000000000000) w0 w2 (.slice A1 N0.ends.length c1) (.slice AI N0.ids.length cI) (.slice AN N0.acn.length cN) N0 S0:=
  ⟨(ho.keep kb.below).mono (by rw[mA.out];exact Nat.le_refl _),by rw[iY,fb];exact aY.new _ _ _ _ _,fun hj=>by have:=(ho.range _ hj).2;omega,lM.since kb,(lL.mono (by rw[mA.out];exact Nat.le_refl _)).trans (CB.of (kb.below.mono ia))⟩
 have qW:=zh su
 have eO:Hid (B<=pb/\pb<w2.heap.size):=⟨by rw[fb];exact ia,by rw[iY,fb];simp⟩
 have Cj:Hid (B<=w2.heap.size):=Nat.le_trans ia kb.below.size;have xQ:=zh iY;have qY:=zh fb;have Ol:=zh WT;clear su iY fb WT ho lM lL kb ia;go_upto_region 2 with(fail);rw[<- xQ.out,<- qY.out];have oC:B<=pb:=eO.out.1;have gX:pb≠cb:=by omega
 by_cases jJ:s=3
 ·have g1:(s==3)=true:=by simp[jJ]
  go_wp2_with fail;refine(k8 cb A L c _ 2 w2 qW.out.cur (by omega) (by omega)).mono ?_;rintro e w3 ⟨bb,rfl,vw,k7⟩;have lN:=zh (qW.out.seen k7 vw jR oC Cj.out);have xd:Hid (B<=w3.heap.size):=Nat.le_trans Cj.out k7.size;clear vw k7 qW;cases bb
  ·skip;obtain⟨k0,k1,k2,-,-,-⟩:=lN.out.box.cells
   have dJ:=lN.out.far.acv iH.out (by have:=el.out;omega) (by omega)
   obtain⟨y0,y1,y2,f0,f1,f2⟩:=dJ.box.cells;have aI:=lN.out.own;have aD:=lN.out.far;rw[el.out]at aI aD;have bZ:=zh (cO jj.out aI lN.out.cur aD ig);clear aD dJ aI;go_wp2;refine bodyPost_ret (v:=.agg #[.slice A1 N0.ends.length c1,.slice AI N0.ids.length cI,.slice AN N0.acn.length cN]) (by simp[results,Tryz.results115,go_sem, *]) rfl ?_;obtain⟨r1,r2,r3⟩:=bZ.out;exact⟨_,_,_,N0,S0,rfl,r1,Ol.out,r2.mono (by omega),r3⟩
  ·go_wp2_with fail;refine(RM cb A L c _ w3 lN.out.cur (by omega)).mono ?_;rintro e w7 ⟨ve,vi,vn,N7,S7,rfl,ho,⟨Fo,hn7⟩,rW,ra⟩;obtain⟨D0,d0,rfl,-,-,-⟩:=id ho.read.1;obtain⟨D1,d1,rfl,-,-,-⟩:=id ho.read.2.1;obtain⟨D2,d2,rfl,-,-,-⟩:=id ho.read.2.2;have Om:=lN.out.assign ra rW ho lN.out.box.lt jR oC xd.out;obtain⟨q0,q1,q2,f0,f1,f2⟩:=(lN.out.box.blk (ra.block pb lN.out.box.lt gX)).cells;have C0:=zh Om;have aaS:=zh (Fo.bd (by omega) (by omega));clear Om Fo hn7 ho rW ra;go_upto_region 29 with(fail);obtain⟨w8,jV⟩:∃z,z=acr w7 pb (.slice D0 N7.ends.length d0) (.slice D1 N7.ids.length d1) (.slice D2 N7.acn.length d2):=⟨_,rfl⟩
   have WU:((w7.setCell ⟨pb,0,none⟩ (.slice D0 N7.ends.length d0)).setCell ⟨pb,1,none⟩ (.slice D1 N7.ids.length d1)).setCell ⟨pb,2,none⟩ (.slice D2 N7.acn.length d2)=w8:=jV.symm;rw[WU];rw[<- jV]at C0;clear jV WU q0 q1 q2 f0 f1 f2;obtain⟨k0,k1,k2,-,-,-⟩:=C0.out.box.cells
   have dJ:=C0.out.far.acv iH.out (by have:=el.out;omega) (by omega)
   obtain⟨y0,y1,y2,f0,f1,f2⟩:=dJ.box.cells;have aI:=C0.out.own;have aD:=C0.out.far;rw[el.out]at aI aD;have bZ:=zh (cO jj.out aI C0.out.cur aD ig);clear aD dJ aI;go_wp2;refine bodyPost_ret (v:=.agg #[.slice D0 N7.ends.length d0,.slice D1 N7.ids.length d1,.slice D2 N7.acn.length d2]) (by simp[results,Tryz.results115,go_sem, *]) rfl ?_;obtain⟨r1,r2,r3⟩:=bZ.out;exact⟨_,_,_,N7,S7,rfl,r1,aaS.out,r2.mono (by omega),r3⟩
 have g1:(s==3)=false:=by simp[jJ]
 by_cases On:s=4\/s=5
 rotate_left
 ·have g2:(s==4)=false:=by simp;omega
  have g3:(s==5)=false:=by simp;omega
  have lN:=qW;obtain⟨k0,k1,k2,-,-,-⟩:=lN.out.box.cells
  have dJ:=lN.out.far.acv iH.out (by have:=el.out;omega) (by omega)
  obtain⟨y0,y1,y2,f0,f1,f2⟩:=dJ.box.cells;have aI:=lN.out.own;have aD:=lN.out.far;rw[el.out]at aI aD;have bZ:=zh (cO jj.out aI lN.out.cur aD ig);clear aD dJ aI;go_wp2;refine bodyPost_ret (v:=.agg #[.slice A1 N0.ends.length c1,.slice AI N0.ids.length cI,.slice AN N0.acn.length cN]) (by simp[results,Tryz.results115,go_sem, *]) rfl ?_;obtain⟨r1,r2,r3⟩:=bZ.out;exact⟨_,_,_,N0,S0,rfl,r1,Ol.out,r2.mono (by omega),r3⟩
 go_upto_if 20 with(fail)
 go_cut [20]from 21 to 22 (fun t wx=>t=.bool true/\wx=w2)
 case first=>
  by_cases h4:s=4
  ·have g2:(s==4)=true:=by simp[h4]
   go_wp2;go_meet
   case rel=>exact⟨by rw[g2],rfl⟩
  ·have g2:(s==4)=false:=by simp[h4]
   have g3:(s==5)=true:=by simp;omega
   go_wp2;go_meet
   case rel=>exact⟨by first | rfl | rw[g3],rfl⟩
 case rest=>
 obtain⟨eD,rg⟩:=hcut;subst eD;have CE:=rg.symm;clear rg;subst CE;clear On g1 jJ;obtain⟨k0,k1,k2,-,-,-⟩:=qW.out.box.cells;have zN:=zh qW.out.own.read;go_wp2_with fail;refine(lY _ _ _ N0 w2 zN.out).mono ?_;obtain⟨gk,hgk⟩:∃z,z=ak N0:=⟨_,rfl⟩
 rw[<- hgk];rintro e w3 ⟨rfl,bB⟩;have RN:ab w2 w3:=bB;have lN:=zh (qW.out.since RN jR oC Cj.out);have xd:Hid (B<=w3.heap.size):=Nat.le_trans Cj.out RN.below.size;have Hgk:=zh hgk;clear bB RN hgk k0 k1 k2;cases gk
 ·skip;obtain⟨k0,k1,k2,-,-,-⟩:=lN.out.box.cells
  have dJ:=lN.out.far.acv iH.out (by have:=el.out;omega) (by omega)
  obtain⟨y0,y1,y2,f0,f1,f2⟩:=dJ.box.cells;have aI:=lN.out.own;have aD:=lN.out.far;rw[el.out]at aI aD;have bZ:=zh (cO jj.out aI lN.out.cur aD ig);clear aD dJ aI;go_wp2;refine bodyPost_ret (v:=.agg #[.slice A1 N0.ends.length c1,.slice AI N0.ids.length cI,.slice AN N0.acn.length cN]) (by simp[results,Tryz.results115,go_sem, *]) rfl ?_;obtain⟨r1,r2,r3⟩:=bZ.out;exact⟨_,_,_,N0,S0,rfl,r1,Ol.out,r2.mono (by omega),r3⟩
 go_wp2_with fail;refine(k8 cb A L c _ 12 w3 lN.out.cur (by omega) (by omega)).mono ?_;rintro e w4 ⟨bb,rfl,nA,nU⟩;have sy:=zh (lN.out.seen nU nA jR oC xd.out);have RO:Hid (B<=w4.heap.size):=Nat.le_trans xd.out nU.size;clear nA nU;cases bb
 rotate_left
 ·skip;obtain⟨k0,k1,k2,-,-,-⟩:=sy.out.box.cells
  have dJ:=sy.out.far.acv iH.out (by have:=el.out;omega) (by omega)
  obtain⟨y0,y1,y2,f0,f1,f2⟩:=dJ.box.cells;have aI:=sy.out.own;have aD:=sy.out.far;rw[el.out]at aI aD;have bZ:=zh (cO jj.out aI sy.out.cur aD ig);clear aD dJ aI;go_wp2;refine bodyPost_ret (v:=.agg #[.slice A1 N0.ends.length c1,.slice AI N0.ids.length cI,.slice AN N0.acn.length cN]) (by simp[results,Tryz.results115,go_sem, *]) rfl ?_;obtain⟨r1,r2,r3⟩:=bZ.out;exact⟨_,_,_,N0,S0,rfl,r1,Ol.out,r2.mono (by omega),r3⟩
 have HT0:=zh (WS Hgk.out.symm);obtain⟨k0,k1,k2,-,-,-⟩:=sy.out.box.cells;have GV:=zh sy.out.own.read;go_wp2_with fail;refine(rT cb A L c _ 100 40 _ _ _ N0 w4 sy.out.cur (by omega) GV.out HT0.out.1 (by omega) (by omega)).mono ?_;rintro e w5 ⟨ve5,vi5,vn5,N5,S5,rfl,vU,⟨YU,hi5,hl5⟩,kC,rm⟩;obtain⟨D0,d0,rfl,-,-,-⟩:=id vU.read.1;obtain⟨D1,d1,rfl,-,-,-⟩:=id vU.read.2.1;obtain⟨D2,d2,rfl,-,-,-⟩:=id vU.read.2.2;have hm6:=sy.out.assign rm kC vU sy.out.box.lt jR oC RO.out;obtain⟨q0,q1,q2,f0,f1,f2⟩:=(sy.out.box.blk (rm.block pb sy.out.box.lt gX)).cells;have mn:=zh hm6
 have Oo:Hid (B<=(acr w5 pb (.slice D0 N5.ends.length d0) (.slice D1 N5.ids.length d1) (.slice D2 N5.acn.length d2)).heap.size):=by show _<=_;rw[fX];exact Nat.le_trans RO.out rm.size
 have YV:Hid (TN 100 40 N5):=⟨HT0.out.1.acM YU hi5 hl5,by rw[YU];exact HT0.out.2⟩
 have WV:Hid (ak (j5 N5)=true):=Oh Hgk.out.symm YU;clear hm6 vU YU hi5 hl5 kC rm k0 k1 k2;go_upto_region 11 with(fail);obtain⟨w6,zQ⟩:∃z,z=acr w5 pb (.slice D0 N5.ends.length d0) (.slice D1 N5.ids.length d1) (.slice D2 N5.acn.length d2):=⟨_,rfl⟩
 have WW:((w5.setCell ⟨pb,0,none⟩ (.slice D0 N5.ends.length d0)).setCell ⟨pb,1,none⟩ (.slice D1 N5.ids.length d1)).setCell ⟨pb,2,none⟩ (.slice D2 N5.acn.length d2)=w6:=zQ.symm;rw[WW];rw[<- zQ]at mn Oo;clear zQ WW q0 q1 q2 f0 f1 f2 qW Cj lN xd sy RO zN GV xQ qY;go_wp2_with fail;refine(k8 cb A L c _ 3 w6 mn.out.cur (by omega) (by omega)).mono ?_;rintro e w7 ⟨bb3,rfl,rW,ra⟩;have x8:=zh (mn.out.seen ra rW jR oC Oo.out);have Cn:Hid (B<=w7.heap.size):=Nat.le_trans Oo.out ra.size;clear rW ra mn Oo
 go_upto_if 35 with(fail)
 go_cut [7]from 35 to 54 (fun _ wx=>∃ve vi vn N S,Mb cb B pb A L c (P+300000000000100000) w0 wx ve vi vn N S/\TN 100 40 N/\ak (j5 N)=true/\B<=wx.heap.size)
 case first=>
  cases bb3
  ·go_wp2;go_meet
   case rel=>exact⟨_,_,_,N5,S5,x8.out.mono (by omega),YV.out,WV.out,Cn.out⟩
  ·have H9:N5.ends.length<=40:=YV.out.1.ends;obtain⟨Ld,S8,Om,Rs⟩:=x8.out.acC (v':=.slice none 0 0) (ids':=[]) (iN _ _) (aX.refl _ _) (fun j hj=>by simp at hj) jR oC Cn.out
   obtain⟨-,x1,-,-,f1,-⟩:=x8.out.box.cells;have C0:=zh Om
   have Wi:Hid (B<=(w7.setCell ⟨pb,1,none⟩ (.slice none 0 0)).heap.size):=by show _<=_;rw[iV];exact Cn.out
   clear Ld Om Rs;go_upto_region 13 with(fail);obtain⟨w8,jV⟩:∃z,z=w7.setCell ⟨pb,1,none⟩ (.slice none 0 0):=⟨_,rfl⟩
   rw[<- jV]at C0 Wi ⊢;clear jV x1 f1;obtain⟨x0,-,-,-,-,-⟩:=C0.out.box.cells;go_wp2_with fail;refine(Em cb A L c _ N5.ends.length w8 C0.out.cur (by omega) (by omega)).mono ?_;rintro e w9 ⟨og,xs,rfl,s_,WX,oB,Oe⟩;have rU:=zh (C0.out.seen Oe oB jR oC Wi.out);have oz:Hid (B<=w9.heap.size):=Nat.le_trans Wi.out Oe.size;have Mo:=zh s_;have VK:=zh WX;have rh:xs.length=N5.ends.length:=s_.len.symm ▸ rfl
   have Rx:Hid (og∉S8/\og≠pb/\cb<og/\og<w9.heap.size):=by
    have h1:=(World.ownsRow.lt s_ og (by simp[Value.ownBlock]));have h2:=C0.out.box.lt
    exact⟨fun hj=>by have:=(C0.out.own.range _ hj).2;omega,by omega,by omega,h1.2⟩
   clear s_ WX oB Oe x0;have uW:=zh rh;clear rh;go_upto_region 14 with(fail)
   go_loopw [43] (fun i wr=>∃(k:Nat) (vi:Value) (N:aj) (S:List Nat),k<=N5.ends.length/\i=.int .i64 k/\Mb cb B pb A L c (P+220000000000000000+2+1000+2+200) w0 wr (.slice D0 N5.ends.length d0) vi (.slice D2 N5.acn.length d2) N S/\N.ends=N5.ends/\N.acn=N5.acn/\N.ids.length=k/\Own wr w8.heap.size (.slice (some ⟨og,0,none⟩) N5.ends.length N5.ends.length) xs/\B<=wr.heap.size/\og∉S) (fun i _=>N5.ends.length-(intOf i).toNat)
   case atStart=>exact⟨0,_,{ N5 with ids:=[] },S8,Nat.zero_le _,rfl,rU.out,rfl,rfl,rfl,Mo.out,oz.out,Rx.out.1⟩
   case round=>
    obtain⟨k,vi,N,S,hk,rfl,hm,Wf,PJ,uI,vj,hz,jH⟩:=hrel;obtain⟨pV,pW,rfl,-,-,-⟩:=id hm.own.read.2.1;rw[uI]at hm;have Hm:=zh hm;have Hf:=zh (And.intro Wf (And.intro PJ uI));have EG:=zh vj;have Hz:=zh hz;have pc:=zh jH;clear hm Wf PJ uI vj hz jH
    by_cases az:k<N5.ends.length
    ·obtain⟨x,hx⟩:=aA xs k (by rw[uW.out];exact az)
     have n9:=VK.out x (List.mem_of_getElem? hx);have c0:=EG.out.cell hx;have m3:IntKind.i64.wrap ((k:Int)+1)=(k:Int)+1:=aH _ (by omega) (by omega)
     have Hl:Hid (N.ids.length+[x+1].length<=17592186044416):=by show _<=_;have:=Hf.out.2.2;simp;omega
     have m1:IntKind.i64.wrap (x+1)=x+1:=aH _ (by omega) (by omega);have jT:ab wr (wr.alloc (.cells #[.int .i64 (x+1)] 3)):=ad _ (aa _);have Wn:=zh (Hm.out.since jT jR oC Hz.out);have HoA:=zh (EG.out.since jT);have Wo:Hid (B<=(wr.alloc (.cells #[.int .i64 (x+1)] 3)).heap.size):=Nat.le_trans Hz.out jT.below.size;obtain⟨x0,x1,x2,f0,f1,f2⟩:=Hm.out.box.cells;have aI:=Wn.out.acx.1.1;have If:=zh aI;clear jT n9 hx aI
     go_wp2_with (at_builtin;refine fY (base:=B) rfl _ _ rfl rfl If.out rfl (nV _ _) Hl.out Wo.out ?_;intro v' w9 T gP dL PK;obtain⟨V,mV,cV,rfl⟩:=gm.one gP;obtain⟨kN,S9,FS,Ca,Lf,Cb⟩:=Wn.out.acU gP dL PK jR oC Wo.out HoA.out rfl ⟨pc.out,Rx.out.2.1⟩;clear x0 x1 x2 f0 f1 f2 gP dL PK;have aaT:=zh FS;have tg:=zh Ca;have aaU:=zh Lf;have Lg:=zh Cb;clear FS Ca Lf Cb;obtain⟨x0,x1,x2,f0,f1,f2⟩:=kN.cells;clear kN)
     go_roundw
     case rel=>exact⟨k+1,_,_,S9,by omega,by first | rfl | go_num,aaT.out,Hf.out.1,Hf.out.2.1,by have:=Hf.out.2.2;simp;omega,tg.out,Nat.le_trans Wo.out aaU.out,Lg.out⟩
     case measure=>simp[intOf];omega
    ·obtain⟨wo,rfl⟩:∃z,z=wr:=⟨_,rfl⟩
     go_wp2;go_meet
     case rel=>exact⟨_,_,_,N,S,Hm.out.mono (by omega),⟨YV.out.1.acM Hf.out.1 Hf.out.2.1 (by have:=Hf.out.2.2;omega),by rw[Hf.out.1];exact YV.out.2⟩,Il Hf.out.1 WV.out,Hz.out⟩
 case rest=>
  obtain⟨ve,vi,vn,N1,S1,hm,hT,IX,hz⟩:=hcut;obtain⟨B0,b0,rfl,-,-,-⟩:=id hm.own.read.1;obtain⟨B1,b1,rfl,-,-,-⟩:=id hm.own.read.2.1;obtain⟨B2,b2,rfl,-,-,-⟩:=id hm.own.read.2.2;obtain⟨w8,rfl⟩:∃z,z=wc:=⟨_,rfl⟩
  obtain⟨gI,hgI⟩:∃z,z=w8.heap.size:=⟨_,rfl⟩
  have Hm:=zh hm;have HT:=zh hT;have Rw:=zh IX;have Hz:=zh hz;have HgI:=zh hgI;have H9:N1.ends.length<=40:=hT.1.ends;have he1:0<N1.ends.length:=hT.2;clear hm hT IX hz hgI x8 Cn;obtain⟨x0,-,x2,-,-,f2⟩:=Hm.out.box.cells
  go_upto_region 19 with(at_make;refine jm _ rfl _ _ rfl _ _ N1.ends.length rfl rfl rfl rfl (by omega) ?_;intro w9 gP kN Lf;obtain⟨WY,S9,FS,-⟩:=Hm.out.acO (v':=.slice (some ⟨w8.heap.size,0,none⟩) N1.ends.length N1.ends.length) (in':=List.replicate N1.ends.length 0) (T:=[w8.heap.size]) ⟨gP.mono Hz.out,rfl⟩ (aX.acH kN) (fun j hj=>.inr (by simp at hj;omega)) jR oC Hz.out;have rU:=zh FS;have Dv:=zh (show ab w8 w9 from kN);have oz:=zh Lf;clear gP kN Lf FS x0 x2 f2;obtain⟨x0,x1,x2,f0,f1,f2⟩:=WY.cells;clear WY)
  obtain⟨zd,RP⟩:∃z,z=w9.setCell ⟨pb,2,none⟩ (.slice (some ⟨w8.heap.size,0,none⟩) N1.ends.length N1.ends.length):=⟨_,rfl⟩
  have Lz:Hid (B<=zd.heap.size/\w8.heap.size<zd.heap.size):=by show _/\_;rw[RP,iV];exact⟨Nat.le_trans Hz.out (Nat.le_of_lt oz.out),oz.out⟩
  rw[<- RP]at rU ⊢;clear RP x0 x1 x2 f0 f1 f2 Dv oz;rw[<- HgI.out]at rU Lz ⊢;obtain⟨k0,k1,k2,-,-,-⟩:=rU.out.box.cells;have WZ:=zh rU.out.own.read;go_wp2_with fail;refine(Ik _ _ _ _ zd WZ.out Rw.out).mono ?_;obtain⟨xs,xz⟩:∃z,z=bW { N1 with acn:=List.replicate N1.ends.length 0 }:=⟨_,rfl⟩
  have rh:xs.length=N1.ends.length:=by rw[xz];exact rP _
  rw[<- xz];rintro e w11 ⟨u11,rfl,RQ,W8⟩
  obtain⟨gp,cp,rfl⟩:∃gp cp,u11=.slice (some ⟨gp,0,none⟩) N1.ends.length cp:=by
   rcases RQ.cases with⟨-,e1⟩ | ⟨gd,cd,rfl,-,-⟩
   ·rw[e1]at rh;simp at rh;omega
   ·exact⟨gd,cd,by rw[rh]⟩
  have RR:ab zd w11:=W8;have W9:=zh (rU.out.since RR jR oC Lz.out.1);have aaV:Hid (B<=w11.heap.size):=Nat.le_trans Lz.out.1 RR.below.size;have RS:=zh RQ;have uW:=zh rh;have YS:=zh xz
  have PT:cb<zd.heap.size:=by have:=Lz.out.1;omega
  clear RQ W8 RR rh xz k0 k1 k2 rU WZ;obtain⟨k0,-,-,-,-,-⟩:=W9.out.box.cells;go_upto_region 21 with(fail);clear k0
  go_loopw [65] (fun i wr=>∃(k:Nat) (N:aj) (S:List Nat),k<=N1.ends.length/\i=.int .i64 k/\Mb cb B pb A L c (P+300000000000100000+4*k) w0 wr (.slice B0 N1.ends.length b0) (.slice B1 N1.ids.length b1) (.slice (some ⟨gI,0,none⟩) N1.ends.length N1.ends.length) N S/\TN 100 40 N/\N.acn.length=N1.ends.length/\Own wr zd.heap.size (.slice (some ⟨gp,0,none⟩) N1.ends.length cp) xs/\B<=wr.heap.size/\zd.heap.size<=wr.heap.size) (fun i _=>N1.ends.length-(intOf i).toNat)
  case atStart=>exact⟨0,_,_,Nat.zero_le _,rfl,W9.out,⟨⟨HT.out.1.ends,HT.out.1.row,HT.out.1.ids,by simp,HT.out.1.wf⟩,HT.out.2⟩,by simp,RS.out,aaV.out,Nat.le_of_lt (Nat.lt_of_le_of_lt (World.ownsRow.lt RS.out gp rfl).1 (World.ownsRow.lt RS.out gp rfl).2)⟩
  case round=>
   obtain⟨k,N,S,hk,rfl,hm,hT,uI,s_,hz,W_⟩:=hrel;have Hm:=zh hm;have NB:=zh hT;have sk:=zh uI;have Mo:=zh s_;have Gk:=zh hz;have Td:=zh W_;clear hm hT uI s_ hz W_
   by_cases az:k<N1.ends.length
   ·have m3:IntKind.i64.wrap ((k:Int)+1)=(k:Int)+1:=aH _ (by omega) (by omega)
    obtain⟨x,hx⟩:=aA xs k (by rw[uW.out];exact az)
    have c0:=Mo.out.cell hx
    by_cases SO:x=(k:Int)
    ·have e1:(x==(k:Int))=true:=by simp[SO]
     subst SO;have Hx:=zh hx;clear hx;go_wp2_with fail;refine(k8 cb A L c _ 8 wr Hm.out.cur (by omega) (by omega)).mono ?_;rintro e Xa ⟨bq,rfl,PU,LA⟩;have Xb:=zh (Hm.out.seen LA PU jR oC Gk.out);have LB:=zh (Own.seen Mo.out LA PT);have Io:Hid (B<=Xa.heap.size/\zd.heap.size<=Xa.heap.size):=⟨Nat.le_trans Gk.out LA.size,Nat.le_trans Td.out LA.size⟩;clear PU LA c0;cases bq
     rotate_left
     ·go_wp2;go_roundw
      case rel=>exact⟨k+1,N,S,by omega,by first | rfl | go_num,Xb.out.mono (by omega),NB.out,sk.out,LB.out,Io.out.1,Io.out.2⟩
      case measure=>simp[intOf];omega
     ·go_wp2_with fail
      refine(sn _ xs (k:Int) Xa LB.out.ints (by rw[uW.out];omega)).mono ?_
      obtain⟨PL,Xc⟩:∃z,z=eu xs (k:Int) xs.length:=⟨_,rfl⟩
      have Be:0<PL.length:=by rw[Xc];exact EP Hx.out
      have OX:∀y∈PL,0<=y/\y<N1.ends.length:=by rw[Xc,<- uW.out];exact Im
      have YW:PL.length<=40:=by rw[Xc];exact Nat.le_trans (qS _ _ _) (by rw[uW.out];exact H9)
      rw[<- Xc];rintro e Oq ⟨u13,rfl,RT,Xd⟩
      obtain⟨go,co,rfl⟩:∃go co,u13=.slice (some ⟨go,0,none⟩) PL.length co:=by
       rcases RT.cases with⟨-,e2⟩ | ⟨gd,cd,rfl,-,-⟩
       ·rw[e2]at Be;simp at Be
       ·exact⟨gd,cd,rfl⟩
      have xf:ab Xa Oq:=Xd;have RU:=zh (Xb.out.since xf jR oC Io.out.1);have Xe:=zh (Own.since LB.out xf);have RX:Hid (B<=Oq.heap.size/\zd.heap.size<=Oq.heap.size):=⟨Nat.le_trans Io.out.1 xf.below.size,Nat.le_trans Io.out.2 xf.below.size⟩;have aaW:=zh RT;have Hpi:=zh OX
      have Xf:cb<Xa.heap.size:=by have:=Io.out.1;omega
      have oy:=zh (show Oq.cell? ⟨pb,2,none⟩=some (.slice (some ⟨gI,0,none⟩) N1.ends.length N1.ends.length)from RU.out.box.cells.2.2.1);clear RT Xd xf Xc OX;go_upto_region 25 with(fail);refine ax (fun W=>W.cell? ⟨pb,2,none⟩=some (.slice (some ⟨gI,0,none⟩) N1.ends.length N1.ends.length)) 9 [false,false,false,false,false,false,true,true,true] (by kernel_rfl) (by kernel_rfl) (show(World.drew Oq).cell? ⟨pb,2,none⟩=some (.slice (some ⟨gI,0,none⟩) N1.ends.length N1.ends.length)from oy.out) ?_
      simp only[er,dS,zT]
      iterate 6 (apply bs rfl;(intro W hW;(have k0:=hW);go_simp;with_reducible rfl);simp only[zA])
      obtain⟨W,cS⟩:∃W,W=World.drew Oq:=⟨_,rfl⟩
      rw[<- cS];have hW:=(show(World.drew Oq).cell? ⟨pb,2,none⟩=some (.slice (some ⟨gI,0,none⟩) N1.ends.length N1.ends.length)from oy.out);rw[<- cS]at hW;have eY:=zh cS;clear cS;refine Or.inl ⟨rfl,?_⟩
      go_simp
      (with_reducible refine(db cb A L c (P+300000000000100000+4*k+2) PL.length W (by rw[eY.out];exact RU.out.cur.since (ah (aa _))) (by omega) (by omega)).mono ?_)
      rintro e W' ⟨a,rfl,ha,eQ,hC⟩;refine⟨_,rfl,au hW gX _ hC,?_⟩
      replace hW:=au hW gX _ hC
      have ox:ab Oq W:=(by rw[eY.out];exact ah (aa _))
      have k7:=((dK.refl cb Oq).after ox).trans hC;have LC:=zh (RU.out.seen k7 eQ jR oC RX.out.1);have PV:=zh (Own.seen Xe.out k7 PT);have Xg:Hid (B<=W'.heap.size/\zd.heap.size<=W'.heap.size):=⟨Nat.le_trans RX.out.1 k7.size,Nat.le_trans RX.out.2 k7.size⟩;have NQ:a<PL.length:=(by omega);obtain⟨yi,hyi⟩:=aA PL a NQ;have Yk:=Hpi.out yi (List.mem_of_getElem? hyi);obtain⟨y,rfl⟩:=Int.eq_ofNat_of_zero_le Yk.1;have Ut:y<N1.ends.length:=(by omega);have c1:=(Own.seen aaW.out k7 Xf).cell hyi
      obtain⟨zz,c2⟩:=LC.out.own.acL (j:=y) (by rw[sk.out];exact Ut)
      obtain⟨f0,Xh⟩:=LC.out.acz (k:=y) 1 (by rw[sk.out];exact Ut) jR
      have aaX:=zh Xh
      have HgS:=zh (LC.out.own.acz (k:=y) 1 (by rw[sk.out];exact Ut)).1
      clear hC eQ ox ha k7 Xh hyi Yk
      (try simp only[zA])
      refine de (v:=?_) rfl ?_ hW ?_;rotate_left;(go_simp;with_reducible rfl)
      simp only[zA]
      refine de (v:=?_) rfl ?_ hW ?_;rotate_left;(go_simp;with_reducible rfl)
      simp only[zA];simp only[bh];go_wp2;go_roundw
      case rel=>exact⟨k+1,_,S,by omega,by first | rfl | go_num,aaX.out.mono (by omega),⟨NB.out.1.acz y 1,NB.out.2⟩,by show(N.acn.set y 1).length=_;rw[List.length_set];exact sk.out,aG PV.out (fun j hj=>Below.heap_setCell _ _ _ _ (by
       have h1:=(World.ownsRow.lt PV.out j (by simpa using hj)).1;have h2:=HgI.out;have h3:=Lz.out.2;show j≠gI
       omega)),by rw[iV];exact Xg.out.1,by rw[iV];exact Xg.out.2⟩
      case measure=>simp[intOf];omega
    ·have e1:(x==(k:Int))=false:=by simp[SO]
     clear SO hx;go_wp2;go_roundw
     case rel=>exact⟨k+1,N,S,by omega,by first | rfl | go_num,Hm.out.mono (by omega),NB.out,sk.out,Mo.out,Gk.out,Td.out⟩
     case measure=>simp[intOf];omega
   ·obtain⟨wo,rfl⟩:∃z,z=wr:=⟨_,rfl⟩
    go_wp2_with fail;refine(k8 cb A L c _ 4 wo Hm.out.cur (by omega) (by omega)).mono ?_;rintro e w7 ⟨bq,rfl,rW,ra⟩;have x8:=zh (Hm.out.seen ra rW jR oC Gk.out);have Cn:Hid (B<=w7.heap.size):=Nat.le_trans Gk.out ra.size;clear rW ra;cases bq
    ·skip;obtain⟨k0,k1,k2,-,-,-⟩:=x8.out.box.cells
     have dJ:=x8.out.far.acv iH.out (by have:=el.out;omega) (by omega)
     obtain⟨y0,y1,y2,f0,f1,f2⟩:=dJ.box.cells;have aI:=x8.out.own;have aD:=x8.out.far;rw[el.out]at aI aD;have bZ:=zh (cO jj.out aI x8.out.cur aD ig);clear aD dJ aI;go_wp2;refine bodyPost_ret (v:=.agg #[.slice B0 N1.ends.length b0,.slice B1 N1.ids.length b1,.slice (some ⟨gI,0,none⟩) N1.ends.length N1.ends.length]) (by simp[results,Tryz.results115,go_sem, *]) rfl ?_;obtain⟨r1,r2,r3⟩:=bZ.out;exact⟨_,_,_,N,S,rfl,r1,(NB.out.1.bd (by omega) (by omega)),r2.mono (by omega),r3⟩
    ·obtain⟨P7,Ti⟩:∃z,z=P+300000000000100000+4*k+2:=⟨_,rfl⟩
     have YX:Hid (P7<=4000000000000000000):=by show _<=_;omega
     have aaY:=zh Ti
     have zk:Hid (cG w7 cb A L c P7):=by show cG _ _ _ _ _ _;rw[Ti];exact x8.out.cur
     have Ot:Hid (aS w7 w.heap.size (.slice none 0 0) (.slice none 0 0) (.slice none 0 0)):=x8.out.far.acv iH.out (by have:=el.out;omega) (by omega)
     have aaZ:Hid (w7.heap.size<=w7.heap.size):=Nat.le_refl _
     have D_:Hid (cb<w7.heap.size/\w.heap.size<w7.heap.size):=⟨by have:=Cn.out;omega,by have:=Cn.out;have:=el.out;omega⟩
     have Hm0:Hid (0<N1.ends.length):=he1
     have HY:Hid (∀W,C2 cb w.heap.size w7 W->W.cell? ⟨pb,2,none⟩=some (.slice (some ⟨gI,0,none⟩) N1.ends.length N1.ends.length)):=fun W hW=>by
      have Of:pb≠w.heap.size:=by have:=el.out;omega
      exact hW.cell x8.out.box.cells.2.2.1 gX Of
     clear Ti;go_upto_region 28 with(fail);refine jq 10 [6,8] (RW [dk (.pointer (some ⟨pb,2,none⟩)),dk (.slice (some ⟨gI,0,none⟩) N1.ends.length N1.ends.length),dk (.pointer (some ⟨cb,0,none⟩)),dk (.pointer (some ⟨pb,2,none⟩)),dk (.slice (some ⟨gI,0,none⟩) N1.ends.length N1.ends.length),dk (.int .i64 (N1.ends.length:Int)),jF ((N1.ends.length:Int)),dk (.pointer (some ⟨cb,0,none⟩)),jF (3),fun u _=>∃z:Nat,u=.pointer (some ⟨gI,z,none⟩)/\z<N1.ends.length]) (sW cb w.heap.size A L c (P7) (2) 2 w7 (fun W=>True)) (C2 cb w.heap.size) (RW.rel ?_) (by kernel_rfl) (by kernel_rfl) (by kernel_rfl) (by decide) (by kernel_rfl) (sW.start zk.out Ot.out (ah (aa _))) ?_ ?_
     ·intro r hr;simp only[List.mem_cons,List.not_mem_nil,or_false]at hr;rcases hr with rfl | rfl | rfl | rfl | rfl | rfl | rfl | rfl | rfl | rfl
      ·exact fun _ _ _ _ h=>h
      ·exact fun _ _ _ _ h=>h
      ·exact fun _ _ _ _ h=>h
      ·exact fun _ _ _ _ h=>h
      ·exact fun _ _ _ _ h=>h
      ·exact fun _ _ _ _ h=>h
      ·exact fun _ _ _ _ h=>h
      ·exact fun _ _ _ _ h=>h
      ·exact fun _ _ _ _ h=>h
      ·exact fun _ _ _ _ h=>h
     ·intro i o hi ho V W q hq hr hd
      match i,ho with
      | 0,ho=>
       cases ho;clear hd hi hr;refine⟨rfl,?_⟩;simp only[ap,zR10,zG,zA]
       refine aq (u:=.pointer (some ⟨pb,2,none⟩)) (W':=W) (by go_simp) ⟨hq,C2.refl _ _ _,rfl⟩
      | 1,ho=>
       cases ho;have e0:(dk (.pointer (some ⟨pb,2,none⟩))) (V 0) W:=hd 0 (by decide +kernel);clear hd hi hr;refine⟨rfl,?_⟩;simp only[ap,zR10,zG,zA]
       have e0:V 0=_:=e0;rw[e0];clear e0;have k2:=HY.out W hq.rel;refine aq (u:=.slice (some ⟨gI,0,none⟩) N1.ends.length N1.ends.length) (W':=W) (by go_simp) ⟨hq,C2.refl _ _ _,rfl⟩
      | 2,ho=>
       cases ho;clear hd hi hr;refine⟨rfl,?_⟩;simp only[ap,zR10,zG,zA]
       refine aq (u:=.pointer (some ⟨cb,0,none⟩)) (W':=W) (by go_simp) ⟨hq,C2.refl _ _ _,rfl⟩
      | 3,ho=>
       cases ho;clear hd hi hr;refine⟨rfl,?_⟩;simp only[ap,zR10,zG,zA]
       refine aq (u:=.pointer (some ⟨pb,2,none⟩)) (W':=W) (by go_simp) ⟨hq,C2.refl _ _ _,rfl⟩
      | 4,ho=>
       cases ho;have e3:(dk (.pointer (some ⟨pb,2,none⟩))) (V 3) W:=hd 3 (by decide +kernel);clear hd hi hr;refine⟨rfl,?_⟩;simp only[ap,zR10,zG,zA]
       have e3:V 3=_:=e3;rw[e3];clear e3;have k2:=HY.out W hq.rel;refine aq (u:=.slice (some ⟨gI,0,none⟩) N1.ends.length N1.ends.length) (W':=W) (by go_simp) ⟨hq,C2.refl _ _ _,rfl⟩
      | 5,ho=>
       cases ho;have e4:(dk (.slice (some ⟨gI,0,none⟩) N1.ends.length N1.ends.length)) (V 4) W:=hd 4 (by decide +kernel);clear hd hi hr;refine⟨rfl,?_⟩;simp only[ap,zR10,zG,zA]
       have e4:V 4=_:=e4;rw[e4];clear e4;refine aq (u:=.int .i64 (N1.ends.length:Int)) (W':=W) (by go_simp) ⟨hq,C2.refl _ _ _,rfl⟩
      | 6,ho=>
       cases ho;have e2:(dk (.pointer (some ⟨cb,0,none⟩))) (V 2) W:=hd 2 (by decide +kernel);have e5:(dk (.int .i64 (N1.ends.length:Int))) (V 5) W:=hd 5 (by decide +kernel);have oo:Hid (0=q):=hr 0 rfl;clear hd hi hr;refine⟨rfl,?_⟩;simp only[ap,zR10,zG,zA]
       have e2:V 2=_:=e2;rw[e2];clear e2;have e5:V 5=_:=e5;rw[e5];clear e5;refine ee (f:=62) (args:=#[.pointer (some ⟨cb,0,none⟩),.int .i64 (N1.ends.length:Int)]) (W':=W) (by go_simp) ?_
       refine(db cb A L c (P7+2*q) ((N1.ends.length:Int)) W (hq.cur (by have:=oo.out;omega)) (by have:=YX.out;have:=oo.out;omega) (by omega)).mono ?_
       rintro e W' ⟨z,rfl,hz,eQ,hC⟩
       exact⟨_,rfl,hq.call (by have:=oo.out;omega) hC eQ (by omega) (by have:=el.out;omega),C2.of hC,z,rfl,hz⟩
      | 7,ho=>
       cases ho;clear hd hi hr;refine⟨rfl,?_⟩;simp only[ap,zR10,zG,zA]
       refine aq (u:=.pointer (some ⟨cb,0,none⟩)) (W':=W) (by go_simp) ⟨hq,C2.refl _ _ _,rfl⟩
      | 8,ho=>
       cases ho;have e7:(dk (.pointer (some ⟨cb,0,none⟩))) (V 7) W:=hd 7 (by decide +kernel);have oo:Hid (1=q):=hr 1 rfl;clear hd hi hr;refine⟨rfl,?_⟩;simp only[ap,zR10,zG,zA]
       have e7:V 7=_:=e7;rw[e7];clear e7;refine ee (f:=62) (args:=#[.pointer (some ⟨cb,0,none⟩),.int .i64 3]) (W':=W) (by go_simp) ?_
       refine(db cb A L c (P7+2*q) (3) W (hq.cur (by have:=oo.out;omega)) (by have:=YX.out;have:=oo.out;omega) (by omega)).mono ?_
       rintro e W' ⟨z,rfl,hz,eQ,hC⟩
       exact⟨_,rfl,hq.call (by have:=oo.out;omega) hC eQ (by omega) (by have:=el.out;omega),C2.of hC,z,rfl,hz⟩
      | 9,ho=>
       cases ho;have e1:(dk (.slice (some ⟨gI,0,none⟩) N1.ends.length N1.ends.length)) (V 1) W:=hd 1 (by decide +kernel);have e6:(jF ((N1.ends.length:Int))) (V 6) W:=hd 6 (by decide +kernel);clear hd hi hr;refine⟨rfl,?_⟩;simp only[ap,zR10,zG,zA]
       have e1:V 1=_:=e1;rw[e1];clear e1;obtain⟨z,hz,hzb⟩:=e6;rw[hz];clear hz
       have gx:z<N1.ends.length:=by have:=Hm0.out;omega
       refine aq (u:=.pointer (some ⟨gI,z,none⟩)) (W':=W) (by go_simp) ⟨hq,C2.refl _ _ _,z,rfl,gx⟩
      | i+10,ho=>omega
     intro V W q hq BK bH hV;have IG:2<=q:=bH 8 1 (by omega) rfl;have e0:(dk (.pointer (some ⟨pb,2,none⟩))) (V 0) W:=hV 0 (by decide);have e1:(dk (.slice (some ⟨gI,0,none⟩) N1.ends.length N1.ends.length)) (V 1) W:=hV 1 (by decide);have e2:(dk (.pointer (some ⟨cb,0,none⟩))) (V 2) W:=hV 2 (by decide);have e3:(dk (.pointer (some ⟨pb,2,none⟩))) (V 3) W:=hV 3 (by decide);have e4:(dk (.slice (some ⟨gI,0,none⟩) N1.ends.length N1.ends.length)) (V 4) W:=hV 4 (by decide);have e5:(dk (.int .i64 (N1.ends.length:Int))) (V 5) W:=hV 5 (by decide);have e6:(jF ((N1.ends.length:Int))) (V 6) W:=hV 6 (by decide);have e7:(dk (.pointer (some ⟨cb,0,none⟩))) (V 7) W:=hV 7 (by decide);have e8:(jF (3)) (V 8) W:=hV 8 (by decide);have e9:(fun u _=>∃z:Nat,u=.pointer (some ⟨gI,z,none⟩)/\z<N1.ends.length) (V 9) W:=hV 9 (by decide)
     clear hV bH;have e0:V 0=_:=e0;have e1:V 1=_:=e1;have e2:V 2=_:=e2;have e3:V 3=_:=e3;have e4:V 4=_:=e4;have e5:V 5=_:=e5;obtain⟨z6,e6,b6⟩:=e6;have e7:V 7=_:=e7;obtain⟨z8,e8,b8⟩:=e8;obtain⟨z9,e9,b9⟩:=e9;simp only[ap,zR10,zG]
     (try simp only[zA])
     simp only[List.drop_succ_cons,List.drop_zero];rw[e0,e1,e2,e3,e4,e5,e6,e7,e8,e9];clear e0 e1 e2 e3 e4 e5 e6 e7 e8 e9;have hrel:=hq.rel;have Xi:=hq.cur (by omega)
     have Md:q=2:=by simp at BK;omega
     have Om:Mb cb B pb A L c (P7+4) w0 W (.slice B0 N1.ends.length b0) (.slice B1 N1.ids.length b1) (.slice (some ⟨gI,0,none⟩) N1.ends.length N1.ends.length) N S:=by
      have IE:=el.out;have hzB:=Cn.out;have Of:pb≠w.heap.size:=by omega
      exact⟨hrel.net jR (by omega) x8.out.own,x8.out.box.blk (hrel.block pb x8.out.box.lt gX Of),x8.out.nb,Xi.mono (by omega),hrel.cb2 x8.out.far (by omega) hzB (hq.box (by omega)) Ot.out⟩
     obtain⟨zz,c2⟩:=Om.own.acL (j:=z9) (by rw[sk.out];exact b9)
     obtain⟨f0,FS⟩:=Om.acz (k:=z9) z8 (by rw[sk.out];exact b9) jR
     have rU:=zh FS
     have hWn:w.heap.size+1<=W.heap.size:=by have:=hrel.size;have:=D_.out.2;omega
     clear hq BK IG hrel Xi Om FS b6 b8;go_upto_region 29 with(fail);obtain⟨w9,wR⟩:∃z,z=W.setCell ⟨gI,z9,none⟩ (.int .i64 z8):=⟨_,rfl⟩
     rw[<- wR]at rU ⊢;clear wR c2 f0;obtain⟨k0,k1,k2,-,-,-⟩:=rU.out.box.cells
     have dJ:=rU.out.far.acv iH.out (by have:=el.out;omega) (by omega)
     obtain⟨y0,y1,y2,f0,f1,f2⟩:=dJ.box.cells;have aI:=rU.out.own;have aD:=rU.out.far;rw[el.out]at aI aD;have bZ:=zh (cO jj.out aI rU.out.cur aD ig);clear aD dJ aI;go_wp2;refine bodyPost_ret (v:=.agg #[.slice B0 N1.ends.length b0,.slice B1 N1.ids.length b1,.slice (some ⟨gI,0,none⟩) N1.ends.length N1.ends.length]) (by simp[results,Tryz.results115,go_sem, *]) rfl ?_;obtain⟨r1,r2,r3⟩:=bZ.out
     exact⟨_,_,_,_,S,rfl,r1,((NB.out.1.acz z9 z8).bd (by omega) (by omega)),r2.mono (by have:=aaY.out;omega),r3⟩
theorem Ou {n:aj} {r v k:Nat} {es:List (Int×Int)} (bM:n.ends[v]?=some es) {e:Int×Int} (he:es[k]?=some e) (hp:0<ay n r v/\ay n r e.1.toNat=ay n r v-1) (jH:∀j f,j<k->es[j]?=some f->¬(0<ay n r v/\ay n r f.1.toNat=ay n r v-1)):gV n r v=(k:Int):=by
 unfold gV;rw[ao bM]
 have:es.findIdx? (fun e=>decide (0<ay n r v)&&decide (ay n r e.1.toNat=ay n r v-1))=some k:=by
  rw[List.findIdx?_eq_some_iff_getElem];obtain⟨hk,yD⟩:=List.getElem?_eq_some_iff.1 he
  refine⟨hk,by rw[yD,decide_eq_true hp.1,decide_eq_true hp.2];rfl,fun j hj=>?_⟩
  have:=jH j es[j] hj (List.getElem?_eq_getElem (by omega))
  intro hc;rw[Bool.and_eq_true,decide_eq_true_eq,decide_eq_true_eq]at hc;exact this hc
 rw[this]
theorem LD {n:aj} {r v:Nat} {es:List (Int×Int)} (bM:n.ends[v]?=some es) (jH:∀j f,j<es.length->es[j]?=some f->¬(0<ay n r v/\ay n r f.1.toNat=ay n r v-1)):gV n r v = -1:=by
 unfold gV;rw[ao bM]
 have:es.findIdx? (fun e=>decide (0<ay n r v)&&decide (ay n r e.1.toNat=ay n r v-1))=none:=by
  rw[List.findIdx?_eq_none_iff];intro e he;obtain⟨j,hj⟩:=List.getElem?_of_mem he
  have:=jH j e (al hj) hj
  cases hc:(decide (0<ay n r v)&&decide (ay n r e.1.toNat=ay n r v-1))
  ·rfl
  ·rw[Bool.and_eq_true,decide_eq_true_eq,decide_eq_true_eq]at hc;exact absurd hc this
 rw[this]
theorem tz {n:aj} (hn:ak n=true) {r v:Nat} (hr:r<n.ends.length) (hv:v<n.ends.length) : -1<=ay n r v/\ay n r v<n.ends.length:=by
 have:=qx hn hr hv
 unfold ay;omega
theorem nZ {n:aj} (hn:ak n=true) {r:Nat} (hr:r<n.ends.length) {w:World} {A:Option Addr} {c:Nat} (h:aO w (.slice A n.ends.length c) (bC n r)):∃b off,A=some ⟨b,off,none⟩/\∀x,x<n.ends.length->∀W,ab w W->W.cell? ⟨b,off+x,none⟩=some (.int .i64 (ay n r x)):=by
 obtain⟨A',c',e,_,_,hA⟩:=h;have hl:(bC n r).length=n.ends.length:=j2 hn _ _ _ (BI.start hr);rw[hl]at e;cases e
 obtain⟨b,off,e,-⟩:=hA 0 ((bC n r).getD 0 0) (by rw[zDd,List.getElem?_eq_getElem (by have:=aB hn;omega)];rfl)
 refine⟨b,off,e,fun x hx W hW=>?_⟩
 obtain⟨b',n7,e',hc⟩:=hA x ((bC n r).getD x 0) (by rw[zDd,List.getElem?_eq_getElem (by omega)];rfl)
 rw[e]at e';cases e';exact ae hc W hW
theorem zo (ve vi vn:Value) (n:aj) (r v cF:Nat) (AF:Option Addr) (w:World) (h:aC w ve vi vn n) (hn:ak n=true) (hr:r<n.ends.length) (hv:v<n.ends.length) (hF:aO w (.slice AF n.ends.length cF) (bC n r)):
  Calls Tryz.prog 211 #[.agg #[ve,vi,vn],.slice AF n.ends.length cF,.int .i64 v] w fun e w'=>e=.returned (.int .i64 (gV n r v))/\Below w.heap.size w w':=by
 obtain⟨bF,oF,rfl,gy⟩:=nZ hn hr hF;have HF:=zh gy;have Hn:=zh hn;have pj:=(aB hn).2;obtain⟨es,bM⟩:=aA n.ends v hv;obtain⟨he6,d_⟩:=bV hn bM;have jZ:=zh bM;have pO:=zh d_;have RY:=tz hn hr hv;have Hr:=zh hr;clear hn hF gy bM d_
 obtain⟨w0,A,c,A2,c2,A3,c3,rfl,rfl,rfl,fg,hm,f8,fP,HA,bS,aT,H,dP,d9,dV⟩:=zB h;clear h
 go_enter Tryz.func211,Tryz.ntmps211
 go_upto_region 1 with(fail);rw[<- bS.out];go_wp2_with fail;refine(iu _ _ _ n v es w0 H.out jZ.out (by omega)).mono ?_;rintro e w1 ⟨u,rfl,ho,aN⟩;have dr:ab w0 w1:=aN;obtain⟨AU,cU,rfl,-,-,-⟩:=id ho.ints;have PB:(es.map (·.1)).length=es.length:=List.length_map _;rw[PB]at ho;have Ho:=zh ho;have dM:=zh dr;have Hs:=zh (ab.after aT.out dr);obtain⟨dv,hdv⟩:∃z,z=ay n r v:=⟨_,rfl⟩
 rw[<- hdv]at RY;have m0:IntKind.i64.wrap (dv-1)=dv-1:=aH _ (by omega) (by omega);have Hdv:=zh hdv;clear ho dr aN PB hdv;rw[List.length_map];go_wp2
 go_loopw [13] (fun i wr=>∃k:Nat,k<=es.length/\i=.int .i64 k/\ab w1 wr/\∀j f,j<k->es[j]?=some f->¬(0<ay n r v/\ay n r f.1.toNat=ay n r v-1)) (fun i _=>es.length-(intOf i).toNat)
 case atStart=>exact⟨0,Nat.zero_le _,rfl,aa _,fun j f hj=>by omega⟩
 case round=>
  obtain⟨k,hk,rfl,fM,jH⟩:=hrel;have cW:=zh fM;have pc:=zh jH;clear fM jH
  by_cases az:k<es.length
  ·obtain⟨e,he⟩:=aA es k az;have NX:=pO.out e (List.mem_of_getElem? he);obtain⟨x,hx⟩:=Int.eq_ofNat_of_zero_le NX.1;have rh:x<n.ends.length:=by omega
   have cZ:=Own.since Ho.out cW.out;rcases cZ.cases with⟨-,h9⟩ | ⟨g,cg,YY,-,-⟩
   ·exfalso
    have:=congrArg List.length h9
    simp at this
    subst this;simp at az
   ·rw[List.length_map]at YY;cases YY
    have c0:=cZ.cell (k:=k) (x:=(x:Int)) (by rw[List.getElem?_map,he];show some e.1=_;rw[hx])
    have d1:=HF.out v hv wr (ab.trans Hs.out cW.out);have d2:=HF.out x rh;rw[<- Hdv.out]at d1;obtain⟨dw,hdw⟩:∃z,z=ay n r x:=⟨_,rfl⟩
    rw[<- hdw]at d2;have Hdw:=zh hdw;have He:=zh he;have Hx:=zh hx;have m1:IntKind.i64.wrap ((k:Int)+1)=(k:Int)+1:=aH _ (by omega) (by omega);have B_:=ae d1;have CY:∀W,ab wr W->W.cell? ⟨bF,oF+x,none⟩=some (.int .i64 dw):=fun W hW=>d2 W (ab.trans (ab.trans Hs.out cW.out) hW)
    obtain⟨wo,rfl⟩:∃z,z=wr:=⟨_,rfl⟩
    clear cZ hdw he hx NX d1 d2;go_upto_region 4 with(fail);clear c0;refine av 17 (ab wo) (by kernel_rfl) (by kernel_rfl) (by simp) (ah (aa _)) ?_;simp only[zT]
    iterate 3 (refine b_ rfl ?_;simp only[zA])
    apply p_ rfl;(intro W hW;have k1:=B_ W hW;go_simp;with_reducible rfl);simp only[zA]
    iterate 2 (refine b_ rfl ?_;simp only[zA])
    iterate 3 (refine iL rfl rfl ?_;simp only[zA])
    apply lz rfl rfl;(intro hb;intro W hW;have k2:=CY W hW;go_simp;with_reducible rfl);simp only[zA]
    iterate 3 (refine iL rfl rfl ?_;simp only[zA])
    apply lz rfl rfl;(intro hb;intro W hW;have k1:=B_ W hW;go_simp;with_reducible rfl);simp only[zA]
    iterate 2 (refine iL rfl rfl ?_;simp only[zA])
    (first | refine bK rfl rfl ?_ | (refine b_ rfl ?_));simp only[zA]
    intro W hW;have gZ:=zh (ab.trans cW.out hW);clear hW B_ CY;cases hg:(decide (0<dv)&&(dw==dv-1))
    ·rw[Bool.and_eq_false_iff,decide_eq_false_iff_not,beq_eq_false_iff_ne]at hg;have Hg:=zh hg;clear hg;go_wp2;go_roundw
     case rel=>
      refine⟨k+1,by omega,by first | rfl | go_num,gZ.out,fun j f hj hf=>?_⟩
      by_cases e0:j<k
      ·exact pc.out j f e0 hf
      ·obtain rfl:j=k:=by omega
       rw[He.out]at hf;cases hf;rw[Hx.out,Int.toNat_natCast,<- Hdv.out,<- Hdw.out];rintro⟨q1,q2⟩;rcases Hg.out with h9 | h9
       ·exact h9 q1
       ·exact h9 q2
     case measure=>simp[intOf];omega
    ·rw[Bool.and_eq_true,decide_eq_true_eq,beq_iff_eq]at hg
     have hR:gV n r v=(k:Int):=Ou jZ.out He.out (by rw[Hx.out,Int.toNat_natCast,<- Hdv.out,<- Hdw.out];exact hg) pc.out
     have HR:=zh hR;clear hg hR;go_wp2;go_ret
     exact⟨by rw[HR.out];rfl,ab.trans Hs.out gZ.out⟩
  ·obtain rfl:k=es.length:=by omega
   have hR:gV n r v = -1:=LD jZ.out pc.out;have HR:=zh hR;clear hR;go_wp2;go_ret
   exact⟨by rw[HR.out];rfl,ab.trans Hs.out cW.out⟩
theorem Ip (n:aj) (r k:Nat):(List.range (k+1)).map (gV n r)=(List.range k).map (gV n r)++[gV n r k]:=by rw[List.range_succ,List.map_append];rfl
theorem jG {n:aj} (hn:ak n=true) {r:Nat} (hr:r<n.ends.length):(bC n r).length=n.ends.length:=j2 hn _ _ _ (BI.start hr)
theorem EQ (ve vi vn:Value) (n:aj) (r:Nat) (w:World) (h:aC w ve vi vn n) (hn:ak n=true) (hr:r<n.ends.length):
  Calls Tryz.prog 168 #[.agg #[ve,vi,vn],.int .i64 r] w fun e w'=>∃u,e=.returned u/\Own w' w.heap.size u (qL n r)/\Below w.heap.size w w':=by
 have pj:=(aB hn).2;have Hn:=zh hn
 obtain⟨w0,A,c,A2,c2,A3,c3,rfl,rfl,rfl,fg,hm,f8,fP,HA,bS,aT,H,dP,d9,dV⟩:=zB h;clear h
 clear hn;unfold qL
 go_enter Tryz.func168,Tryz.ntmps168
 go_upto_region 1 with(fail);rw[<- bS.out];go_wp2_with fail;refine(iv _ _ _ n r w0 H.out Hn.out hr).mono ?_;rintro e w1 ⟨uF,rfl,zp,aN⟩;have dr:ab w0 w1:=aN;obtain⟨AF,cF,rfl,-,-,-⟩:=id zp.ints;rw[jG Hn.out hr]at zp;have HoF:=zh zp.ints;have dM:=zh dr;clear zp aN;rw[jG Hn.out hr];go_wp2
 go_loopw [6,14] (fun u i wr=>∃k:Nat,k<=n.ends.length/\i=.int .i64 k/\Own wr w1.heap.size u ((List.range k).map (gV n r))/\ab w1 wr) (fun _ i _=>n.ends.length-(intOf i).toNat)
 case atStart=>exact⟨0,Nat.zero_le _,rfl,by simpa using bU _ w1.heap.size,aa _⟩
 case round=>
  obtain⟨k,hk,rfl,ho,bG⟩:=hrel;have Ho:=zh ho;have Hs:=zh bG;clear ho;have pJ:=ab.trans dM.out Hs.out;have pK:=zh pJ;clear dr
  by_cases az:k<n.ends.length
  ·have m3:IntKind.i64.wrap ((k:Int)+1)=(k:Int)+1:=aH _ (by omega) (by omega)
   have dz:Hid (((List.range k).map (gV n r)).length+1<=17592186044416):=by show _<=_;simp;omega
   have kG:=zh (Ip n r k);go_wp2_with fail;refine(zo _ _ _ n r k cF AF wr (H.out.keep pK.out.below) Hn.out hr az (HoF.out.keep Hs.out.below)).mono ?_;rintro e w2 ⟨rfl,bx⟩;have cW:=zh (ab.after pK.out bx);have aa0:=zh (ab.after Hs.out bx);have fG:=zh (Own.since Ho.out bx);obtain⟨y,hy⟩:∃y,y=gV n r k:=⟨_,rfl⟩
   rw[<- hy]at kG ⊢;have Hy:=zh hy;clear bx bG hy pJ
   go_wp2_with (at_builtin;refine c_ rfl _ _ rfl rfl (fG.out.since (ad _ (aa _))) w2.heap.size y rfl (by simp[go_sem]) dz.out (ad _ aa0.out) ?_;intro g cc w3 ex jJ)
   have jy:=zh ex;have gZ:Hid (ab w1 w3):=jJ;clear ex jJ;go_wp2;go_roundw
   case rel=>exact⟨k+1,by omega,by first | rfl | go_num,by rw[kG.out];have:=jy.out;simpa using this,gZ.out⟩
   case measure=>simp[intOf];omega
  ·obtain rfl:k=n.ends.length:=by omega
   clear hk az;go_wp2;go_ret;exact⟨_,rfl,Ho.out.mono (Nat.le_trans aT.out.size dM.out.below.size),ab.trans aT.out pK.out⟩
theorem vA {n:aj} {r x:Nat} (hx:x<n.ends.length):(qL n r)[x]?=some (gV n r x):=by
 unfold qL
 rw[List.getElem?_map,List.getElem?_range hx];rfl
theorem vB {p:Nat->Bool} (k:Nat):(List.range (k+1)).countP p=(List.range k).countP p+(if p k=true then 1 else 0):=by
 rw[List.range_succ,List.countP_append,List.countP_singleton]
theorem sB (ve vi vn:Value) (n:aj) (r v cP:Nat) (AP:Option Addr) (w:World) (h:aC w ve vi vn n) (hn:ak n=true) (hr:r<n.ends.length) (hv:v<n.ends.length) (hP:aO w (.slice AP n.ends.length cP) (qL n r)):
  Calls Tryz.prog 169 #[.agg #[ve,vi,vn],.slice AP n.ends.length cP,.int .i64 v] w fun e w'=>e=.returned (.int .i64 ((oq n.ends.length (ou n r) (lj n r) v:Nat):Int))/\Below w.heap.size w w':=by
 have pj:=aB hn;have hT:=trR hn hr;have HT:=zh hT;have Hn:=zh hn;have HP:=zh hP
 obtain⟨bP,oP,rfl,gy⟩:∃b off,AP=some ⟨b,off,none⟩/\∀x,x<n.ends.length->∀W,ab w W->W.cell? ⟨b,off+x,none⟩=some (.int .i64 (gV n r x)):=by
  obtain⟨A',c',e,_,_,hA⟩:=hP;rw[show(qL n r).length=n.ends.length by simp[qL]]at e
  cases e;obtain⟨b,off,e,-⟩:=hA 0 _ (vA (show 0<n.ends.length by omega))
  refine⟨b,off,e,fun x hx W hW=>?_⟩
  obtain⟨b',n7,e',hc⟩:=hA x _ (vA hx);rw[e]at e';cases e';exact ae hc W hW
 have HC:=zh gy;have jU:=pj.1;have mi:=pj.2;clear hn hP gy hT pj
 obtain⟨w0,A,c,A2,c2,A3,c3,rfl,rfl,rfl,fg,hm,f8,fP,HA,bS,aT,H,dP,d9,dV⟩:=zB h;clear h
 go_enter Tryz.func169,Tryz.ntmps169
 go_upto_region 2 with(fail);rw[<- bS.out];have aU:ab w0 w0:=aa _;obtain⟨C,hC⟩:∃C:Nat->Nat,C=fun k=>(List.range k).countP fun w=>pT (ou n r) (lj n r) w v:=⟨_,rfl⟩
 have Xj:=zh hC
 have hCb:∀k,C k<=k:=fun k=>by rw[hC];exact Nat.le_trans List.countP_le_length (by simp)
 have HCb:=zh hCb
 have hC0:C 0=0:=by rw[hC];rfl
 have HC0:=zh hC0;clear hC hCb hC0;go_wp2
 go_loopw [7,12] (fun tc ti wr=>∃k:Nat,k<=n.ends.length/\ti=.int .i64 k/\tc=.int .i64 ((C k:Nat):Int)/\ab w0 wr) (fun _ ti _=>n.ends.length-(intOf ti).toNat)
 case atStart=>exact⟨0,Nat.zero_le _,rfl,by rw[HC0.out];rfl,aU⟩
 case round=>
  obtain⟨k,hk,rfl,rfl,bG⟩:=hrel;have Hs:=zh bG;clear bG aU;obtain⟨ck,SL⟩:∃z,z=C k:=⟨_,rfl⟩
  have Hck:=zh SL
  have acd:ck<=k:=by rw[SL];exact HCb.out k
  rw[<- SL];clear SL
  by_cases az:k<n.ends.length
  ·have m3:IntKind.i64.wrap ((k:Int)+1)=(k:Int)+1:=aH _ (by omega) (by omega)
   have m4:IntKind.i64.wrap ((ck:Int)+1)=((ck+1:Nat):Int):=by rw[aH _ (by omega) (by omega)];omega
   obtain⟨ck1,BP⟩:∃z,z=ck+1:=⟨_,rfl⟩
   rw[<- BP]at m4;have aa1:=zh BP;clear BP;obtain⟨wo,rfl⟩:∃z,z=wr:=⟨_,rfl⟩
   go_wp2
   go_loopw [7,9] (fun tc tx wr=>∃x:Nat,x<n.ends.length/\tx=.int .i64 x/\tc=.int .i64 (ck:Int)/\pT (ou n r) (lj n r) k v=pT (ou n r) (lj n r) x v/\ab w0 wr) (fun _ tx _=>(ou n r (intOf tx).toNat).toNat)
   case atStart=>exact⟨k,az,rfl,rfl,rfl,Hs.out⟩
   case round=>
    obtain⟨x,hx,rfl,rfl,ha,fM⟩:=hrel;have Ha:=zh ha;have cW:=zh fM;clear ha fM;have Fx:ab w wr:=ab.trans aT.out cW.out;have cx:=HC.out x hx wr Fx;obtain⟨tw,Mu⟩:∃z,z=gV n r x:=⟨_,rfl⟩
    rw[<- Mu]at cx;have YZ:=zh Mu;clear Mu
    by_cases mC:x=v
    ·have e0:((x:Int)=(v:Int))=True:=by simp[mC]
     have e0b:((x:Int)==(v:Int))=true:=by simp[mC]
     have Xk:C (k+1)=ck1:=by
      rw[Xj.out];show(List.range (k+1)).countP _=_
      rw[vB,Ha.out,mC,lE HT.out hv,if_pos rfl,aa1.out,Hck.out,Xj.out]
     have Xl:=zh Xk;clear Xk cx;go_wp2;go_roundw
     case rel=>exact⟨k+1,by omega,by first | rfl | go_num,by first | (rw[Xl.out];done) | (rw[Xl.out];go_num),cW.out⟩
     case measure=>simp[intOf];omega
    ·have e0:((x:Int)=(v:Int))=False:=by simp;omega
     have e0b:((x:Int)==(v:Int))=false:=beq_eq_false_iff_ne.2 (by omega)
     by_cases mv:tw<0
     ·have jH:pT (ou n r) (lj n r) x v=false:=by
       rw[ix HT.out hx]
       have:lj n r x=none:=by unfold lj;rw[if_neg (by rw[<- YZ.out];omega)]
       rw[this];simp[mC]
      have Xk:C (k+1)=ck:=by
       rw[Xj.out];show(List.range (k+1)).countP _=_
       rw[vB,Ha.out,jH,if_neg (by simp),Hck.out,Xj.out];rfl
      have Xl:=zh Xk;clear Xk jH;go_wp2;go_roundw
      case rel=>exact⟨k+1,by omega,by first | rfl | go_num,by first | (rw[Xl.out];done) | (rw[Xl.out];go_num),cW.out⟩
      case measure=>simp[intOf];omega
     ·obtain⟨q,rfl⟩:=Int.eq_ofNat_of_zero_le (show 0<=tw by omega)
      have htq:=YZ.out;obtain⟨s1,s2,s3,s4,s5,s6⟩:=fo Hn.out hr (r:=r) (v:=x) (by omega);rw[<- htq]at s2 s4 s6;rw[Int.toNat_natCast]at s6;obtain⟨es,bM⟩:=aA n.ends x hx;rw[ao bM]at s6;obtain⟨e,he⟩:=aA es q s6;have NX:=(bV Hn.out bM).2 e (List.mem_of_getElem? he);obtain⟨y,hy⟩:=Int.eq_ofNat_of_zero_le NX.1
      have LF:ib n x (q:Int)=y:=by unfold ib;rw[ao bM,Int.toNat_natCast,ao he,hy];exact Int.toNat_natCast y
      rw[LF]at s2 s4
      have RZ:lj n r x=some y:=by unfold lj;rw[<- htq,if_pos (by omega),LF]
      have Xm:pT (ou n r) (lj n r) x v=pT (ou n r) (lj n r) y v:=by
       rw[ix HT.out hx,RZ];simp[mC]
      have gD:=(HT.out.some_ x y hx RZ).2;have zq:=HT.out.pos y s2;obtain⟨bE,oE,cE,uE,Yn,-,eD,dm⟩:=fi H.out.es bM;obtain⟨A9,y9,rfl,dh,dt,FK⟩:=dm;obtain⟨g1,o1,rfl,t1,t2⟩:=FK q e he;rw[hy]at t1;have d0:=dP wr cW.out;have d1:=ae eD wr cW.out;have d2:=ae t1 wr cW.out;cases Yn;have yB:=zh (And.intro (Ha.out.trans Xm) (And.intro s2 (And.intro gD zq)));unfold maxLen at dt;clear s1 s2 s3 s4 s5 bM he NX hy LF RZ Xm gD zq eD t1 t2 FK htq Fx;go_upto_region 6 with(fail)
      go_region
      clear d0 d1 d2 cx;go_wp2;go_roundw
      case rel=>exact⟨y,yB.out.2.1,by first | rfl | go_num,by first | rfl | go_num,yB.out.1,ah cW.out⟩
      case measure=>have h9:=yB.out.2.2;simp[intOf];omega
  ·obtain rfl:k=n.ends.length:=by omega
   have hR:((ck:Nat):Int)=((oq n.ends.length (ou n r) (lj n r) v:Nat):Int):=by
    rw[Hck.out,Xj.out];rfl
   have HR:=zh hR;clear hR;go_wp2;go_ret
   exact⟨by rw[<- HR.out];first | rfl | simp,ab.trans aT.out Hs.out⟩
structure abK (n:aj) (ls:List Int) (v:Nat):Prop where
 ids:n.ids.length≠0
 same:∀w:Nat,(w:Int)∈dW n (v:Int)->ux (ls.getD w 0)=ux (ls.getD v 0)
 sum:wF (ls.getD v 0)=jA ls (ls.getD v 0) (n.ends.getD v []) (n.ends.getD v []).length%2
 ac2:(mz (ls.getD v 0)=0/\wy (ls.getD v 0)=9/\n.ids.getD v 0=ux (ls.getD v 0)/\wF (ls.getD v 0)=0)\/(0<mz (ls.getD v 0)/\∃(i:Nat),i<(n.ends.getD v []).length/\(i:Int)=wy (ls.getD v 0)/\mz (po ls ((n.ends.getD v []).getD i (0,0)))=mz (ls.getD v 0)-1)
def a_ (n:aj) (v i:Nat):Nat:=((n.ends.getD v []).getD i (0,0)).1.toNat
theorem nD {n:aj} (hn:ak n=true) {v i:Nat} (hi:i<(n.ends.getD v []).length):a_ n v i<n.ends.length/\v<n.ends.length/\((n.ends.getD v []).getD i (0,0)).1=(a_ n v i:Int)/\∃j:Nat,((n.ends.getD v []).getD i (0,0)).2=(j:Int)/\j<(n.ends.getD (a_ n v i) []).length/\(n.ends.getD (a_ n v i) []).getD j (0,0)=((v:Int),(i:Int)):=by
 obtain⟨a,b,c,d,e⟩:=cY hn (v:=v) (i:=i) (getD_in (d:=(0,0)) hi).2
 refine⟨by unfold a_;omega,a,by unfold a_;omega,_,(Int.toNat_of_nonneg d).symm,al e,?_⟩
 unfold aZ at e;unfold a_;rw[zDd (i:=((n.ends.getD v []).getD i (0,0)).2.toNat),e]
 rfl
structure abL (n:aj) (ls:List Int) (v:Nat):Prop where
 zero:ls.getD v 0=0->∀i,i<(n.ends.getD v []).length->ls.getD (a_ n v i) 0=1
 one:ls.getD v 0≠0->∃i,i<(n.ends.getD v []).length/\ls.getD (a_ n v i) 0=ls.getD v 0-1/\∀j,j<(n.ends.getD v []).length->j≠i->ls.getD (a_ n v j) 0=ls.getD v 0+1
theorem vC (ls:List Int) (es:List (Int×Int)):(aR ls es).length=es.length:=by simp[aR]
theorem Ov {ls:List Int} {n:aj} {v i:Nat} (hi:i<(n.ends.getD v []).length):(aR ls (n.ends.getD v []))[i]?=some (ls.getD (a_ n v i) 0):=by
 unfold aR;rw[List.getElem?_map,(getD_in (d:=(0,0)) hi).2];rfl
def R2 (n:aj) (ls:List Int) (v i:Nat):Prop:=i<(n.ends.getD v []).length/\ls.getD (a_ n v i) 0=ls.getD v 0-1
inductive Und (n:aj) (ls:List Int) (w:Nat):Nat->Prop
 | self:Und n ls w w
 | up {x i:Nat}:Und n ls w (a_ n x i)->x<n.ends.length->R2 n ls x i->Und n ls w x
theorem Ow {n:aj} (hn:ak n=true) (h:kK n=true):py n 1 (lf n):=by
 intro v hv
 unfold dC fS
 rw[if_pos rfl,Bool.and_eq_true,decide_eq_true_eq,Bool.not_eq_true',List.any_eq_false,fm hv]
 have h2:∀x,0<=fC n x/\fC n x<=1:=fun x=>by unfold fC;omega
 refine⟨(h2 v).2,fun x hx=>?_⟩
 obtain⟨e,he,rfl⟩:=qM.1 hx;have hr:=ko hn he;rw[fm (by omega)];rw[nN hn,List.all_eq_true]at h;have h3:=h v (List.mem_range.2 hv);rw[Bool.not_eq_true',List.any_eq_false]at h3;have h4:=h3 _ (kp he hr.2.1);unfold ke at h4;rw[Int.toNat_natCast,fm (by omega)]at h4
 have h5:fC n v≠fC n e.1.toNat:=fun e=>h4 (by rw[e];simp)
 have:=h2 v
 have:=h2 e.1.toNat
 rw[bne_iff_ne,Decidable.not_not];omega
theorem Iq {n:aj} {l:List Int} (h:okB n l):py n 2 l:=by
 intro v hv;obtain⟨h1,h2⟩:=h v hv
 unfold dC fS
 rw[if_neg (by decide),if_pos rfl,Bool.and_eq_true,decide_eq_true_eq,Bool.not_eq_true'];refine⟨h1.2,?_⟩;unfold jx;rw[List.contains_eq_mem,decide_eq_false_iff_not];intro hm;obtain⟨e,he,hc⟩:=qM.1 hm;exact h2 e he hc
theorem vD {n:aj} (hn:ak n=true) (h0:n.ids.length≠0):n.ids.length=n.ends.length/\∀v,v<n.ends.length->1<=n.ids.getD v 0/\n.ids.getD v 0<=999999:=by
 have hi:=(gW.1 hn).2.1;rw[<- yn]at hi;unfold oK at hi;rw[Bool.and_eq_true,List.all_eq_true,Bool.or_eq_true,beq_iff_eq,beq_iff_eq]at hi;have hl:n.ids.length=n.ends.length:=by omega
 refine⟨hl,fun v hv=>?_⟩
 have:=hi.1 v (List.mem_range.2 (by omega))
 rw[Bool.and_eq_true]at this;exact bz.1 this.1
theorem LG {n:aj} (hn:ak n=true) {r v:Nat} (hr:r<n.ends.length) (FA:hZ n r v) (iJ:v≠r):0<ay n r v/\∃w:Nat,(w:Int)∈dW n (v:Int)/\ay n r w=ay n r v-1:=by
 have hd:=nQ hn hr;obtain⟨y,h1,h2,h3⟩:=hd.par v FA iJ;have h4:=hd.pos y h1;have h3':ay n r y+1=ay n r v:=h3;have h4':0<=ay n r y:=h4;exact⟨by omega,y,tb hn (ph hn hr h1) h2,by omega⟩
theorem vE {n:aj} (hn:ak n=true) {r:Nat} (hr:r<n.ends.length):ay n r r=0:=(nQ hn hr).zero
theorem rc {n:aj} (hn:ak n=true) {r v:Nat} (hr:r<n.ends.length) (hv:v<n.ends.length) : -1<=ay n r v/\ay n r v<n.ends.length:=by
 have:=(qx hn hr hv)
 unfold ay;omega
theorem re {n:aj} {f:Nat->Int} {v:Nat} (hv:v<n.ends.length):((List.range n.ends.length).map f).getD v 0=f v:=by
 rw[zDd,List.getElem?_map,List.getElem?_range hv];rfl
theorem rX {n:aj} (hn:ak n=true) (h:iU n=true) {v:Nat} (hv:v<n.ends.length):∃r:Nat,jP n v=(r:Int)/\r<n.ends.length/\am n r=am n v/\n.acn.getD r 0=1/\(∀w,w<n.ends.length->am n w=am n v->n.acn.getD w 0=1->w=r)/\hZ n r v:=by
 have h1:=List.all_eq_true.1 h v (List.mem_range.2 hv);unfold qH at h1;have h1:=eq_of_beq h1
 unfold jP jB
 unfold pp at h1
 cases ho:dx n (am n v) n.ends.length with
 | nil=>rw[ho]at h1;simp at h1
 | cons r l=>
  rw[ho]at h1;have hl:l=[]:=by simpa using h1
  subst hl
  have hm:∀w,w∈dx n (am n v) n.ends.length↔w<n.ends.length/\am n w=am n v/\n.acn.getD w 0=1:=fun w=>by
   unfold dx mZ
   rw[List.mem_filter,List.mem_range,Bool.and_eq_true,decide_eq_true_eq,decide_eq_true_eq]
  have hr:=(hm r).1 (by rw[ho];simp)
  refine⟨r,rfl,hr.1,hr.2.1,hr.2.2,fun w a b c=>?_,?_⟩
  ·have:=(hm w).2 ⟨a,b,c⟩
   rw[ho]at this;simpa using this
  ·have a1:=(bA hn hr.1).1;have a2:=(bA hn hv).1.symm hn hv;rw[hr.2.1]at a1;exact a1.trans a2
theorem Co {n:aj} {v w:Nat} (h:am n v=am n w):jP n v=jP n w:=by unfold jP;rw[h]
theorem LH {n:aj} (hn:ak n=true) (h0:n.ids.length≠0) (h:iU n=true):py n 4 ((List.range n.ends.length).map (lG n)):=by
 have hN:=aB hn;intro v hv;obtain⟨r,hr,q8,hrc,WP,hru,FA⟩:=rX hn h hv;have hid:=vD hn h0
 have rf:∀w,w<n.ends.length->am n w=am n v->((List.range n.ends.length).map (lG n)).getD w 0=n.ids.getD r 0*100+ay n r w/\0<=ay n r w/\ay n r w<100:=fun w hw he=>by
  rw[re hw];unfold lG;rw[Co he,hr,Int.toNat_natCast]
  have dJ:hZ n r w:=by
   have a1:=(bA hn hv).1;have a2:=(bA hn hw).1.symm hn hw;rw[he]at a2;exact FA.trans (a1.trans a2)
  have:=(lF hn q8 hw).2 dJ
  have:=rc hn q8 hw
  exact⟨rfl,by omega,by omega⟩
 obtain⟨l1,l2,l3⟩:=rf v hv rfl
 unfold dC fS
 rw[if_neg (by decide),if_neg (by decide),if_neg (by decide),if_pos rfl,Bool.and_eq_true,decide_eq_true_eq];refine⟨h0,?_⟩;rw[l1];unfold kh;rw[Bool.and_eq_true,List.all_eq_true,Bool.or_eq_true]
 have PW:∀i,i<(n.ends.getD v []).length->po ((List.range n.ends.length).map (lG n)) ((n.ends.getD v []).getD i (0,0))=n.ids.getD r 0*100+ay n r (a_ n v i)/\0<=ay n r (a_ n v i)/\ay n r (a_ n v i)<100:=fun i hi=>by
  have ly:=(getD_in (d:=(0,0)) hi).1;have dm:=ko hn ly
  exact rf (a_ n v i) (by unfold a_;omega) (gJ hn hv (hZ.refl.step (kp ly dm.2.1))).symm
 refine⟨fun i hi=>?_,?_⟩
 ·obtain⟨a,b,c⟩:=PW i (List.mem_range.1 hi);rw[a,beq_iff_eq];omega
 ·by_cases e:v=r
  ·left
   subst e;rw[vE hn q8,Bool.and_eq_true,Bool.and_eq_true,beq_iff_eq,beq_iff_eq,beq_iff_eq];exact⟨⟨by omega,by omega⟩,WP⟩
  ·right
   obtain⟨n1,w,n2,n3⟩:=LG hn q8 FA e;rw[Bool.and_eq_true,Bool.and_eq_true,decide_eq_true_eq,bne_iff_ne,List.any_eq_true];refine⟨⟨by omega,fun hi=>e (hru v hv rfl hi)⟩,?_⟩
   obtain⟨i,hi,hw⟩:=FE.1 n2;refine⟨i,List.mem_range.2 hi,?_⟩;obtain⟨a,b,c⟩:=PW i hi
   have ef:a_ n v i=w:=by unfold a_;rw[hw];simp
   rw[a,beq_iff_eq];rw[ef]at b c ⊢;omega
end Go.Proofs.YtgmdpppljkmabaaGreat
