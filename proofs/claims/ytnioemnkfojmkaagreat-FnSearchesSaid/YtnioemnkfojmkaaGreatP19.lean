/- Parts of the proof: walks of functions and plain laws. -/
import Derived.Test.YtnioemnkfojmkaaGreatP0
import Derived.Test.YtnioemnkfojmkaaGreatP18
import Derived.Deep.CutBlock
import Derived.Test.YtnioemnkfojmkaaGreatP6
import Derived.Test.YtnioemnkfojmkaaGreatP12
import Derived.Test.YtnioemnkfojmkaaGreatP17
import Derived.Test.YtnioemnkfojmkaaGreatP3
set_option maxRecDepth 100000
set_option maxHeartbeats 16000000
namespace Go.Proofs.YtnioemnkfojmkaaGreat
open Go Go.RowKit
theorem aT.fresh (w:World) (L D:Int) (a b:Value):aT (w.alloc (.cells #[.int .i64 L,.int .i64 D,a,b] 26)) w.heap.size L D a b:=by
 unfold aT;show(w.heap.push _)[w.heap.size]?=_
 rw[Array.getElem?_push_size]
theorem xt {w0 w:World} {B d:Nat} {a b u:Value} {l m:List (List Int)} {x:List Int} (h:lw w0 B a b l m) (hs:aa w0 w) (hu:Own w w0.heap.size u x) (hB:B<=w0.heap.size) (hl:l.length<=1000) (hx:jW d x) (hy:∀y∈l,jW d y):
  Calls Tryz.prog 120 #[a,u] w fun e w'=>∃r l',e=.returned r/\lw w' B r b l' m/\l'.length<=l.length+1/\(∀y∈l',jW d y)/\Below w.heap.size w w':=by
 obtain⟨TN,TE,h1,h2,h3⟩:=h;have hz:=hs.below.size;have JQ:=(h1.bound.since hs).mono (T':=fun j=>(TN j/\j<w0.heap.size)\/w0.heap.size<=j) (Nat.le_refl _) (fun j h=>.inl ⟨h.1,h.2.2⟩)
 have RE:=h2.bound.since hs
 refine(sd a u l x B _ w JQ (Own.mono hu hB) hl (by omega) (fun j hj=>.inr (by omega)) (fun j hj=>.inr (World.ownsRow.lt hu j (by simpa using hj)).1) (fun z hz=>by have:=hx.2 z hz;omega) (fun y Lb=>⟨by rw[(hy y Lb).1,hx.1],fun z hz=>by have:=(hy y Lb).2 z hz;omega⟩)).mono ?_
 rintro e w' ⟨r,rfl,q1,q2⟩;refine⟨r,qU l x,rfl,⟨_,_,q1,RE.since q2,fun j q5 q6=>?_⟩,Db l x,fun y Lb=>?_,q2⟩
 ·rcases q5 with q5 | q5
  ·exact h3 j q5.1 q6.1
  ·omega
 ·rcases Da Lb with h | rfl
  ·exact hy y h
  ·exact hx
theorem xx {d:Nat} {x:List Int} (h:jW d x):jW d (du x):=⟨by rw[(iq x).length_eq];exact h.1,fun z hz=>h.2 z (H8.1 hz)⟩
theorem zC (cb:Nat) (A:Option Addr) (L c P d:Nat) (w:World) (hc:bB w cb A L c P) (hP:P<=4611686018426000000) (hd:1<=d/\d<=4):
  Calls Tryz.prog 71 #[.pointer (some ⟨cb,0,none⟩),.int .i64 d] w (Yg cb w.heap.size A L c (P+1000) d w):=by
 have ia:=hc.lt;obtain⟨rb,fG⟩:∃z,z=w.heap.size:=⟨_,rfl⟩
 obtain⟨w0,ar⟩:∃z,z=w.alloc (.cells #[.int .i64 0,.int .i64 0,.slice none 0 0,.slice none 0 0] 26):=⟨_,rfl⟩
 have bu:aa w w0:=by rw[ar];exact ae _ (ad _)
 have bG:aT w0 rb 0 0 (.slice none 0 0) (.slice none 0 0):=by rw[ar,fG];exact aT.fresh _ _ _ _ _
 have eu:w0.heap.size=rb+1:=by rw[ar,fG];simp
 have cS:=zh ar;have f6:=zh bu;have eY:=zh fG;have bQ:=zh bG;have gh:=zh eu;have xi:=zh (hc.since bu);have pZ:cb<rb:=by omega
 clear ar bu bG eu hc ia
 go_enter Tryz.func71,Tryz.ntmps71
 go_upto_region 1 with(fail);rw[<- cS.out,<- eY.out];clear fG;go_wp2_with fail;refine(lF cb A L c P 2 w0 xi.out (by omega) (by omega)).mono ?_;rintro e w1 ⟨b,rfl,jc,ky⟩;have gE:=zh jc;have lZ:=zh ky;clear jc ky;cases b
 ·go_wp2_with fail;refine(db cb A L c (P+2) 4 w1 gE.out (by omega) (by omega)).mono ?_;rintro e w2 ⟨x,rfl,hx,lU,pX⟩;obtain⟨nl,zm⟩:∃k:Nat,k=1+x:=⟨_,rfl⟩
  have m1:IntKind.i64.wrap (1+(x:Int))=(nl:Int):=by rw[aE _ (by omega) (by omega)];omega
  have hn4:1<=nl/\nl<=4:=by omega
  have xf:=zh lU;have Ju:=zh (aY.trans lZ.out pX);clear lU pX hx zm;obtain⟨pb,da⟩:∃z,z=w2.heap.size:=⟨_,rfl⟩
  obtain⟨w3,gZ⟩:∃z,z=w2.alloc (.cells #[.int .i64 nl,.int .i64 d,.slice none 0 0,.slice none 0 0] 26):=⟨_,rfl⟩
  have pP:Hid (aT w3 pb nl d (.slice none 0 0) (.slice none 0 0)):=by show aT _ _ _ _ _ _;rw[gZ,da];exact aT.fresh _ _ _ _ _
  have lE:Hid (aa w2 w3):=by show aa _ _;rw[gZ];exact ae _ (ad _)
  have xY:Hid (w3.heap.size=pb+1):=by show _=_;rw[gZ,da];simp
  have cB:Hid (rb+1<=pb):=by show _<=_;rw[da,<- gh.out];exact Ju.out.size
  have wO:=zh gZ;have tf:=zh da;clear gZ da;go_wp2_with fail;rw[<- wO.out,<- tf.out];refine(db cb A L c (P+4) 6 w3 (xf.out.since lE.out) (by omega) (by omega)).mono ?_;rintro e w4 ⟨y,rfl,hy,jd,j_⟩;obtain⟨kk,Df⟩:∃k:Nat,k=1+y:=⟨_,rfl⟩
  have m2:IntKind.i64.wrap (1+(y:Int))=(kk:Int):=by rw[aE _ (by omega) (by omega)];omega
  have hk6:kk<=6:=by omega
  have kn:=zh jd;have EY:=zh ((aY.after Ju.out lE.out).trans j_)
  have iu:=zh (pP.out.seen j_ (by have:=cB.out;omega))
  have tW:Hid (pb+1<=w4.heap.size):=by show _<=_;rw[<- xY.out];exact j_.size
  clear jd j_ hy Df;go_upto_region 5 with(fail)
  go_loopw [6] (fun i wr=>∃(r:Nat) (a b:Value) (l m:List (List Int)),r<=6/\i=.int .i64 r/\lw wr (pb+1) a b l m/\l.length+r<=6/\m.length+r<=6/\(∀y∈l,jW d y)/\(∀y∈m,jW 2 y)/\aT wr pb nl d a b/\aY cb w0 wr/\bB wr cb A L c (P+6+(6-r)*20)/\pb+1<=wr.heap.size) (fun i _=>(intOf i).toNat)
  case atStart=>exact⟨kk,_,_,[],[],hk6,rfl,⟨fun _=>False,fun _=>False,kH _ _ _,kH _ _ _,fun _ h=>h.elim⟩,by simp;omega,by simp;omega,by simp,by simp,iu.out,EY.out,kn.out.mono (by omega),tW.out⟩
  case round=>
   obtain⟨r,a,b,l,m,hr,rfl,hq,hl,hm,hy,hz,hb,hs,df,eR⟩:=hrel
   obtain⟨A1,c1,rfl⟩:∃A c,a=.slice A l.length c:=by obtain⟨TN,TE,h1,-⟩:=hq;obtain⟨A,c,e,-⟩:=h1.form;exact⟨A,c,e⟩
   obtain⟨A2,c2,rfl⟩:∃A c,b=.slice A m.length c:=by obtain⟨TN,TE,-,h1,-⟩:=hq;obtain⟨A,c,e,-⟩:=h1.form;exact⟨A,c,e⟩
   have Hq:=zh hq;have Hl:=zh hl;have Hm:=zh hm;have Hy:=zh hy;have Hz:=zh hz;have Hb:=zh hb;have Hs:=zh hs;have nt:=zh df;have jw:=zh eR;clear hq hl hm hy hz hb hs df eR
   by_cases jm:0<r
   ·obtain⟨wo,rfl⟩:∃z,z=wr:=⟨_,rfl⟩
    go_upto_region 8 with(fail)
    go_loopw [7] (fun x wr=>∃xs:List Int,xs.length<=d/\(∀z∈xs,0<=z/\z<=7)/\Own wr wo.heap.size x xs/\aY cb wo wr/\bB wr cb A L c (P+6+(6-r)*20+2*xs.length)) (fun x _=>d-GA x)
    case atStart=>exact⟨[],Nat.zero_le _,by simp,iP _ _,aY.refl _ _,by simpa using nt.out⟩
    case round=>
     obtain⟨xs,sx,uQ,ho,Ef,df⟩:=hrel;obtain⟨AX,cX,rfl,-,-,-⟩:=id ho.ints;have mw:=zh sx;have JW:=zh uQ;have Ho:=zh ho;have yX:=zh Ef;have Yh:=zh df
     have dj:=Hb.out.seen Ef (by have:=cB.out;omega)
     have CI:=zh dj;obtain⟨e0,e1,e2,e3⟩:=dj.cells
     have lM:Hid (xs.length+1<=17592186044416):=by show _<=_;omega
     clear sx uQ ho Ef df dj
     by_cases hxd:xs.length<d
     ·go_wp2_with fail
      refine(db cb A L c _ nl wr Yh.out (by have:=mw.out;omega) (by omega)).mono ?_
      rintro e w5 ⟨z,rfl,VE,km,pC⟩
      have JC:cb<wo.heap.size:=by have:=jw.out;have:=cB.out;omega
      have uA:=zh (Own.since (Ho.out.seen pC JC) (ae (.cells #[.int .i64 (z:Int)] 3) (ad w5)));have oQ:=zh (yX.out.trans pC);have IV:=zh km
      have IR:Hid ((0:Int)<=(z:Int)/\(z:Int)<=7):=by show _/\_;omega
      have tg:Hid (wo.heap.size<=(w5.alloc (.cells #[.int .i64 (z:Int)] 3)).heap.size):=Nat.le_trans oQ.out.size (ae _ (ad w5)).below.size;clear pC km VE
      go_wp2_with (at_builtin;refine rs rfl _ _ rfl rfl uA.out w5.heap.size z rfl (by simp[go_sem]) lM.out tg.out ?_;intro g6 c6 w6 cJ iw jU DE;have Gt:=zh cJ;have vo:Hid (Below wo.heap.size w5 w6):=Below.grown ((ae _ (ad w5)).below.mono oQ.out.size) iw tg.out (fun q hq=>(World.ownsRow.lt uA.out q hq).1);clear cJ iw jU DE)
      go_roundw
      case rel=>exact⟨xs++[(z:Int)],by simp;omega,fun z1 h1=>by rcases List.mem_append.1 h1 with h | h;exact JW.out z1 h;rw[List.mem_singleton]at h;rw[h];exact IR.out,by simpa using Gt.out,CB.trans oQ.out (CB.of vo.out),(IV.out.ac2 (fun j hj=>vo.out.block j (by omega))).mono (by simp;omega)⟩
      case measure=>simp[GA];omega
     ·have Hqr:Hid (lw wr (pb+1) (.slice A1 l.length c1) (.slice A2 m.length c2) l m):=by
       show lw _ _ _ _ _ _
       exact Hq.out.ac4 fun j h1 h2=>yX.out.block j h2 (by have:=cB.out;omega)
      have OH:Hid (pb+1<=wr.heap.size):=Nat.le_trans jw.out yX.out.size
      have Hxd:Hid (jW d xs):=⟨by have:=mw.out;omega,JW.out⟩
      have Hix:Hid (bO wr (.slice AX xs.length cX) xs):=Ho.out.ints;have rP:Hid (aY cb w0 wr):=aY.trans Hs.out (yX.out.mono (Nat.le_refl _))
      have Hld:Hid (xs.length<=1000000):=by show _<=_;have:=mw.out;omega
      have yb:Hid (l.length<=1000):=by show _<=_;have:=Hl.out;omega
      have sx:=mw.out
      have O8:Hid (pb≠cb):=by show _≠_;have:=cB.out;omega
      clear e0 e1 e2 e3;go_upto_region 10 with(fail);have Ft:aT wr pb nl d (.slice A1 l.length c1) (.slice A2 m.length c2):=CI.out;refine av (fun W=>aT W pb nl d (.slice A1 l.length c1) (.slice A2 m.length c2)) 5 [false,false,false,true,true] (by kernel_rfl) (by kernel_rfl) (show aT (World.drew wr) pb nl d (.slice A1 l.length c1) (.slice A2 m.length c2)from Ft.ac2 (ag (ad _))) ?_
      simp only[ek,dD,zT]
      iterate 3 (apply bh rfl;(intro W hW;(have k0:=hW.cells.2.2.1);go_simp;with_reducible rfl);simp only[zA])
      obtain⟨W,cA⟩:∃W,W=World.drew wr:=⟨_,rfl⟩
      rw[<- cA];have hW:=(show aT (World.drew wr) pb nl d (.slice A1 l.length c1) (.slice A2 m.length c2)from Ft.ac2 (ag (ad _)));rw[<- cA]at hW;have eU:=zh cA;clear cA;refine Or.inl ⟨rfl,?_⟩
      go_simp
      (with_reducible refine(kv (.slice AX xs.length cX) xs W (by rw[eU.out];exact Hix.out.ac2 (ag (ad _)).below) Hld.out).mono ?_)
      rintro e W' ⟨u5,rfl,qo,mP⟩;refine⟨_,rfl,(hW.ac2 (show aa W W' from mP)),?_⟩
      replace hW:=(hW.ac2 (show aa W W' from mP))
      obtain⟨A5,c5,rfl,-,-,-⟩:=id qo.ints
      have uA:Hid (Own W' wr.heap.size (.slice A5 (du xs).length c5) (du xs)):=(by show Own _ _ _ _;rw[eU.out]at qo;exact qo)
      have oQ:Hid (aa wr W'):=(by show aa _ _;rw[eU.out]at mP;exact(ag (ad wr)).after mP)
      clear qo mP;obtain⟨wp,rfl⟩:∃z,z=W':=⟨_,rfl⟩
      (try simp only[zA])
      refine Or.inl ⟨rfl,?_⟩
      go_simp
      (with_reducible refine(xt Hqr.out oQ.out uA.out OH.out yb.out (xx Hxd.out) Hy.out).mono ?_)
      rintro e W' ⟨u6,l6,rfl,cJ,DE,hy6,th⟩;refine⟨_,rfl,(hW.ac2 (show aa _ W' from th)),?_⟩
      replace hW:=(hW.ac2 (show aa _ W' from th))
      have Gt:=zh cJ;have Hl6:=zh DE;have Hy6:=zh hy6;have Gu:Hid (aa wr W'):=oQ.out.after th;clear cJ DE hy6 th
      (try simp only[zA])
      simp only[bj]
      obtain⟨A6,c6,rfl⟩:∃A c,u6=.slice A l6.length c:=by obtain⟨TN,TE,q1,-⟩:=Gt.out;obtain⟨A,c,e,-⟩:=q1.form;exact⟨A,c,e⟩
      obtain⟨w6,rfl⟩:∃z,z=W':=⟨_,rfl⟩
      have vo:=zh hW;obtain⟨d0,d1,d2,d3⟩:=hW.cells;have f2:=frozen_of_row w6 pb 2 _ _ hW;clear hW Ft;go_upto_region 11 with(fail);obtain⟨w7,pB⟩:∃z,z=w6.setCell ⟨pb,2,none⟩ (.slice A6 l6.length c6):=⟨_,rfl⟩
      have Hq7:Hid (lw w7 (pb+1) (.slice A6 l6.length c6) (.slice A2 m.length c2) l6 m):=by
       show lw _ _ _ _ _ _
       rw[pB]
       exact Gt.out.ac4 fun j h1 h2=>Below.heap_setCell _ _ _ j (by simp;omega)
      have hS7:aT w7 pb nl d (.slice A6 l6.length c6) (.slice A2 m.length c2):=by
       rw[pB];exact vo.out.ady _
      have Yi:Hid (aY cb w0 w7):=by
       show aY _ _ _
       rw[pB]
       exact CB.setCell (aY.after rP.out Gu.out) (.inl (by have:=cB.out;rw[gh.out];exact this)) _
      have xm:Hid (∃Q,bB w7 cb A L c Q/\Q=P+6+(6-r)*20+2*xs.length):=by
       refine⟨_,?_,rfl⟩;rw[pB]
       exact(Yh.out.since Gu.out).ac2 fun j hj=>Below.heap_setCell _ _ _ j (by simp;have:=cB.out;omega)
      have Hz7:Hid (pb+1<=w7.heap.size):=by show _<=_;rw[pB,gt];exact Nat.le_trans OH.out Gu.out.below.size
      rw[<- pB];obtain⟨Q,hQc,hQe⟩:=xm.out;have HQc:=zh hQc;have HQe:=zh hQe
      have HQb:Hid (Q<=4611686018426900000):=by show _<=_;omega
      have Hlm:Hid (m.length<=1000):=by show _<=_;have:=Hm.out;omega
      clear pB d0 d1 d2 d3 f2 hQc hQe;refine av (fun W=>aT W pb nl d (.slice A6 l6.length c6) (.slice A2 m.length c2)) 13 [false,false,false,false,false,true,false,false,false,true,true,true,true] (by kernel_rfl) (by kernel_rfl) (show aT (World.drew w7) pb nl d (.slice A6 l6.length c6) (.slice A2 m.length c2)from hS7.ac2 (ag (ad _))) ?_
      simp only[ek,dD,zT]
      iterate 8 (apply bh rfl;(intro W hW;(have k0:=hW.cells.1;have k3:=hW.cells.2.2.2);go_simp;with_reducible rfl);simp only[zA])
      obtain⟨W,cA⟩:∃W,W=World.drew w7:=⟨_,rfl⟩
      rw[<- cA];have hW:=(show aT (World.drew w7) pb nl d (.slice A6 l6.length c6) (.slice A2 m.length c2)from hS7.ac2 (ag (ad _)));rw[<- cA]at hW;have eU:=zh cA;clear cA;refine Or.inl ⟨rfl,?_⟩
      go_simp
      (with_reducible refine(db cb A L c Q (nl:Int) W (by rw[eU.out];exact HQc.out.since (ag (ad _))) (by have:=HQb.out;omega) (by omega)).mono ?_)
      rintro e W' ⟨za,rfl,Nv,df,hC⟩;refine⟨_,rfl,(hW.seen hC O8.out),?_⟩
      replace hW:=(hW.seen hC O8.out)
      have XV:Hid (aY cb w7 W'):=(by show aY _ _ _;rw[eU.out]at hC;exact((aY.refl cb w7).after (ag (ad _))).trans hC)
      have Fi:=zh df
      have tL:Hid ((0:Int)<=(za:Int)/\(za:Int)<=7):=(by show _/\_;omega)
      clear hC df Nv;obtain⟨wp,rfl⟩:∃z,z=W':=⟨_,rfl⟩
      (try simp only[zA])
      refine Or.inl ⟨rfl,?_⟩
      go_simp
      (with_reducible refine(db cb A L c (Q+2) (nl:Int) _ Fi.out (by have:=HQb.out;omega) (by omega)).mono ?_)
      rintro e W' ⟨zb,rfl,NC,df,hC⟩;refine⟨_,rfl,(hW.seen hC O8.out),?_⟩
      replace hW:=(hW.seen hC O8.out)
      have VF:Hid (aY cb w7 W'):=XV.out.trans hC;have Dg:=zh df
      have Hzb:Hid ((0:Int)<=(zb:Int)/\(zb:Int)<=7):=(by show _/\_;omega)
      have Yj:Hid (lw W' (pb+1) (.slice A6 l6.length c6) (.slice A2 m.length c2) l6 m):=(by show lw _ _ _ _ _ _;exact Hq7.out.ac4 fun j h1 h2=>VF.out.block j h2 (by have:=cB.out;omega))
      have qT:Hid (pb+1<=W'.heap.size):=Nat.le_trans Hz7.out VF.out.size;clear hC df NC;obtain⟨w9,rfl⟩:∃z,z=W':=⟨_,rfl⟩
      (try simp only[zA])
      refine bC (v:=?_) (ob:=?_) rfl ?_ ?_ ?_;rotate_left 2
      (go_simp;first | with_reducible rfl | (refine⟨?_,?_⟩ <;> with_reducible rfl))
      exact(hW.ac2 (ae _ (ad _)));intro nM LP QW
      replace hW:=QW
      clear QW
      have aa_:Hid (Own nM w9.heap.size (.slice (some ⟨w9.heap.size,0,none⟩) 2 2) [(za:Int),(zb:Int)]):=(by show Own _ _ _ _;rw[LP];exact dv w9 [(za:Int),(zb:Int)] (by simp[maxLen]))
      have Yk:Hid (aa w9 nM):=(by show aa _ _;rw[LP];exact ae _ (ad _))
      clear LP
      (try simp only[zA])
      refine Or.inl ⟨rfl,?_⟩
      go_simp
      (with_reducible refine(kv (.slice (some ⟨w9.heap.size,0,none⟩) 2 2) [(za:Int),(zb:Int)] _ aa_.out.ints (by simp)).mono ?_)
      rintro e W' ⟨u11,rfl,TC,O9⟩;refine⟨_,rfl,(hW.ac2 (show aa _ W' from O9)),?_⟩
      replace hW:=(hW.ac2 (show aa _ W' from O9))
      obtain⟨A11,c11,rfl,-,-,-⟩:=id TC.ints;have aba:Hid (Own W' w9.heap.size (.slice A11 (du [(za:Int),(zb:Int)]).length c11) (du [(za:Int),(zb:Int)])):=Own.mono TC Yk.out.below.size;have Yl:Hid (aa w9 W'):=Yk.out.after O9;have lq:Hid (jW 2 (du [(za:Int),(zb:Int)])):=xx (pH tL.out Hzb.out);clear TC O9;obtain⟨TF,rfl⟩:∃z,z=W':=⟨_,rfl⟩
      (try simp only[zA])
      refine Or.inl ⟨rfl,?_⟩
      go_simp
      (with_reducible refine(xt Yj.out.swap Yl.out aba.out qT.out Hlm.out lq.out Hz.out).mono ?_)
      rintro e W' ⟨u12,m12,rfl,Ym,Yn,Yo,O_⟩;refine⟨_,rfl,(hW.ac2 (show aa _ W' from O_)),?_⟩
      replace hW:=(hW.ac2 (show aa _ W' from O_))
      have Yp:=zh Ym.swap;have abb:=zh Yn;have abc:=zh Yo;have qD:Hid (aa w9 W'):=Yl.out.after O_;clear Ym Yn Yo O_
      (try simp only[zA])
      simp only[bj]
      obtain⟨A12,c12,rfl⟩:∃A c,u12=.slice A m12.length c:=by obtain⟨TN,TE,-,q1,-⟩:=Yp.out;obtain⟨A,c,e,-⟩:=q1.form;exact⟨A,c,e⟩
      obtain⟨JD,rfl⟩:∃z,z=W':=⟨_,rfl⟩
      have Fw:=zh hW;obtain⟨d0,d1,d2,d3⟩:=hW.cells;have f3:=frozen_of_row JD pb 3 _ _ hW
      have wk:IntKind.i64.wrap ((r:Int)-1)=((r-1:Nat):Int):=by rw[aE _ (by omega) (by omega)];omega
      clear hW hS7;go_wp2;go_roundw
      case rel=>
       have abd:Hid (aY cb w7 JD):=aY.after VF.out qD.out
       have jh:∀j,j≠pb->(JD.setCell ⟨pb,3,none⟩ (.slice A12 m12.length c12)).heap[j]?=JD.heap[j]?:=fun j h1=>Below.heap_setCell _ _ _ j (by simp;omega)
       refine⟨r-1,_,_,l6,m12,by omega,rfl,lw.ac4 Yp.out fun j h1 h2=>jh j (by omega),by have:=Hl.out;have:=Hl6.out;omega,by have:=Hm.out;have:=abb.out;omega,Hy6.out,abc.out,Fw.out.ac5 _,?_,?_,?_⟩
       ·exact CB.setCell (CB.trans Yi.out (abd.out.mono Yi.out.size)) (.inl (by have:=cB.out;rw[gh.out];exact this)) _
       ·exact((Dg.out.since qD.out).mono (by have:=HQe.out;have:=mw.out;omega)).ac2 fun j hj=>jh j (by have:=cB.out;omega)
       ·rw[gt];exact Nat.le_trans qT.out qD.out.below.size
      case measure=>simp[intOf];omega
   ·obtain rfl:r=0:=by omega
    have gW:=bQ.out.seen Hs.out (by omega);obtain⟨d0,d1,d2,d3⟩:=gW.cells;obtain⟨e0,e1,e2,e3⟩:=Hb.out.cells;have f0:=frozen_of_row wr _ 0 _ _ gW;have f1:=frozen_of_row wr _ 1 _ _ gW;have f2:=frozen_of_row wr _ 2 _ _ gW;have f3:=frozen_of_row wr _ 3 _ _ gW;clear gW;go_wp2;refine bodyPost_ret (v:=.agg #[.int .i64 nl,.int .i64 d,.slice A1 l.length c1,.slice A2 m.length c2]) (by simp[results,Tryz.results71,go_sem, *]) rfl ?_
    have ct:∀j,j≠rb->((((wr.setCell ⟨rb,0,none⟩ (.int .i64 nl)).setCell ⟨rb,1,none⟩ (.int .i64 d)).setCell ⟨rb,2,none⟩ (.slice A1 l.length c1)).setCell ⟨rb,3,none⟩ (.slice A2 m.length c2)).heap[j]?=wr.heap[j]?:=fun j h1=>by
     repeat rw[Below.heap_setCell _ _ _ j (by simp;omega)]
    have HP:Hid (eZ wr (pb+1) (.slice A1 l.length c1) (.slice A2 m.length c2) ⟨nl,d,l,m⟩):=Hq.out
    refine⟨_,_,⟨nl,d,l,m⟩,rfl,(eZ.ac4 HP.out fun j q1 q2=>ct j (by have:=cB.out;omega)).mono (by have:=cB.out;rw[<- eY.out];omega),⟨⟨by show(1:Int)<=nl;omega,by show(nl:Int)<=4;omega⟩,rfl,⟨by have:=Hl.out;show l.length<=20;omega,Hy.out⟩,⟨by have:=Hm.out;show m.length<=20;omega,Hz.out⟩⟩,(nt.out.mono (by omega)).ac2 (fun j hj=>ct j (by omega)),?_⟩
    rw[<- eY.out]
    exact(((((CB.of (f6.out.below.mono (by rw[eY.out];exact Nat.le_refl _))).trans (Hs.out.mono (by rw[gh.out];omega))).setCell (.inl (by simp)) _).setCell (.inl (by simp)) _).setCell (.inl (by simp)) _).setCell (.inl (by simp)) _
 ·go_wp2_with fail;refine(Fv cb A L c (P+2) d w1 gE.out (by omega) hd).mono ?_;rintro e w3 ⟨a,b,p,rfl,aC,q9,xy,mB⟩
  obtain⟨A1,c1,rfl⟩:∃A c,a=.slice A p.nodes.length c:=by obtain⟨TN,TE,q1,-⟩:=aC;obtain⟨A,c,e,-⟩:=q1.form;exact⟨A,c,e⟩
  obtain⟨A2,c2,rfl⟩:∃A c,b=.slice A p.ac3.length c:=by obtain⟨TN,TE,-,q1,-⟩:=aC;obtain⟨A,c,e,-⟩:=q1.form;exact⟨A,c,e⟩
  have ni:=zh aC;have IU:=zh q9;have i_:=zh xy;have HS:Hid (aY cb w0 w3):=aY.trans lZ.out mB
  have l3:Hid (rb+1<=w1.heap.size):=by show _<=_;rw[<- gh.out];exact lZ.out.size
  obtain⟨lb,gX⟩:∃z,p.labels=z:=⟨_,rfl⟩
  obtain⟨dg,nw⟩:∃z,p.degree=z:=⟨_,rfl⟩
  rw[gX,nw];have qp:=zh gX;have AH:=zh nw;clear aC q9 xy mB gX nw;have gW:=bQ.out.seen HS.out (by omega);obtain⟨d0,d1,d2,d3⟩:=gW.cells;have f0:=frozen_of_row w3 _ 0 _ _ gW;have f1:=frozen_of_row w3 _ 1 _ _ gW;have f2:=frozen_of_row w3 _ 2 _ _ gW;have f3:=frozen_of_row w3 _ 3 _ _ gW;clear gW;go_wp2;refine bodyPost_ret (v:=.agg #[.int .i64 lb,.int .i64 dg,.slice A1 p.nodes.length c1,.slice A2 p.ac3.length c2]) (by simp[results,Tryz.results71,go_sem, *]) rfl ?_
  have ct:∀j,j≠rb->((((w3.setCell ⟨rb,0,none⟩ (.int .i64 lb)).setCell ⟨rb,1,none⟩ (.int .i64 dg)).setCell ⟨rb,2,none⟩ (.slice A1 p.nodes.length c1)).setCell ⟨rb,3,none⟩ (.slice A2 p.ac3.length c2)).heap[j]?=w3.heap[j]?:=fun j h1=>by
   repeat rw[Below.heap_setCell _ _ _ j (by simp;omega)]
  refine⟨_,_,p,by rw[qp.out,AH.out],(eZ.ac4 ni.out fun j q1 q2=>ct j (by have:=l3.out;omega)).mono (by have:=l3.out;rw[<- eY.out];omega),IU.out,(i_.out.mono (by omega)).ac2 (fun j hj=>ct j (by omega)),?_⟩
  rw[<- eY.out]
  exact(((((CB.of (f6.out.below.mono (by rw[eY.out];exact Nat.le_refl _))).trans (HS.out.mono (by rw[gh.out];omega))).setCell (.inl (by simp)) _).setCell (.inl (by simp)) _).setCell (.inl (by simp)) _).setCell (.inl (by simp)) _
structure uB (p:az):Prop where
 lab:0<=p.labels/\p.labels<=9
 deg:0<=p.degree/\p.degree<=5
 nod:p.nodes.length<=21/\∀y∈p.nodes,y.length<=5/\∀z∈y,-1<=z/\z<=8
 edg:p.ac3.length<=21/\∀y∈p.ac3,y.length<=5/\∀z∈y,-1<=z/\z<=8
theorem O5.any {d:Nat} {p:az} (h:O5 d p) (hd:d<=4):uB p:=
 ⟨by have:=h.lab;omega,by have:=h.deg;omega,⟨by have:=h.nod.1;omega,fun y hy=>by have q:=h.nod.2 y hy;exact⟨by rw[q.1];omega,fun z hz=>by have:=q.2 z hz;omega⟩⟩,⟨by have:=h.edg.1;omega,fun y hy=>by have q:=h.edg.2 y hy;exact⟨by rw[q.1];omega,fun z hz=>by have:=q.2 z hz;omega⟩⟩⟩
def AnP (cb B:Nat) (A:Option Addr) (L c P:Nat) (w:World) (e:Ending) (w':World):Prop:=∃a b p,e=.returned (.agg #[.int .i64 p.labels,.int .i64 p.degree,a,b])/\eZ w' B a b p/\uB p/\bB w' cb A L c P/\CB cb B w w'
def fS (W:World) (B x:Nat) (a b:Value) (l m:List (List Int)):Prop:=∃TN TE:Nat->Prop,cy W B TN a l/\cy W B TE b m/\(∀j,TN j->¬TE j)/\(∀j,TN j->j≠x)/\∀j,TE j->j≠x
theorem fS.of {W:World} {B x:Nat} {a b:Value} {p:az} (h:eZ W B a b p) (hx:W.heap.size<=x):fS W B x a b p.nodes p.ac3:=by
 obtain⟨TN,TE,h1,h2,h3⟩:=h;exact⟨_,_,h1.bound,h2.bound,fun j q1 q2=>h3 j q1.1 q2.1,fun j q=>by omega,fun j q=>by omega⟩
theorem fS.own {W:World} {B x:Nat} {a b:Value} {l m:List (List Int)} (h:fS W B x a b l m) (L D:Int):eZ W B a b ⟨L,D,l,m⟩:=by
 obtain⟨TN,TE,h1,h2,h3,-⟩:=h;exact⟨TN,TE,h1,h2,h3⟩
theorem fS.swap {W:World} {B x:Nat} {a b:Value} {l m:List (List Int)} (h:fS W B x a b l m):fS W B x b a m l:=by
 obtain⟨TN,TE,h1,h2,h3,h4,h5⟩:=h;exact⟨TE,TN,h2,h1,fun j x y=>h3 j y x,h5,h4⟩
theorem fS.ac4 {W W':World} {B x:Nat} {a b:Value} {l m:List (List Int)} (h:fS W B x a b l m) (hk:∀j,j≠x->B<=j->j<W.heap.size->W'.heap[j]?=W.heap[j]?):fS W' B x a b l m:=by
 obtain⟨TN,TE,h1,h2,h3,h4,h5⟩:=h;exact⟨TN,TE,h1.ac4 fun j q=>hk j (h4 j q),h2.ac4 fun j q=>hk j (h5 j q),h3,h4,h5⟩
theorem fS.set {W:World} {B x:Nat} {a b:Value} {l m:List (List Int)} (h:fS W B x a b l m) (k:Nat) (u:Value):fS (W.setCell ⟨x,k,none⟩ u) B x a b l m:=
 h.ac4 fun j q _ _=>Below.heap_setCell _ _ _ j (by simpa using q)
theorem fS.seen {W W':World} {cb B x:Nat} {a b:Value} {l m:List (List Int)} (h:fS W B x a b l m) (hs:aY cb W W') (hb:cb<B):fS W' B x a b l m:=
 h.ac4 fun j _ q1 q2=>hs.block j q2 (by omega)
theorem fS.since {W W':World} {B x:Nat} {a b:Value} {l m:List (List Int)} (h:fS W B x a b l m) (hs:aa W W'):fS W' B x a b l m:=
 h.ac4 fun j _ q1 q2=>hs.below.block j q2
theorem fS.adN {W W':World} {B x:Nat} {a b b':Value} {l m m':List (List Int)} {T:Nat->Prop} (h:fS W B x a b l m) (hs:aa W W') (h':cy W' W.heap.size T b' m') (hB:B<=W.heap.size) (hx:x<W.heap.size):fS W' B x a b' l m':=by
 obtain⟨TN,TE,h1,h2,h3,h4,h5⟩:=h;exact⟨_,_,h1.bound.since hs,h'.bound.mono hB fun _ h=>h,fun j q1 q2=>by omega,fun j q=>h4 j q.1,fun j q=>by omega⟩
theorem fS.adO {W:World} {B x:Nat} {a b:Value} {l m:List (List Int)} (h:fS W B x a b l m):fS W B x (.slice none 0 0) b [] m:=by
 obtain⟨TN,TE,h1,h2,h3,h4,h5⟩:=h;exact⟨fun _=>False,TE,kH _ _ _,h2,fun _ h=>h.elim,fun _ h=>h.elim,h5⟩
theorem Dh {w:World} {ops:Array Oper} {rest:List Oper} {o:Oper} {a:Act} {Q:Exit->Act->World->Prop} (iz:o.guard=none) (s x:Operand)
  (ho:o.op=.call { callee:=.builtin .append,args:=#[s,x],argTypes:=#[24,24] }) {w0:World} {B pb:Nat} {v v2:Value} {l m:List (List Int)} (hs:a.eval s=v) (h:fS w0 B pb v v2 l m) (pO:aa w0 w)
  (b:Nat) (u:Value) (y:List Int) (hx:a.eval x=.slice (some ⟨b,0,none⟩) 1 1) (hc:w.cell? ⟨b,0,none⟩=some u) (hu:Own w w0.heap.size u y) (hl:l.length+1<=1000000) (uN:B<=w0.heap.size) (da:pb<w0.heap.size)
  (k:∀g cap w',fS w' B pb (.slice (some ⟨g,0,none⟩) (l.length+1) cap) v2 (l++[y]) m->Below B w w'->w.heap.size<=w'.heap.size->w'.heap[pb]?=w.heap[pb]?->wpList Tryz.prog ops Q rest (a.put o.dst (.slice (some ⟨g,0,none⟩) (l.length+1) cap)) w'):wpList Tryz.prog ops Q (o::rest) a w:=by
 obtain⟨TN,TE,h1,h2,h3,h4,h5⟩:=h;have hz:w0.heap.size<=w.heap.size:=pO.below.size;have JQ:=(h1.bound.since pO).mono (T':=fun j=>(TN j/\j<w0.heap.size)\/w0.heap.size<=j) (Nat.le_refl _) (fun j h=>.inl ⟨h.1,h.2.2⟩)
 have RE:=h2.bound.since pO
 have aC:∀j,v.ownBlock=some j->TN j/\B<=j/\j<w0.heap.size:=fun j hj=>by
  refine⟨?_,h1.lt hj⟩;obtain⟨vs,-,-,r4,-⟩:=h1;exact r4 j hj
 refine pD iz s x ho hs JQ b u y hx hc ⟨Own.mono hu uN,fun j hj=>⟨fun e=>?_,.inr (World.ownsRow.lt hu j hj).1⟩⟩ hl (by omega) (fun j hj=>.inr (by omega)) ?_
 ·have:=(aC j e).2.2
  have:=(World.ownsRow.lt hu j hj).1
  omega
 intro g cap w' q1 q2 q3 q4;refine k g cap w' ⟨_,_,q1,RE.ac4 (fun j q5 q6 q7=>?_),fun j q5 q6=>?_,fun j q5=>?_,fun j q5=>h5 j q5.1⟩ q4 q2.size (q2.block pb (by omega) fun e=>h4 pb (aC pb e.symm).1 rfl)
 ·exact q2.block j q7 fun e=>h3 j (aC j e.symm).1 q5.1
 ·rcases q5 with q5 | q5
  ·exact h3 j q5.1 q6.1
  ·omega
 ·rcases q5 with q5 | q5
  ·exact h4 j q5.1
  ·omega
theorem aT.adI {W:World} {pb:Nat} {L D:Int} {a b:Value} (h:aT W pb L D a b) (u:Int):aT (W.setCell ⟨pb,0,none⟩ (.int .i64 u)) pb u D a b:=by
 unfold aT at h ⊢
 simp[World.setCell,Array.getElem?_modify,h]
theorem aT.adJ {W:World} {pb:Nat} {L D:Int} {a b:Value} (h:aT W pb L D a b) (u:Int):aT (W.setCell ⟨pb,1,none⟩ (.int .i64 u)) pb L u a b:=by
 unfold aT at h ⊢
 simp[World.setCell,Array.getElem?_modify,h]
theorem aT.blk {W W':World} {pb:Nat} {L D:Int} {a b:Value} (h:aT W pb L D a b) (hs:W'.heap[pb]?=W.heap[pb]?):aT W' pb L D a b:=by
 unfold aT;rw[hs];exact h
theorem Pa (cb:Nat) (A:Option Addr) (L c P:Nat) (B g:Nat) (a1 a2 a3:Int) (w:World) (h:bB w cb A L c P) (hP:P<=4611686018427387000) (ho:Own w B (.slice (some ⟨g,0,none⟩) 3 3) [a1,a2,a3]) (hB:cb<B):
  Calls Tryz.prog 46 #[.pointer (some ⟨cb,0,none⟩),.slice (some ⟨g,0,none⟩) 3 3] w fun e w'=>∃x,e=.returned (.int .i64 x)/\x∈[a1,a2,a3]/\bB w' cb A L c (P+2)/\CB cb w.heap.size w w':=
 kz cb A L c P B g 3 [a1,a2,a3] w h hP ho hB (by simp) (by simp)
def Yq (cb rb pb:Nat) (A:Option Addr) (L c Q:Nat) (w0 W:World):Prop:=∃(lb dg:Int) (a b:Value) (l m:List (List Int)),aT W pb lb dg a b/\fS W (rb+1) pb a b l m/\uB ⟨lb,dg,l,m⟩/\bB W cb A L c Q/\aY cb w0 W
theorem AJ (cb:Nat) (A:Option Addr) (L c P d:Nat) (w:World) (hc:bB w cb A L c P) (hP:P<=4611686018425000000) (hd:1<=d/\d<=4):
  Calls Tryz.prog 72 #[.pointer (some ⟨cb,0,none⟩),.int .i64 d] w (AnP cb w.heap.size A L c (P+2000) w):=by
 have ia:=hc.lt;obtain⟨rb,fG⟩:∃z,z=w.heap.size:=⟨_,rfl⟩
 obtain⟨w0,ar⟩:∃z,z=w.alloc (.cells #[.int .i64 0,.int .i64 0,.slice none 0 0,.slice none 0 0] 26):=⟨_,rfl⟩
 have bu:aa w w0:=by rw[ar];exact ae _ (ad _)
 have bG:aT w0 rb 0 0 (.slice none 0 0) (.slice none 0 0):=by rw[ar,fG];exact aT.fresh _ _ _ _ _
 have eu:w0.heap.size=rb+1:=by rw[ar,fG];simp
 have cS:=zh ar;have f6:=zh bu;have eY:=zh fG;have bQ:=zh bG;have gh:=zh eu;have xi:=zh (hc.since bu);have pZ:cb<rb:=by omega
 clear ar bu bG eu hc ia
 go_enter Tryz.func72,Tryz.ntmps72
 go_upto_region 1 with(fail);rw[<- cS.out,<- eY.out];clear fG;go_wp2_with fail;refine(zC cb A L c P d w0 xi.out (by omega) hd).mono ?_;rintro e w1 ⟨a,b,p,rfl,aC,q9,jc,ky⟩
 obtain⟨A1,c1,rfl⟩:∃A c,a=.slice A p.nodes.length c:=by obtain⟨TN,TE,q1,-⟩:=aC;obtain⟨A,c,e,-⟩:=q1.form;exact⟨A,c,e⟩
 obtain⟨A2,c2,rfl⟩:∃A c,b=.slice A p.ac3.length c:=by obtain⟨TN,TE,-,q1,-⟩:=aC;obtain⟨A,c,e,-⟩:=q1.form;exact⟨A,c,e⟩
 rw[gh.out]at aC;obtain⟨lb,gX⟩:∃z,p.labels=z:=⟨_,rfl⟩
 obtain⟨dg,nw⟩:∃z,p.degree=z:=⟨_,rfl⟩
 rw[gX,nw]
 have yz:Hid (uB ⟨lb,dg,p.nodes,p.ac3⟩):=by
  have q:uB p:=q9.any hd.2;rw[<- gX,<- nw];exact q
 have H20:Hid (p.nodes.length<=20/\p.ac3.length<=20):=⟨q9.nod.1,q9.edg.1⟩
 have qp:Hid ((1:Int)<=lb/\lb<=4):=by rw[<- gX];exact q9.lab
 have AH:Hid ((1:Int)<=dg/\dg<=4):=by show _/\_;rw[<- nw,q9.deg];omega
 have ni:=zh aC;have gE:=zh jc;have lZ:=zh ky;clear aC q9 jc ky gX nw;obtain⟨ns,UY⟩:∃z,z=p.nodes:=⟨_,rfl⟩
 obtain⟨es,ca⟩:∃z,z=p.ac3:=⟨_,rfl⟩
 rw[<- UY,<- ca]at yz H20;obtain⟨pb,da⟩:∃z,z=w1.heap.size:=⟨_,rfl⟩
 obtain⟨w2,eH⟩:∃z,z=w1.alloc (.cells #[.int .i64 lb,.int .i64 dg,.slice A1 ns.length c1,.slice A2 es.length c2] 26):=⟨_,rfl⟩
 have kP:Hid (aT w2 pb lb dg (.slice A1 ns.length c1) (.slice A2 es.length c2)):=by show aT _ _ _ _ _ _;rw[eH,da];exact aT.fresh _ _ _ _ _
 have gn:Hid (aa w1 w2):=by show aa _ _;rw[eH];exact ae _ (ad _)
 have l3:Hid (w2.heap.size=pb+1):=by show _=_;rw[eH,da];simp
 have cB:Hid (rb+1<=pb):=by show _<=_;rw[da,<- gh.out];exact lZ.out.size
 have Hx2:Hid (fS w2 (rb+1) pb (.slice A1 ns.length c1) (.slice A2 es.length c2) ns es):=by
  show fS _ _ _ _ _ _ _
  rw[UY,ca]
  exact(fS.of ni.out (by rw[da];exact Nat.le_refl _)).since gn.out
 have qB:Hid (aY cb w0 w2):=aY.after (aY.trans (aY.refl _ _) lZ.out) gn.out;have py:=zh eH;have tf:=zh da;rw[<- UY,<- ca];clear eH da UY ca;go_wp2_with fail;rw[<- py.out,<- tf.out];refine(db cb A L c (P+1000) 40 w2 (gE.out.since gn.out) (by omega) (by omega)).mono ?_;rintro e w3 ⟨x,rfl,hx,xy,mB⟩;have i_:=zh xy;have BH:=zh (aY.trans qB.out mB)
 have pP:=zh (kP.out.seen mB (by have:=cB.out;omega))
 have Pb:=zh (Hx2.out.seen mB (by omega))
 have xY:Hid (pb+1<=w3.heap.size):=by show _<=_;rw[<- l3.out];exact mB.size
 have hx6:x=0\/x=1\/x=2\/x=3\/x=4\/x=5\/6<=x:=by omega
 clear xy mB hx
 go_upto_block 0 with(fail)
 go_cut []from 11 to 55 (fun wx=>Yq cb rb pb A L c (P+1010) w0 wx)
 case first=>
  obtain⟨d0,d1,d2,d3⟩:=pP.out.cells
  have zt:pb≠cb:=by have:=cB.out;omega
  have DF:Hid (rb+1<=w3.heap.size):=by show _<=_;have:=cB.out;have:=xY.out;omega
  rcases hx6 with rfl | rfl | rfl | rfl | rfl | rfl | hx6
  ·have wl:IntKind.i64.wrap (lb-1)=lb-1:=aE _ (by have:=qp.out;omega) (by have:=qp.out;omega)
   have ho:=dv w3 [0,8,9,lb-1] (by simp[maxLen]);have Ho:Hid (Own (w3.alloc (.cells #[.int .i64 0,.int .i64 8,.int .i64 9,.int .i64 (lb-1)] 3)) w3.heap.size (.slice (some ⟨w3.heap.size,0,none⟩) 4 4) [0,8,9,lb-1]):=ho;clear ho;go_wp2_with fail
   refine(kz cb A L c (P+1000+2) w3.heap.size w3.heap.size 4 [0,8,9,lb-1] _ (i_.out.since (ae _ (ad _))) (by omega) Ho.out (by have:=DF.out;omega) (by simp) (by simp)).mono ?_
   rintro e w4 ⟨x,rfl,hx,jd,j_⟩;have qg:aY cb w3 w4:=((aY.refl cb w3).after (ae _ (ad _))).trans j_;have qk:=zh qg;have kn:=zh jd
   have mw:Hid (0<=x/\x<=9):=by have:=qp.out;show _/\_;simp at hx;omega
   have Jz:=pP.out.seen qg zt;have iu:=zh Jz;clear qg j_ jd hx d0 d1 d2 d3;obtain⟨d0,d1,d2,d3⟩:=Jz.cells;have f0:=frozen_of_row w4 _ 0 _ _ Jz;clear Jz;go_wp2;go_meet
   case rel=>
    have mC:=yz.out
    exact⟨x,dg,_,_,ns,es,iu.out.adI x,(Pb.out.seen qk.out (by omega)).set 0 _,⟨mw.out,mC.deg,mC.nod,mC.edg⟩,(kn.out.mono (by omega)).ac2 fun j hj=>Below.heap_setCell _ _ _ j (by simp;have:=cB.out;omega),CB.setCell (aY.trans BH.out qk.out) (.inl (by have:=cB.out;rw[gh.out];exact this)) _⟩
  ·have wl:IntKind.i64.wrap (dg+1)=dg+1:=aE _ (by have:=AH.out;omega) (by have:=AH.out;omega)
   have ho:=dv w3 [0,5,dg+1] (by simp[maxLen]);have Ho:Hid (Own (w3.alloc (.cells #[.int .i64 0,.int .i64 5,.int .i64 (dg+1)] 3)) w3.heap.size (.slice (some ⟨w3.heap.size,0,none⟩) 3 3) [0,5,dg+1]):=ho;clear ho;go_wp2_with fail
   refine(kz cb A L c (P+1000+2) w3.heap.size w3.heap.size 3 [0,5,dg+1] _ (i_.out.since (ae _ (ad _))) (by omega) Ho.out (by have:=DF.out;omega) (by simp) (by simp)).mono ?_
   rintro e w4 ⟨x,rfl,hx,jd,j_⟩;have qg:aY cb w3 w4:=((aY.refl cb w3).after (ae _ (ad _))).trans j_;have qk:=zh qg;have kn:=zh jd
   have mw:Hid (0<=x/\x<=5):=by have:=AH.out;show _/\_;simp at hx;omega
   have Jz:=pP.out.seen qg zt;have iu:=zh Jz;clear qg j_ jd hx d0 d1 d2 d3;obtain⟨d0,d1,d2,d3⟩:=Jz.cells;have f1:=frozen_of_row w4 _ 1 _ _ Jz;clear Jz;go_wp2;go_meet
   case rel=>
    have mC:=yz.out
    exact⟨lb,x,_,_,ns,es,iu.out.adJ x,(Pb.out.seen qk.out (by omega)).set 1 _,⟨mC.lab,mw.out,mC.nod,mC.edg⟩,(kn.out.mono (by omega)).ac2 fun j hj=>Below.heap_setCell _ _ _ j (by simp;have:=cB.out;omega),CB.setCell (aY.trans BH.out qk.out) (.inl (by have:=cB.out;rw[gh.out];exact this)) _⟩
  ·have ho:=dv w3 [0,0] (by simp[maxLen]);have Hu:Hid (Own ((w3.alloc (.cells #[.int .i64 0,.int .i64 0] 3)).alloc (.cells #[.slice (some ⟨w3.heap.size,0,none⟩) 2 2] 28)) w3.heap.size (.slice (some ⟨w3.heap.size,0,none⟩) 2 2) [0,0]):=Own.since ho (ae _ (ad _))
   have Hc:Hid (((w3.alloc (.cells #[.int .i64 0,.int .i64 0] 3)).alloc (.cells #[.slice (some ⟨w3.heap.size,0,none⟩) 2 2] 28)).cell? ⟨w3.heap.size+1,0,none⟩=some (.slice (some ⟨w3.heap.size,0,none⟩) 2 2)):=by show _=_;simp[go_sem]
   have Bt:Hid (es.length+1<=1000000):=by have:=yz.out.edg.1;show _<=_;simp at this;omega
   have mo:Hid (pb<w3.heap.size):=xY.out;clear ho
   go_wp2_with (at_builtin;refine Dh rfl _ _ rfl rfl Pb.out.swap (ae _ (ae _ (ad w3))) (w3.heap.size+1) _ _ rfl Hc.out Hu.out Bt.out DF.out mo.out ?_;intro g9 Fu w9 fV ka JA VG;have hB9:=pP.out.blk (VG.trans ((ae _ (ae _ (ad w3))).below.block pb mo.out));have HB9:=zh hB9;have xl:=zh fV;have IQ:Hid (Below (rb+1) w3 w9):=Below.trans ((ae _ (ae _ (ad w3))).below.mono DF.out) ka;have k3:=hB9.cells.2.2.2;have f3:=frozen_of_row w9 _ 3 _ _ hB9;clear hB9 fV ka JA VG)
   go_meet
   case rel=>
    have mC:=yz.out
    exact⟨lb,dg,_,_,ns,es++[[0,0]],HB9.out.ac5 _,(xl.out.swap).set 3 _,⟨mC.lab,mC.deg,mC.nod,⟨by have:=H20.out.2;simp;omega,fun y hy=>by rcases List.mem_append.1 hy with h | h;exact mC.edg.2 y h;rw[List.mem_singleton]at h;rw[h];simp⟩⟩,((i_.out.ac2 fun j hj=>IQ.out.block j (by omega)).mono (by omega)).ac2 fun j hj=>Below.heap_setCell _ _ _ j (by simp;have:=cB.out;omega),CB.setCell (CB.trans BH.out (CB.of (IQ.out.mono (by rw[gh.out];omega)))) (.inl (by have:=cB.out;rw[gh.out];exact this)) _⟩
  ·have KB:Hid (ns.length+1<=1000000):=by have:=yz.out.nod.1;show _<=_;simp at this;omega
   clear d0 d1 d2 d3;go_upto_region 10 with(fail);have Ft:aT w3 pb lb dg (.slice A1 ns.length c1) (.slice A2 es.length c2):=pP.out;refine av (fun W=>aT W pb lb dg (.slice A1 ns.length c1) (.slice A2 es.length c2)) 8 [false,false,false,true,true,true,true,true] (by kernel_rfl) (by kernel_rfl) (show aT (World.drew w3) pb lb dg (.slice A1 ns.length c1) (.slice A2 es.length c2)from Ft.ac2 (ag (ad _))) ?_
   simp only[ek,dD,zT]
   iterate 3 (apply bh rfl;(intro W hW;(have k0:=hW.cells.2.2.1);go_simp;with_reducible rfl);simp only[zA])
   obtain⟨W,cA⟩:∃W,W=World.drew w3:=⟨_,rfl⟩
   rw[<- cA];have hW:=(show aT (World.drew w3) pb lb dg (.slice A1 ns.length c1) (.slice A2 es.length c2)from Ft.ac2 (ag (ad _)));rw[<- cA]at hW;have eU:=zh cA;clear cA
   refine bC (v:=?_) (ob:=?_) rfl ?_ ?_ ?_;rotate_left 2
   (go_simp;first | with_reducible rfl | (refine⟨?_,?_⟩ <;> with_reducible rfl))
   exact(hW.ac2 (ae _ (ad _)));intro wa xz Di
   replace hW:=Di
   clear Di
   have Yr:Hid (Own wa W.heap.size (.slice (some ⟨W.heap.size,0,none⟩) 3 3) [(-1:Int),0,8]):=(by show Own _ _ _ _;rw[xz];exact dv W [(-1:Int),0,8] (by simp[maxLen]))
   have mA:Hid (aa w3 wa):=(by show aa _ _;rw[xz,eU.out];exact ae _ (ag (ad _)))
   have Ys:Hid (cb<W.heap.size):=(by show _<_;rw[eU.out];show cb<w3.heap.size;have:=xY.out;have:=cB.out;omega)
   clear xz
   (try simp only[zA])
   refine Or.inl ⟨rfl,?_⟩
   go_simp
   (with_reducible refine(Pa cb A L c (P+1002) W.heap.size W.heap.size (-1) 0 8 _ (i_.out.since mA.out) (by omega) Yr.out Ys.out).mono ?_)
   rintro e W' ⟨x,rfl,hx,df,hC⟩;refine⟨_,rfl,(hW.seen hC zt),?_⟩
   replace hW:=(hW.seen hC zt)
   have HCx:Hid (aY cb w3 W'):=((aY.refl cb w3).after mA.out).trans hC;have kn:=zh df
   have JW:Hid (-1<=x/\x<=8):=(by show _/\_;simp at hx;omega)
   have Hx4:Hid (fS W' (rb+1) pb (.slice A1 ns.length c1) (.slice A2 es.length c2) ns es):=Pb.out.seen HCx.out (by omega);have Eo:Hid (rb+1<=W'.heap.size):=Nat.le_trans DF.out HCx.out.size;have abe:Hid (pb<W'.heap.size):=Nat.lt_of_lt_of_le xY.out HCx.out.size;clear hx df hC;obtain⟨w4,rfl⟩:∃z,z=W':=⟨_,rfl⟩
   (try simp only[zA])
   refine bC (v:=?_) (ob:=?_) rfl ?_ ?_ ?_;rotate_left 2
   (go_simp;first | with_reducible rfl | (refine⟨?_,?_⟩ <;> with_reducible rfl))
   exact(hW.ac2 (ae _ (ad _)));intro w5 kx oA
   replace hW:=oA
   clear oA
   have uA:Hid (Own w5 w4.heap.size (.slice (some ⟨w4.heap.size,0,none⟩) 1 1) [x]):=(by show Own _ _ _ _;rw[kx];exact dv w4 [x] (by simp[maxLen]))
   have oQ:Hid (aa w4 w5):=(by show aa _ _;rw[kx];exact ae _ (ad _))
   clear kx
   (try simp only[zA])
   refine bC (v:=?_) (ob:=?_) rfl ?_ ?_ ?_;rotate_left 2
   (go_simp;first | with_reducible rfl | (refine⟨?_,?_⟩ <;> with_reducible rfl))
   exact(hW.ac2 (ae _ (ad _)));intro w6 AG LO
   replace hW:=LO
   clear LO
   have Gt:Hid (Own w6 w4.heap.size (.slice (some ⟨w4.heap.size,0,none⟩) 1 1) [x]):=(by show Own _ _ _ _;rw[AG];exact uA.out.since (ae _ (ad _)))
   have Tc:Hid (w6.cell? ⟨w5.heap.size,0,none⟩=some (.slice (some ⟨w4.heap.size,0,none⟩) 1 1)):=(by show _=_;rw[AG];simp)
   have Gu:Hid (aa w4 w6):=(by show aa _ _;rw[AG];exact ae _ oQ.out)
   clear AG
   (try simp only[zA])
   refine c_ (fun Q' HQ=>?_)
   (refine Dh rfl _ _ rfl rfl Hx4.out Gu.out w5.heap.size _ _ rfl Tc.out Gt.out KB.out Eo.out abe.out ?_);intro g9 Fu w9 fV ka JA VG;refine HQ _ _ (hW.blk VG) ?_;have xl:=zh fV;have IQ:Hid (Below (rb+1) w4 w9):=Below.trans (Gu.out.below.mono Eo.out) ka;replace hW:=hW.blk VG;clear fV ka JA VG
   (try simp only[zA])
   simp only[bj];have HB9:=zh hW;have k2:=hW.cells.2.2.1;have f2:=frozen_of_row w9 _ 2 _ _ hW;clear hW Ft;go_wp2;go_meet
   case rel=>
    have mC:=yz.out;have uQ:=JW.out
    exact⟨lb,dg,_,_,ns++[[x]],es,HB9.out.ady _,(xl.out).set 2 _,⟨mC.lab,mC.deg,⟨by have:=H20.out.1;simp;omega,fun y hy=>by rcases List.mem_append.1 hy with h | h;exact mC.nod.2 y h;rw[List.mem_singleton]at h;rw[h];simp;omega⟩,mC.edg⟩,((kn.out.ac2 fun j hj=>IQ.out.block j (by omega)).mono (by omega)).ac2 fun j hj=>Below.heap_setCell _ _ _ j (by simp;have:=cB.out;omega),CB.setCell (CB.trans (aY.trans BH.out HCx.out) (CB.of (IQ.out.mono (by rw[gh.out];omega)))) (.inl (by have:=cB.out;rw[gh.out];exact this)) _⟩
  ·have ho:=dv w3 [1,0] (by simp[maxLen]);have aD:=ti (w3.alloc (.cells #[.int .i64 1,.int .i64 0] 3)) w3.heap.size _ _ ho (by simp)
   have ch:Hid (cy ((w3.alloc (.cells #[.int .i64 1,.int .i64 0] 3)).alloc (.cells #[.slice (some ⟨w3.heap.size,0,none⟩) 2 2] 28)) w3.heap.size (fun j=>j<=(w3.alloc (.cells #[.int .i64 1,.int .i64 0] 3)).heap.size) (.slice (some ⟨w3.heap.size+1,0,none⟩) 1 1) [[1,0]]):=(by show cy _ _ _ _ _;simpa using aD)
   have VC:aa w3 ((w3.alloc (.cells #[.int .i64 1,.int .i64 0] 3)).alloc (.cells #[.slice (some ⟨w3.heap.size,0,none⟩) 2 2] 28)):=ae _ (ae _ (ad w3));have hBB:=pP.out.ac2 VC;have VD:=zh VC;have HBB:=zh hBB;have mo:Hid (pb<w3.heap.size):=xY.out;have k3:=hBB.cells.2.2.2;have f3:=frozen_of_row _ _ 3 _ _ hBB;clear ho aD VC hBB d0 d1 d2 d3;go_wp2;go_meet
   case rel=>
    have mC:=yz.out
    exact⟨lb,dg,_,_,ns,[[1,0]],HBB.out.ac5 _,(fS.adN Pb.out VD.out ch.out DF.out mo.out).set 3 _,⟨mC.lab,mC.deg,mC.nod,⟨by simp,fun y hy=>by rw[List.mem_singleton]at hy;rw[hy];simp⟩⟩,((i_.out.since VD.out).mono (by omega)).ac2 fun j hj=>Below.heap_setCell _ _ _ j (by simp;have:=cB.out;omega),CB.setCell (aY.after BH.out VD.out) (.inl (by have:=cB.out;rw[gh.out];exact this)) _⟩
  ·have f2:=frozen_of_row w3 _ 2 _ _ pP.out;go_wp2;go_meet
   case rel=>
    have mC:=yz.out
    exact⟨lb,dg,_,_,[],es,pP.out.ady _,(Pb.out.adO).set 2 _,⟨mC.lab,mC.deg,⟨by simp,by simp⟩,mC.edg⟩,(i_.out.mono (by omega)).ac2 fun j hj=>Below.heap_setCell _ _ _ j (by simp;have:=cB.out;omega),CB.setCell BH.out (.inl (by have:=cB.out;rw[gh.out];exact this)) _⟩
  ·have g0:((x:Int)=0)=False:=by simp;omega
   have g1:((x:Int)=1)=False:=by simp;omega
   have g2:((x:Int)=2)=False:=by simp;omega
   have g3:((x:Int)=3)=False:=by simp;omega
   have g4:((x:Int)=4)=False:=by simp;omega
   have g5:((x:Int)=5)=False:=by simp;omega
   clear d0 d1 d2 d3;go_wp2;go_meet
   case rel=>exact⟨lb,dg,_,_,ns,es,pP.out,Pb.out,yz.out,i_.out.mono (by omega),BH.out⟩
 case rest=>
  obtain⟨lx,dx,a,b,l,m,hb,hx,mC,df,hS⟩:=hcut
  obtain⟨A3,c3,rfl⟩:∃A c,a=.slice A l.length c:=by obtain⟨TN,TE,q1,-⟩:=hx;obtain⟨A,c,e,-⟩:=q1.form;exact⟨A,c,e⟩
  obtain⟨A4,c4,rfl⟩:∃A c,b=.slice A m.length c:=by obtain⟨TN,TE,-,q1,-⟩:=hx;obtain⟨A,c,e,-⟩:=q1.form;exact⟨A,c,e⟩
  obtain⟨wx,rfl⟩:∃z,z=wc:=⟨_,rfl⟩
  have gW:=bQ.out.seen hS (by omega);obtain⟨e0,e1,e2,e3⟩:=hb.cells;obtain⟨d0,d1,d2,d3⟩:=gW.cells;have f0:=frozen_of_row wx _ 0 _ _ gW;have f1:=frozen_of_row wx _ 1 _ _ gW;have f2:=frozen_of_row wx _ 2 _ _ gW;have f3:=frozen_of_row wx _ 3 _ _ gW;have Hx:=zh hx;have Ha:=zh mC;have nt:=zh df;have HS:=zh hS;clear gW hb hx mC df hS;go_wp2;refine bodyPost_ret (v:=.agg #[.int .i64 lx,.int .i64 dx,.slice A3 l.length c3,.slice A4 m.length c4]) (by simp[results,Tryz.results72,go_sem, *]) rfl ?_
  have ct:∀j,j≠rb->((((wx.setCell ⟨rb,0,none⟩ (.int .i64 lx)).setCell ⟨rb,1,none⟩ (.int .i64 dx)).setCell ⟨rb,2,none⟩ (.slice A3 l.length c3)).setCell ⟨rb,3,none⟩ (.slice A4 m.length c4)).heap[j]?=wx.heap[j]?:=fun j h1=>by
   repeat rw[Below.heap_setCell _ _ _ j (by simp;omega)]
  refine⟨_,_,⟨lx,dx,l,m⟩,rfl,(eZ.ac4 (Hx.out.own lx dx) fun j q1 q2=>ct j (by omega)).mono (by rw[<- eY.out];omega),Ha.out,(nt.out.mono (by omega)).ac2 (fun j hj=>ct j (by omega)),?_⟩
  rw[<- eY.out]
  exact(((((CB.of (f6.out.below.mono (by rw[eY.out];exact Nat.le_refl _))).trans (HS.out.mono (by rw[gh.out];omega))).setCell (.inl (by simp)) _).setCell (.inl (by simp)) _).setCell (.inl (by simp)) _).setCell (.inl (by simp)) _
section
variable {P : Program} {ops : Array Oper}
end
structure Ob (bo:Nat) (wa W:World) (ve vi vn:Value) (N:aw) (S:List Nat):Prop where
 own:au W wa.heap.size ve vi vn N S
 box:aZ W bo ve vi vn
 nb:bo∉S
 bb:wa.heap.size<=bo
 since:aa wa W
section
variable {bo : Nat} {wa W : World} {ve vi vn : Value} {N : aw} {S : List Nat}
theorem Ob.ac2 {W':World} (h:Ob bo wa W ve vi vn N S) (hs:aa W W'):Ob bo wa W' ve vi vn N S:=
 ⟨h.own.ac2 hs.below,h.box.below hs h.box.lt,h.nb,h.bb,h.since.after hs⟩
theorem Ob.change {W':World} {N':aw} {S':List Nat} (h:Ob bo wa W ve vi vn N S) (ho:au W' wa.heap.size ve vi vn N' S') (hS:∀j∈S',j∈S\/W.heap.size<=j) (ey:aR S W W'):Ob bo wa W' ve vi vn N' S':=
 ⟨ho,h.box.blk (ey.block _ h.box.lt h.nb),fun hj=>by
  rcases hS _ hj with h1 | h1
  ·exact h.nb h1
  ·have:=h.box.lt;omega,h.bb,aR.since h.since ey (fun j hj=>(h.own.range j hj).1)⟩
theorem Ob.row {g m c k:Nat} {W8:World} {u:Value} {x:List (Int×Int)} {T:List Nat} (h:Ob bo wa W (.slice (some ⟨g,0,none⟩) m c) vi vn N S) (hs:aa W W8) (ho:eq W8 W.heap.size u x T) (hk:k<N.ends.length):
  W8.frozen? ⟨g,k,none⟩=false/\(∃z,W8.cell? ⟨g,k,none⟩=some z)/\∃S',Ob bo wa (W8.setCell ⟨g,k,none⟩ u) (.slice (some ⟨g,0,none⟩) m c) vi vn { N with ends:=N.ends.set k x } S':=by
 have h8:=h.ac2 hs;obtain⟨x0,qz⟩:=ay N.ends k hk;obtain⟨u0,T0,hu,hf,-,-,-,uI,-⟩:=h8.own.ade qz;have hr:=fun j hj=>fY.range ho j hj
 obtain⟨S',h1,h2⟩:=h8.own.ads k (fY.mono ho h.since.below.size) (fun j hj Oh=>by have:=(hr j hj).1;have:=(h.own.range j Oh).2;omega)
 refine⟨hf,⟨_,hu⟩,S',h.change h1 (fun j hj=>?_) ((aR.ac7 hs.below).setCell (.inl uI) _)⟩
 rcases h2 j hj with h3 | h3
 ·exact .inl h3
 ·exact .inr (hr j h3).1
theorem Ob.adp {g m c k:Nat} (h:Ob bo wa W ve vi (.slice (some ⟨g,0,none⟩) m c) N S) (x:Int) (hk:k<N.ac1.length):
  W.frozen? ⟨g,k,none⟩=false/\(∃z,W.cell? ⟨g,k,none⟩=some z)/\Ob bo wa (W.setCell ⟨g,k,none⟩ (.int .i64 x)) ve vi (.slice (some ⟨g,0,none⟩) m c) { N with ac1:=N.ac1.set k x } S:=by
 obtain⟨h1,h2,h3⟩:=h.own.adp x hk;exact⟨h2,h.own.adu hk,h.change h3 (fun j hj=>.inl hj) ((aR.refl _ _).setCell (.inl h1) _)⟩
theorem Ob.ada {g m c k j:Nat} {es:List (Int×Int)} (h:Ob bo wa W (.slice (some ⟨g,0,none⟩) m c) vi vn N S) (hx:N.ends[k]?=some es) (hj:j<es.length):
  ∃gr cr,W.cell? ⟨g,k,none⟩=some (.slice (some ⟨gr,0,none⟩) es.length cr)/\es.length<=cr/\cr<=maxLen/\W.frozen? ⟨gr,j*2,none⟩=false/\W.frozen? ⟨gr,j*2+1,none⟩=false/\(∃z,W.cell? ⟨gr,j*2,none⟩=some z)/\(∃z,W.cell? ⟨gr,j*2+1,none⟩=some z) /\
   ∀y:Int×Int,Ob bo wa ((W.setCell ⟨gr,j*2,none⟩ (.int .i64 y.1)).setCell ⟨gr,j*2+1,none⟩ (.int .i64 y.2)) (.slice (some ⟨g,0,none⟩) m c) vi vn { N with ends:=N.ends.set k (es.set j y) } S/\aR S W ((W.setCell ⟨gr,j*2,none⟩ (.int .i64 y.1)).setCell ⟨gr,j*2+1,none⟩ (.int .i64 y.2)):=by
 obtain⟨gr,cr,h1,h2,h3,-,h4,-,⟨f0,f1⟩,c0,c1,bH⟩:=h.own.ada hx hj;exact⟨gr,cr,h1,h2,h3,f0,f1,c0,c1,fun y=>⟨h.change (bH y) (fun q hq=>.inl hq) (((aR.refl _ _).setCell (.inl h4) _).setCell (.inl h4) _),((aR.refl _ _).setCell (.inl h4) _).setCell (.inl h4) _⟩⟩
end
structure acf (n:aw) (t:Nat) (N:aw):Prop where
 ends:N.ends.length=2*n.ends.length
 ac1:N.ac1.length=2*n.ends.length
 ids:N.ids.length=0
 row:∀(j:Nat) (fs:List (Int×Int)),N.ends[j]?=some fs->fs.length<=100/\(j<t->fs.length=(be n (j/2)).length)
def Yt (w:World) (T:aw->Prop) (e:Ending) (w':World):Prop:=∃ve vi vn N S,e=.returned (.agg #[ve,vi,vn])/\au w' w.heap.size ve vi vn N S/\T N/\Below w.heap.size w w'
theorem nL.blk {W:World} {base g m c:Nat} {L:List Ed} (h:nL W base (.slice (some ⟨g,0,none⟩) m c) L):base<=g:=by
 obtain⟨bs,-,h2,-⟩:=h;exact(World.ownsRow.lt h2 g (by simp[Value.ownBlock])).1
end Go.Proofs.YtnioemnkfojmkaaGreat
