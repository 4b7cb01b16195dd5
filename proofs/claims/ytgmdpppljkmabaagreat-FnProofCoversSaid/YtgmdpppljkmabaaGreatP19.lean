/- Parts of the proof: walks of functions and plain laws. -/
import Derived.Test.YtgmdpppljkmabaaGreatP0
import Derived.Test.YtgmdpppljkmabaaGreatP18
import Derived.Test.YtgmdpppljkmabaaGreatP6
import Derived.Test.YtgmdpppljkmabaaGreatP10
import Derived.Test.YtgmdpppljkmabaaGreatP11
import Derived.Test.YtgmdpppljkmabaaGreatP12
set_option maxRecDepth 100000
set_option maxHeartbeats 16000000
namespace Go.Proofs.YtgmdpppljkmabaaGreat
open Go Go.RowKit
theorem tv (cb:Nat) (A:Option Addr) (L c P:Nat) (B g q m:Nat) (xs:List Int) (w:World) (hm:xs.length=m) (h:cG w cb A L c P) (hP:P<=4611686018427387000) (ho:Own w B (.slice (some ⟨g,0,none⟩) m q) xs) (hB:cb<B) (hx:1<=xs.length) (sa:xs.length<=1048576):
  Calls Tryz.prog 68 #[.pointer (some ⟨cb,0,none⟩),.slice (some ⟨g,0,none⟩) m q] w fun e w'=>∃x,e=.returned (.int .i64 x)/\x∈xs/\cG w' cb A L c (P+2)/\CB cb w.heap.size w w':=by
 subst hm;exact FN cb A L c P B g q xs w h hP ho hB hx sa
section
variable {cb pb : Nat} {A : Option Addr} {L c P : Nat} {w W : World} {ve vi vn : Value} {N : aj} {S : List Nat}
theorem Br.acz {g m d k:Nat} (h:Br cb pb A L c P w W ve vi (.slice (some ⟨g,0,none⟩) m d) N S) (x:Int) (hk:k<N.acn.length):
  W.frozen? ⟨g,k,none⟩=false/\(∃z,W.cell? ⟨g,k,none⟩=some z)/\Br cb pb A L c P w (W.setCell ⟨g,k,none⟩ (.int .i64 x)) ve vi (.slice (some ⟨g,0,none⟩) m d) { N with acn:=N.acn.set k x } S:=by
 obtain⟨h1,h2,h3⟩:=h.mb.own.acz x hk;exact⟨h2,h.mb.own.acL hk,h.own h3 (fun j hj=>.inl hj) ((aX.refl _ _).setCell (.inl h1) _)⟩
theorem Br.ac0 {g m d k:Nat} (h:Br cb pb A L c P w W ve (.slice (some ⟨g,0,none⟩) m d) vn N S) (x:Int) (hk:k<N.ids.length):
  W.frozen? ⟨g,k,none⟩=false/\(∃z,W.cell? ⟨g,k,none⟩=some z)/\∃S',Br cb pb A L c P w (W.setCell ⟨g,k,none⟩ (.int .i64 x)) ve (.slice (some ⟨g,0,none⟩) m d) vn { N with ids:=N.ids.set k x } S':=by
 obtain⟨⟨ho,-⟩,hs⟩:=h.mb.acx;obtain⟨y,hy⟩:=aA N.ids k hk;have eH:aX (Value.slice (some ⟨g,0,none⟩) m d).ownBlock.toList W (W.setCell ⟨g,k,none⟩ (.int .i64 x)):=(aX.refl _ _).setCell (.inl (by simp[Value.ownBlock])) _;obtain⟨S',h1,h2⟩:=h.mb.own.acG (vi':=.slice (some ⟨g,0,none⟩) m d) ⟨ho.set (k:=k) x,rfl⟩ eH (fun j hj=>.inl hj)
 exact⟨ho.free k,⟨_,ho.cell hy⟩,S',h.own h1 h2 (eH.mono hs)⟩
theorem Br.acD {g m d k:Nat} {xs:List (Int×Int)} (h:Br cb pb A L c P w W (.slice (some ⟨g,0,none⟩) m d) vi vn N S) (hx:N.ends[k]?=some xs) (h0:0<xs.length):
  ∃gr cr,W.cell? ⟨g,k,none⟩=some (.slice (some ⟨gr,0,none⟩) xs.length cr)/\W.frozen? ⟨gr,0,none⟩=false/\W.frozen? ⟨gr,1,none⟩=false/\(∃z,W.cell? ⟨gr,0,none⟩=some z)/\(∃z,W.cell? ⟨gr,1,none⟩=some z) /\
   (∀x:Int,∃y,Br cb pb A L c P w (W.setCell ⟨gr,0,none⟩ (.int .i64 x)) (.slice (some ⟨g,0,none⟩) m d) vi vn { N with ends:=N.ends.set k (xs.set 0 y) } S) /\
   (∀x:Int,∃y,Br cb pb A L c P w (W.setCell ⟨gr,1,none⟩ (.int .i64 x)) (.slice (some ⟨g,0,none⟩) m d) vi vn { N with ends:=N.ends.set k (xs.set 0 y) } S):=by
 obtain⟨gr,cr,h1,h2,f0,f1,c0,c1,a,b⟩:=h.mb.own.setPort hx h0;refine⟨gr,cr,h1,f0,f1,c0,c1,fun x=>?_,fun x=>?_⟩
 ·obtain⟨y,hy⟩:=a x;exact⟨y,h.own hy (fun j hj=>.inl hj) ((aX.refl _ _).setCell (.inl h2) _)⟩
 ·obtain⟨y,hy⟩:=b x;exact⟨y,h.own hy (fun j hj=>.inl hj) ((aX.refl _ _).setCell (.inl h2) _)⟩
end
theorem Bd.more {n:aj} (h:Bd n) (h1:n.ends.length<=60) (h2:n.acn.length<=60):Bd { n with ends:=n.ends++[[]],acn:=n.acn++[0] }:=by
 refine⟨by simp;omega,fun k es he=>?_,h.ids,by simp;omega⟩
 have he:(n.ends++[[]])[k]?=some es:=he;rw[List.getElem?_append]at he
 split at he
 ·exact h.row k es he
 ·have:es=[]:=by
   have h3:=List.mem_of_getElem? he;simpa using h3
  rw[this];simp
def nX:Option Value->Nat
 | some (.slice _ n _)=>n
 | _=>0
theorem q_ {w:World} {B:Nat} (xs:List Int) {v:Value} {o:Obj} (ho:o=.cells (xs.map (Value.int .i64)).toArray 3) (hv:v=.slice (some ⟨w.heap.size,0,none⟩) xs.length xs.length) (hl:xs.length<=1000) (hB:B<=w.heap.size):Own (w.alloc o) B v xs:=by
 subst ho hv
 exact(fD w xs (by unfold maxLen;omega)).mono hB
theorem Ch (cb:Nat) (A:Option Addr) (L c P R M:Nat) (ve vi vn:Value) (n:aj) (w:World) (hc:cG w cb A L c P) (hP:P<=4400000000000000000) (h:aC w ve vi vn n) (hg:Gd R M n) (Z9:0<n.ends.length) (hR:R<=100) (hM:M<=40):
  Calls Tryz.prog 129 #[.pointer (some ⟨cb,0,none⟩),.agg #[ve,vi,vn]] w (sR cb w.heap.size A L c (P+3000) w Bd):=by
 have aca:n.ends.length<=40:=Nat.le_trans hg.ends hM;have pO:Hid (n.acn.length=n.ends.length):=hg.acn
 have FV:∀(k:Nat) (es:List (Int×Int)),n.ends[k]?=some es->es.length<=100:=fun k es he=>by have:=hg.row k es he;omega
 have Oc:=zh FV;have HM:=zh hM;have el:=zh (hg.bd (by omega) (by omega));have hM2:M<=100:=by omega
 clear FV hM;have ig:=hc.lt;obtain⟨A1,c1,rfl,-,ru,-⟩:=id h.1;obtain⟨AI,cI,rfl,-,-,-⟩:=id h.2.1;obtain⟨AN,cN,rfl,-,-,-⟩:=id h.2.2;obtain⟨pb,fb⟩:∃z,z=w.heap.size:=⟨_,rfl⟩
 obtain⟨w0,bQ⟩:∃z,z=w.alloc (.cells #[.slice A1 n.ends.length c1,.slice AI n.ids.length cI,.slice AN n.acn.length cN] 27):=⟨_,rfl⟩
 obtain⟨wa,jC⟩:∃z,z=w0.alloc (.cells #[.slice none 0 0,.slice none 0 0,.slice none 0 0] 27):=⟨_,rfl⟩
 have aU:ab w w0:=by rw[bQ];exact ad _ (aa _)
 have dr:ab w0 wa:=by rw[jC];exact ad _ (aa _)
 have kY:w0.heap.size=w.heap.size+1:=by rw[bQ];simp
 have lV:aY w0 pb (.slice A1 n.ends.length c1) (.slice AI n.ids.length cI) (.slice AN n.acn.length cN):=by rw[bQ,fb];exact aY.new _ _ _ _ _
 have IX:=lV.below dr (by rw[kY,fb];omega)
 have iy:aS wa (pb+1) (.slice none 0 0) (.slice none 0 0) (.slice none 0 0):=by
  rw[jC,fb,<- kY];show(w0.heap.push _)[w0.heap.size]?=_
  rw[Array.getElem?_push_size]
 have CI:ab w wa:=aU.after dr
 have eO:Hid (cb<pb/\pb+2=wa.heap.size/\pb=w.heap.size):=⟨by omega,by rw[fb,jC];simp;omega,fb⟩
 have Q9:=zh CI;have iH:=zh iy;have Rw:=zh IX;have Hca:=zh (hc.since CI);have HNa:=zh (h.keep CI.below);have Hg:=zh hg;have bS:=zh bQ;have Bx:=zh jC;have dT:=IX.cells
 have H9:n.ends.length<=100:=by have:=hg.ends;omega
 clear hc h aU dr lV iy CI IX hg bQ jC fb kY
 go_enter Tryz.func129,Tryz.ntmps129
 go_upto_region 1 with(fail);rw[<- bS.out,<- Bx.out,<- eO.out.2.2];obtain⟨x0,x1,x2,f0,f1,f2⟩:=dT;go_wp2_with fail
 refine(j6 _ _ _ n wa HNa.out (by omega) (fun k es he=>by have:=Hg.out.row k es he;omega) (Hg.out.small hR hM2).sz).mono ?_
 rintro e w1 ⟨ue,ui,un,S0,rfl,ho,aN⟩;have dr:ab wa w1:=aN;obtain⟨E1,e1,rfl,-,-,-⟩:=id ho.read.1;obtain⟨EI,eI,rfl,-,-,-⟩:=id ho.read.2.1;obtain⟨EN,eN,rfl,-,-,-⟩:=id ho.read.2.2;clear x0 x1 x2 f0 f1 f2;have w_:=Rw.out.below dr Rw.out.lt;obtain⟨x0,x1,x2,f0,f1,f2⟩:=w_.cells
 have Mq:pb∉S0:=fun hj=>by have h1:=(ho.range _ hj).1;have h2:=eO.out;omega
 have iE:Mb cb w.heap.size pb A L c P w (acr w1 pb (.slice E1 n.ends.length e1) (.slice EI n.ids.length eI) (.slice EN n.acn.length eN)) (.slice E1 n.ends.length e1) (.slice EI n.ids.length eI) (.slice EN n.acn.length eN) n S0:=by
  have h0:=eO.out
  refine⟨(ho.aco (fun k hk=>dY _ _ _ _ _ (fun e=>Mq (by have e':k=pb:=e;exact e' ▸ hk)))).mono (by omega),w_.acr _ _ _,Mq,((Hca.out.since dr).keep (fun k hk=>dY _ _ _ _ _ (by omega))),?_⟩
  exact((((CB.of (Q9.out.after dr).below).mono (Nat.le_refl _)).setCell (p:=⟨pb,0,none⟩) (.inl (by show _<=pb;omega)) _).setCell (p:=⟨pb,1,none⟩) (.inl (by show _<=pb;omega)) _).setCell (p:=⟨pb,2,none⟩) (.inl (by show _<=pb;omega)) _
 have sM:aS (acr w1 pb (.slice E1 n.ends.length e1) (.slice EI n.ids.length eI) (.slice EN n.acn.length eN)) (pb+1) (.slice none 0 0) (.slice none 0 0) (.slice none 0 0):=(dY _ _ _ _ _ (by omega)).trans (iH.out.since dr)
 have dh:wa.heap.size<=(acr w1 pb (.slice E1 n.ends.length e1) (.slice EI n.ids.length eI) (.slice EN n.acn.length eN)).heap.size:=by rw[fX];exact dr.below.size
 have jU:pb+1∉S0:=fun hj=>by have h1:=(ho.range _ hj).1;have h2:=eO.out;omega
 have Ej:=zh iE;have CZ:=zh sM;have IH:=zh dh;have kG:=zh jU;have Hfz:=zh (And.intro f0 (And.intro f1 f2));clear iE sM dh jU ho aN dr w_ Mq;go_upto_region 2 with(fail);obtain⟨w2,iY⟩:∃z,z=((w1.setCell ⟨pb,0,none⟩ (.slice E1 n.ends.length e1)).setCell ⟨pb,1,none⟩ (.slice EI n.ids.length eI)).setCell ⟨pb,2,none⟩ (.slice EN n.acn.length eN):=⟨_,rfl⟩
 rw[<- iY]
 have kz:Hid (Mb cb w.heap.size pb A L c P w w2 (.slice E1 n.ends.length e1) (.slice EI n.ids.length eI) (.slice EN n.acn.length eN) n S0):=by show Mb _ _ _ _ _ _ _ _ _ _ _ _ _ _;rw[iY];exact Ej.out
 have Tc:Hid (aS w2 (pb+1) (.slice none 0 0) (.slice none 0 0) (.slice none 0 0)):=by show aS _ _ _ _ _;rw[iY];exact CZ.out
 have Gk:Hid (wa.heap.size<=w2.heap.size):=by show _<=_;rw[iY];exact IH.out
 have sG:Hid (Br cb pb A L c P w w2 (.slice E1 n.ends.length e1) (.slice EI n.ids.length eI) (.slice EN n.acn.length eN) n S0):=by show Br _ _ _ _ _ _ _ _ _ _ _ _ _;exact⟨kz.out,Tc.out,kG.out,eO.out.2.2,eO.out.1⟩
 clear iY Ej CZ IH Hfz x0 x1 x2 f0 f1 f2 kz Tc Gk;obtain⟨g,rfl,-⟩:=sG.out.mb.own.head Z9
 obtain⟨gN,rfl⟩:=sG.out.mb.own.acP (by have:=pO.out;omega)
 have gX:pb≠cb:=by have:=eO.out;omega
 obtain⟨k0,-,-,-,-,-⟩:=sG.out.mb.box.cells;go_wp2_with fail;refine(db cb A L c P (n.ends.length:Int) w2 sG.out.mb.cur (by omega) (by omega)).mono ?_;rintro e w3 ⟨v,rfl,hv,vw,k7⟩;have CF:v<n.ends.length:=by omega
 have hvi:v<n.acn.length:=by have:=pO.out;omega
 have FL:=zh (sG.out.seen k7 vw);clear vw k7 hv k0;go_wp2_with fail;refine(db cb A L c (P+2) 40 w3 FL.out.mb.cur (by omega) (by omega)).mono ?_;rintro e w4 ⟨x,rfl,hx,nA,nU⟩;have kP:=zh (FL.out.seen nU nA);clear nA nU hx;obtain⟨xv,pE⟩:∃x,x=cH n v:=⟨_,rfl⟩
 have mC:=cD CF;rw[<- pE]at mC;have SX:=zh mC;have uW:=zh (Oc.out _ _ mC)
 have NN:g≠cb:=fun e=>by
  obtain⟨gr,Tr,-,-,-,-,-,Dh,-⟩:=kP.out.mb.own.acw mC;have h1:=(kP.out.mb.own.range _ Dh).1;have h2:=eO.out;omega
 clear mC pE;rcases(show x=0\/x=1\/x=2\/x=3\/x=4\/x=5\/x=6\/x=7\/x=8\/9<=x by omega)with rfl | rfl | rfl | rfl | rfl | rfl | rfl | rfl | rfl | h9
 ·go_upto_region 5 with(fail);refine ax (fun W=>W.cell? ⟨pb,2,none⟩=some (.slice (some ⟨gN,0,none⟩) n.acn.length eN)) 6 [false,false,false,false,true,true] (by kernel_rfl) (by kernel_rfl) (show(World.drew w4).cell? ⟨pb,2,none⟩=some (.slice (some ⟨gN,0,none⟩) n.acn.length eN)from kP.out.mb.box.cells.2.2.1) ?_
  simp only[er,dS,zT]
  iterate 4 (apply bs rfl;(intro W hW;(have k0:=hW);go_simp;with_reducible rfl);simp only[zA])
  obtain⟨W,cS⟩:∃W,W=World.drew w4:=⟨_,rfl⟩
  rw[<- cS];have hW:=(show(World.drew w4).cell? ⟨pb,2,none⟩=some (.slice (some ⟨gN,0,none⟩) n.acn.length eN)from kP.out.mb.box.cells.2.2.1);rw[<- cS]at hW;have eY:=zh cS;clear cS
  refine ch (v:=?_) (ob:=?_) rfl ?_ ?_ ?_;rotate_left 2
  (go_simp;first | with_reducible rfl | (refine⟨?_,?_⟩ <;> with_reducible rfl))
  exact bc (ai _ _) hW;intro w5 kM nf
  replace hW:=nf
  clear nf
  have Me:ab w4 w5:=(by rw[kM,eY.out];exact ad _ (ah (aa _)))
  have CS:=zh ((kP.out).since Me)
  have Jy:Hid (Own w5 w4.heap.size (.slice (some ⟨w4.heap.size,0,none⟩) 3 3) [-1,9,10]):=(by show Own _ _ _ _;rw[kM,eY.out];exact q_ [-1,9,10] rfl rfl (by simp) (Nat.le_refl _))
  have RE:cb<w4.heap.size:=(kP.out).mb.cur.lt
  rw[show W.heap.size=w4.heap.size from by rw[eY.out];rfl]
  clear kM Me
  (try simp only[zA])
  refine Or.inl ⟨rfl,?_⟩
  go_simp
  (with_reducible refine(tv cb A L c (P+4) w4.heap.size w4.heap.size 3 3 [-1,9,10] _ rfl CS.out.mb.cur (by omega) Jy.out RE (by simp) (by simp)).mono ?_)
  rintro e W' ⟨a,rfl,ha,eQ,hC⟩;refine⟨_,rfl,au hW gX _ hC,?_⟩
  replace hW:=au hW gX _ hC
  have IZ:=zh (CS.out.seen hC eQ);clear eQ hC ha
  (try simp only[zA])
  simp only[bh]
  obtain⟨f9,⟨z9,c9⟩,sA⟩:=IZ.out.acz (k:=v) a (by have:=pO.out;omega)
  have k_:=zh sA;clear sA;go_upto_region 29 with(fail);obtain⟨w7,pI⟩:∃z,z=W'.setCell ⟨gN,v,none⟩ (.int .i64 a):=⟨_,rfl⟩
  rw[<- pI];rw[<- pI]at k_;clear pI hW c9 f9;obtain⟨k0,k1,k2,-,-,-⟩:=(k_.out).mb.box.cells;obtain⟨e0,Ee,e2,f0,f1,f2⟩:=(k_.out).rb.box.cells;have bZ:=zh (k_.out).ret;go_wp2;refine bodyPost_ret (v:=.agg #[.slice (some ⟨g,0,none⟩) n.ends.length e1,.slice EI n.ids.length eI,.slice (some ⟨gN,0,none⟩) n.acn.length eN]) (by simp[results,Tryz.results129,go_sem, *]) rfl ?_;obtain⟨r1,r2,r3⟩:=bZ.out
  exact⟨_,_,_,_,_,rfl,r1,⟨el.out.ends,el.out.row,el.out.ids,by show(List.set _ _ _).length<=_;rw[List.length_set];exact el.out.acn⟩,r2.mono (by omega),r3⟩
 ·have jT:ab w4 (w4.alloc (.cells #[.int .i64 0] 3)):=ad _ (aa _);have CS:=zh (kP.out.since jT);clear jT;obtain⟨k0,k1,k2,f0,f1,f2⟩:=kP.out.mb.box.cells
  go_upto_region 29 with(at_builtin;refine fY (base:=w.heap.size) rfl _ _ rfl rfl CS.out.mb.acS.1.1 rfl (nV _ _) (by have:=el.out.acn;simp;omega) CS.out.sz ?_;intro v' w6 T dB sP WG;obtain⟨V,mV,cV,rfl⟩:=gm.one dB;obtain⟨EF,S6,sA⟩:=CS.out.acO dB sP WG;clear k0 k1 k2 f0 f1 f2 dB sP WG;obtain⟨k0,k1,k2,f0,f1,f2⟩:=EF.cells;have k_:=zh sA;clear EF sA)
  obtain⟨w7,pI⟩:∃z,z=w6.setCell ⟨pb,2,none⟩ (.slice V mV cV):=⟨_,rfl⟩
  rw[<- pI];rw[<- pI]at k_;clear pI k0 k1 k2 f0 f1 f2;obtain⟨k0,k1,k2,-,-,-⟩:=(k_.out).mb.box.cells;obtain⟨e0,Ee,e2,f0,f1,f2⟩:=(k_.out).rb.box.cells;have bZ:=zh (k_.out).ret;go_wp2;refine bodyPost_ret (v:=.agg #[.slice (some ⟨g,0,none⟩) n.ends.length e1,.slice EI n.ids.length eI,.slice V mV cV]) (by simp[results,Tryz.results129,go_sem, *]) rfl ?_;obtain⟨r1,r2,r3⟩:=bZ.out
  exact⟨_,_,_,_,_,rfl,r1,⟨el.out.ends,el.out.row,el.out.ids,by have:=pO.out;simp;omega⟩,r2.mono (by omega),r3⟩
 ·have hx:=SX.out
  by_cases lp:0<xv.length
  ·obtain⟨gr,cr,Dn,-,-,-,-,-,-⟩:=kP.out.acD hx lp
   have e0:((0:Int)<(xv.length:Int))=True:=by simp;omega
   obtain⟨k0,-,-,-,-,-⟩:=kP.out.mb.box.cells;go_upto_region 10 with(fail);refine ax (fun W=>W.cell? ⟨pb,0,none⟩=some (.slice (some ⟨g,0,none⟩) n.ends.length e1)/\W.cell? ⟨g,v,none⟩=some (.slice (some ⟨gr,0,none⟩) xv.length cr)) 8 [false,false,false,false,false,false,true,true] (by kernel_rfl) (by kernel_rfl) (show(World.drew w4).cell? ⟨pb,0,none⟩=some (.slice (some ⟨g,0,none⟩) n.ends.length e1)/\(World.drew w4).cell? ⟨g,v,none⟩=some (.slice (some ⟨gr,0,none⟩) xv.length cr)from⟨kP.out.mb.box.cells.1,Dn⟩) ?_
   simp only[er,dS,zT]
   iterate 6 (apply bs rfl;(intro W hW;(obtain⟨k0,k1⟩:=hW);go_simp;with_reducible rfl);simp only[zA])
   obtain⟨W,cS⟩:∃W,W=World.drew w4:=⟨_,rfl⟩
   rw[<- cS];have hW:=(show(World.drew w4).cell? ⟨pb,0,none⟩=some (.slice (some ⟨g,0,none⟩) n.ends.length e1)/\(World.drew w4).cell? ⟨g,v,none⟩=some (.slice (some ⟨gr,0,none⟩) xv.length cr)from⟨kP.out.mb.box.cells.1,Dn⟩);rw[<- cS]at hW;have eY:=zh cS;clear cS
   refine ch (v:=?_) (ob:=?_) rfl ?_ ?_ ?_;rotate_left 2
   (go_simp;first | with_reducible rfl | (refine⟨?_,?_⟩ <;> with_reducible rfl))
   exact⟨bc (ai _ _) hW.1,bc (ai _ _) hW.2⟩;intro w5 kM nf
   replace hW:=nf
   clear nf
   have Me:ab w4 w5:=(by rw[kM,eY.out];exact ad _ (ah (aa _)))
   have CS:=zh ((kP.out).since Me)
   have Jy:Hid (Own w5 w4.heap.size (.slice (some ⟨w4.heap.size,0,none⟩) 4 4) [-1,0,1,6]):=(by show Own _ _ _ _;rw[kM,eY.out];exact q_ [-1,0,1,6] rfl rfl (by simp) (Nat.le_refl _))
   have RE:cb<w4.heap.size:=(kP.out).mb.cur.lt
   rw[show W.heap.size=w4.heap.size from by rw[eY.out];rfl]
   clear kM Me
   (try simp only[zA])
   refine Or.inl ⟨rfl,?_⟩
   go_simp
   (with_reducible refine(tv cb A L c (P+4) w4.heap.size w4.heap.size 4 4 [-1,0,1,6] _ rfl CS.out.mb.cur (by omega) Jy.out RE (by simp) (by simp)).mono ?_)
   rintro e W' ⟨a,rfl,ha,eQ,hC⟩;refine⟨_,rfl,And.intro (au hW.1 gX _ hC) (au hW.2 NN _ hC),?_⟩
   replace hW:=And.intro (au hW.1 gX _ hC) (au hW.2 NN _ hC)
   have IZ:=zh (CS.out.seen hC eQ);clear eQ hC ha
   (try simp only[zA])
   simp only[bh];obtain⟨gr2,cr2,h1,f0,f1,⟨z0,c0⟩,⟨z1,c1⟩,hA,hB⟩:=IZ.out.acD hx lp;rw[hW.2]at h1
   injection h1 with h1
   injection h1 with h1 h2 h3
   injection h1 with h1
   injection h1 with h1
   subst h1;obtain⟨y,sA⟩:=hB a;have k_:=zh sA;clear hA hB sA k0;go_upto_region 29 with(fail);obtain⟨w7,pI⟩:∃z,z=W'.setCell ⟨gr,1,none⟩ (.int .i64 a):=⟨_,rfl⟩
   rw[<- pI];rw[<- pI]at k_;clear pI hW c0 c1 f0 f1 e0 Dn;obtain⟨k0,k1,k2,-,-,-⟩:=(k_.out).mb.box.cells;obtain⟨e0,Ee,e2,f0,f1,f2⟩:=(k_.out).rb.box.cells;have bZ:=zh (k_.out).ret;go_wp2;refine bodyPost_ret (v:=.agg #[.slice (some ⟨g,0,none⟩) n.ends.length e1,.slice EI n.ids.length eI,.slice (some ⟨gN,0,none⟩) n.acn.length eN]) (by simp[results,Tryz.results129,go_sem, *]) rfl ?_;obtain⟨r1,r2,r3⟩:=bZ.out
   exact⟨_,_,_,_,_,rfl,r1,el.out.setRow v (by rw[List.length_set];have:=uW.out;omega),r2.mono (by omega),r3⟩
  ·have WH:xv.length=0:=by omega
   obtain⟨u0,T0,KM,-,PO,-,-,-⟩:=kP.out.mb.own.acs hx;obtain⟨AU,cU,rfl,-,-,-⟩:=id PO.read;have pE:xv=[]:=List.eq_nil_of_length_eq_zero WH;rw[WH]at KM;clear PO;obtain⟨k0,-,-,-,-,-⟩:=kP.out.mb.box.cells;go_upto_region 29 with(fail);clear k0 KM;obtain⟨k0,k1,k2,-,-,-⟩:=(kP.out).mb.box.cells;obtain⟨e0,Ee,e2,f0,f1,f2⟩:=(kP.out).rb.box.cells;have bZ:=zh (kP.out).ret;go_wp2;refine bodyPost_ret (v:=.agg #[.slice (some ⟨g,0,none⟩) n.ends.length e1,.slice EI n.ids.length eI,.slice (some ⟨gN,0,none⟩) n.acn.length eN]) (by simp[results,Tryz.results129,go_sem, *]) rfl ?_;obtain⟨r1,r2,r3⟩:=bZ.out;exact⟨_,_,_,_,_,rfl,r1,el.out,r2.mono (by omega),r3⟩
 ·have hx:=SX.out
  by_cases lp:0<xv.length
  ·obtain⟨gr,cr,Dn,-,-,-,-,-,-⟩:=kP.out.acD hx lp
   have e0:((0:Int)<(xv.length:Int))=True:=by simp;omega
   obtain⟨k0,-,-,-,-,-⟩:=kP.out.mb.box.cells;go_upto_region 13 with(fail);refine ax (fun W=>W.cell? ⟨pb,0,none⟩=some (.slice (some ⟨g,0,none⟩) n.ends.length e1)/\W.cell? ⟨g,v,none⟩=some (.slice (some ⟨gr,0,none⟩) xv.length cr)) 11 [false,false,false,false,false,false,false,false,false,true,true] (by kernel_rfl) (by kernel_rfl) (show(World.drew w4).cell? ⟨pb,0,none⟩=some (.slice (some ⟨g,0,none⟩) n.ends.length e1)/\(World.drew w4).cell? ⟨g,v,none⟩=some (.slice (some ⟨gr,0,none⟩) xv.length cr)from⟨kP.out.mb.box.cells.1,Dn⟩) ?_
   simp only[er,dS,zT]
   iterate 9 (apply bs rfl;(intro W hW;(obtain⟨k0,k1⟩:=hW);go_simp;with_reducible rfl);simp only[zA])
   obtain⟨W,cS⟩:∃W,W=World.drew w4:=⟨_,rfl⟩
   rw[<- cS];have hW:=(show(World.drew w4).cell? ⟨pb,0,none⟩=some (.slice (some ⟨g,0,none⟩) n.ends.length e1)/\(World.drew w4).cell? ⟨g,v,none⟩=some (.slice (some ⟨gr,0,none⟩) xv.length cr)from⟨kP.out.mb.box.cells.1,Dn⟩);rw[<- cS]at hW;have eY:=zh cS;clear cS
   refine ch (v:=?_) (ob:=?_) rfl ?_ ?_ ?_;rotate_left 2
   (go_simp;first | with_reducible rfl | (refine⟨?_,?_⟩ <;> with_reducible rfl))
   exact⟨bc (ai _ _) hW.1,bc (ai _ _) hW.2⟩;intro w5 kM nf
   replace hW:=nf
   clear nf
   have Me:ab w4 w5:=(by rw[kM,eY.out];exact ad _ (ah (aa _)))
   have CS:=zh ((kP.out).since Me)
   have Jy:Hid (Own w5 w4.heap.size (.slice (some ⟨w4.heap.size,0,none⟩) 3 3) [-1,0,(n.ends.length:Int)]):=(by show Own _ _ _ _;rw[kM,eY.out];exact q_ [-1,0,(n.ends.length:Int)] rfl rfl (by simp) (Nat.le_refl _))
   have RE:cb<w4.heap.size:=(kP.out).mb.cur.lt
   rw[show W.heap.size=w4.heap.size from by rw[eY.out];rfl]
   clear kM Me
   (try simp only[zA])
   refine Or.inl ⟨rfl,?_⟩
   go_simp
   (with_reducible refine(tv cb A L c (P+4) w4.heap.size w4.heap.size 3 3 [-1,0,(n.ends.length:Int)] _ rfl CS.out.mb.cur (by omega) Jy.out RE (by simp) (by simp)).mono ?_)
   rintro e W' ⟨a,rfl,ha,eQ,hC⟩;refine⟨_,rfl,And.intro (au hW.1 gX _ hC) (au hW.2 NN _ hC),?_⟩
   replace hW:=And.intro (au hW.1 gX _ hC) (au hW.2 NN _ hC)
   have IZ:=zh (CS.out.seen hC eQ);clear eQ hC ha
   (try simp only[zA])
   simp only[bh];obtain⟨gr2,cr2,h1,f0,f1,⟨z0,c0⟩,⟨z1,c1⟩,hA,hB⟩:=IZ.out.acD hx lp;rw[hW.2]at h1
   injection h1 with h1
   injection h1 with h1 h2 h3
   injection h1 with h1
   injection h1 with h1
   subst h1;obtain⟨y,sA⟩:=hA a;have k_:=zh sA;clear hA hB sA k0;go_upto_region 29 with(fail);obtain⟨w7,pI⟩:∃z,z=W'.setCell ⟨gr,0,none⟩ (.int .i64 a):=⟨_,rfl⟩
   rw[<- pI];rw[<- pI]at k_;clear pI hW c0 c1 f0 f1 e0 Dn;obtain⟨k0,k1,k2,-,-,-⟩:=(k_.out).mb.box.cells;obtain⟨e0,Ee,e2,f0,f1,f2⟩:=(k_.out).rb.box.cells;have bZ:=zh (k_.out).ret;go_wp2;refine bodyPost_ret (v:=.agg #[.slice (some ⟨g,0,none⟩) n.ends.length e1,.slice EI n.ids.length eI,.slice (some ⟨gN,0,none⟩) n.acn.length eN]) (by simp[results,Tryz.results129,go_sem, *]) rfl ?_;obtain⟨r1,r2,r3⟩:=bZ.out
   exact⟨_,_,_,_,_,rfl,r1,el.out.setRow v (by rw[List.length_set];have:=uW.out;omega),r2.mono (by omega),r3⟩
  ·have WH:xv.length=0:=by omega
   obtain⟨u0,T0,KM,-,PO,-,-,-⟩:=kP.out.mb.own.acs hx;obtain⟨AU,cU,rfl,-,-,-⟩:=id PO.read;have pE:xv=[]:=List.eq_nil_of_length_eq_zero WH;rw[WH]at KM;clear PO;obtain⟨k0,-,-,-,-,-⟩:=kP.out.mb.box.cells;go_upto_region 29 with(fail);clear k0 KM;obtain⟨k0,k1,k2,-,-,-⟩:=(kP.out).mb.box.cells;obtain⟨e0,Ee,e2,f0,f1,f2⟩:=(kP.out).rb.box.cells;have bZ:=zh (kP.out).ret;go_wp2;refine bodyPost_ret (v:=.agg #[.slice (some ⟨g,0,none⟩) n.ends.length e1,.slice EI n.ids.length eI,.slice (some ⟨gN,0,none⟩) n.acn.length eN]) (by simp[results,Tryz.results129,go_sem, *]) rfl ?_;obtain⟨r1,r2,r3⟩:=bZ.out;exact⟨_,_,_,_,_,rfl,r1,el.out,r2.mono (by omega),r3⟩
 ·go_upto_region 15 with(fail)
  go_loopw [83] (fun _ wr=>∃(N:aj) (S:List Nat) (xs:List (Int×Int)),Br cb pb A L c (P+4+2*xs.length) w wr (.slice (some ⟨g,0,none⟩) n.ends.length e1) (.slice EI n.ids.length eI) (.slice (some ⟨gN,0,none⟩) n.acn.length eN) N S/\N.ends.length=n.ends.length/\N.ends[v]?=some xs/\Bd N/\xs.length<=200) (fun _ wr=>8-nX (wr.cell? ⟨g,v,none⟩))
  case atStart=>exact⟨n,_,xv,kP.out.up (by omega),rfl,SX.out,el.out,by have:=uW.out;omega⟩
  case round=>
   obtain⟨N,S,xs,hb,ml,xz,WI,rh⟩:=hrel;obtain⟨wo,rfl⟩:∃z,z=wr:=⟨_,rfl⟩
   obtain⟨u0,T0,KM,-,PO,-,-,-⟩:=hb.mb.own.acs xz;obtain⟨AU,cU,rfl,-,-,-⟩:=id PO.read;have xc:=zh hb;have YS:=zh xz;have PQ:=zh WI;have gQ:=zh ml;have Hu0:=zh KM;clear hb xz WI ml PO KM;go_upto_region 15 with(fail);refine ax (fun W=>W.cell? ⟨pb,0,none⟩=some (.slice (some ⟨g,0,none⟩) n.ends.length e1)/\W.cell? ⟨g,v,none⟩=some (.slice AU xs.length cU)) 10 [false,false,false,false,false,false,false,true,true,true] (by kernel_rfl) (by kernel_rfl) (show(World.drew wo).cell? ⟨pb,0,none⟩=some (.slice (some ⟨g,0,none⟩) n.ends.length e1)/\(World.drew wo).cell? ⟨g,v,none⟩=some (.slice AU xs.length cU)from⟨xc.out.mb.box.cells.1,Hu0.out⟩) ?_
   simp only[er,dS,zT]
   iterate 7 (apply bs rfl;(intro W hW;(obtain⟨k0,k1⟩:=hW);go_simp;with_reducible rfl);simp only[zA])
   obtain⟨W,cS⟩:∃W,W=World.drew wo:=⟨_,rfl⟩
   rw[<- cS];have hW:=(show(World.drew wo).cell? ⟨pb,0,none⟩=some (.slice (some ⟨g,0,none⟩) n.ends.length e1)/\(World.drew wo).cell? ⟨g,v,none⟩=some (.slice AU xs.length cU)from⟨xc.out.mb.box.cells.1,Hu0.out⟩);rw[<- cS]at hW;have eY:=zh cS;clear cS;refine Or.inl ⟨rfl,?_⟩
   go_simp
   (with_reducible refine(db cb A L c (P+4+2*xs.length) 2 W (by rw[eY.out];exact xc.out.mb.cur.since (ah (aa _))) (by omega) (by omega)).mono ?_)
   rintro e W' ⟨b,rfl,hb,eQ,hC⟩;refine⟨_,rfl,And.intro (au hW.1 gX _ hC) (au hW.2 NN _ hC),?_⟩
   replace hW:=And.intro (au hW.1 gX _ hC) (au hW.2 NN _ hC)
   have ox:ab wo W:=(by rw[eY.out];exact ah (aa _))
   have k_:=zh (xc.out.seen (((dK.refl cb wo).after ox).trans hC) eQ);have bx:b<2:=(by omega);have m1:IntKind.i64.wrap (6+(b:Int))=6+(b:Int):=aH _ (by omega) (by omega);clear hC eQ ox hb
   (try simp only[zA])
   refine de (v:=?_) rfl ?_ hW ?_;rotate_left;(go_simp;with_reducible rfl)
   simp only[zA]
   refine de (v:=?_) rfl ?_ hW ?_;rotate_left;(go_simp;with_reducible rfl)
   simp only[zA];simp only[bh];obtain⟨w7,rfl⟩:∃z,z=W':=⟨_,rfl⟩
   have M2:=zh hW;clear hW
   by_cases az:xs.length<6+b
   ·have e0:((xs.length:Int)<6+(b:Int))=True:=by simp;omega
    obtain⟨u2,T2,yl,GD,FP,pF,uY,qV,ky⟩:=k_.out.mb.own.acw YS.out;have Od:=yl;rw[M2.out.2]at Od;have Od:=Option.some.inj Od;subst Od;have Eo:=zh FP;have pG:=zh ky;have Ep:=zh uY;have Er:=zh qV;have Es:=zh pF;have Ra:=zh GD;have Et:Hid (pb∉T2):=fun h=>k_.out.mb.nb (pF _ h)
    have SR:Hid (xs.length+1<=1000000):=by show _<=_;omega
    have uX:Hid (w.heap.size<=w7.heap.size):=k_.out.sz;clear yl GD FP pF uY qV ky;go_upto_region 16 with(fail);refine ax (fun W=>W.cell? ⟨pb,0,none⟩=some (.slice (some ⟨g,0,none⟩) n.ends.length e1)/\W.cell? ⟨g,v,none⟩=some (.slice AU xs.length cU)) 18 [false,false,false,false,false,false,false,false,false,false,false,false,false,false,false,false,true,true] (by kernel_rfl) (by kernel_rfl) (show(World.drew w7).cell? ⟨pb,0,none⟩=some (.slice (some ⟨g,0,none⟩) n.ends.length e1)/\(World.drew w7).cell? ⟨g,v,none⟩=some (.slice AU xs.length cU)from⟨M2.out.1,M2.out.2⟩) ?_
    simp only[er,dS,zT]
    iterate 16 (apply bs rfl;(intro W hW;(obtain⟨k0,k1⟩:=hW);go_simp;with_reducible rfl);simp only[zA])
    obtain⟨W,cS⟩:∃W,W=World.drew w7:=⟨_,rfl⟩
    rw[<- cS];have hW:=(show(World.drew w7).cell? ⟨pb,0,none⟩=some (.slice (some ⟨g,0,none⟩) n.ends.length e1)/\(World.drew w7).cell? ⟨g,v,none⟩=some (.slice AU xs.length cU)from⟨M2.out.1,M2.out.2⟩);rw[<- cS]at hW;have eY:=zh cS;clear cS
    refine ch (v:=?_) (ob:=?_) rfl ?_ ?_ ?_;rotate_left 2
    (go_simp;first | with_reducible rfl | (refine⟨?_,?_⟩ <;> with_reducible rfl))
    exact⟨bc (ai _ _) hW.1,bc (ai _ _) hW.2⟩;intro w8 jk jD
    replace hW:=jD
    clear jD
    have uZ:Hid (w8=(World.drew w7).alloc (.cells #[.int .i64 (v:Int),.int .i64 (xs.length:Int)] 83)):=by show _=_;rw[jk,eY.out]
    have iS:Hid (ab w7 w8):=by show ab _ _;rw[uZ.out];exact ad _ (ah (aa _))
    have pR:Hid (dU w8 w.heap.size (.slice AU xs.length cU) xs T2):=gj.keep Eo.out iS.out.below
    have u_:Hid (w8.cell? ⟨w7.heap.size,0,none⟩=some (.int .i64 (v:Int))/\w8.cell? ⟨w7.heap.size,1,none⟩=some (.int .i64 (xs.length:Int))):=by show _/\_;rw[uZ.out];exact il (World.drew w7) _ _ _
    rw[show W.heap.size=w7.heap.size from by rw[eY.out];rfl]
    clear jk eY
    (try simp only[zA])
    refine df (fun Q' HQ=>?_)
    (refine im (base:=w.heap.size) (v:=.slice AU xs.length cU) (xs:=xs) rfl _ _ rfl rfl pR.out w7.heap.size ((v:Int),(xs.length:Int)) rfl u_.out.1 u_.out.2 SR.out (Nat.le_trans uX.out iS.out.below.size) ?_);intro g9 zb w9 gP lu pD;have dL:=aX.acq lu;have nq:(Value.slice AU xs.length cU).ownBlock.toList=T2:=(Eo.out.2).symm;have jU:(⟨pb,0,none⟩:Addr).block∉(Value.slice AU xs.length cU).ownBlock.toList:=(by rw[nq];exact Et.out);have mi:(⟨g,v,none⟩:Addr).block∉(Value.slice AU xs.length cU).ownBlock.toList:=(by rw[nq];exact Ep.out);have kJ:=dL.cell jU hW.1;have nO:=dL.cell mi hW.2;have CN:=dL.fz mi hW.2 (bf iS.out.below M2.out.2 Ra.out);refine HQ _ _ ⟨kJ,nO⟩ ?_;have oz:=zh (k9 pG.out Eo.out iS.out gP lu pD Es.out Er.out);clear gP lu pD jU mi dL nq hW
    (try simp only[zA])
    simp only[bh];obtain⟨S5,dh,dt,oU⟩:=oz.out;have zR:=zh (k_.out.own dh dt oU)
    have vQ:(N.ends.set v (xs++[((v:Int),(xs.length:Int))]))[v]?=some (xs++[((v:Int),(xs.length:Int))]):=by rw[List.getElem?_set_self (by have:=gQ.out;omega)]
    have Hro:=zh vQ
    have YT:=zh (show nX ((w9.setCell ⟨g,v,none⟩ (.slice (some ⟨g9,0,none⟩) (xs.length+1) zb)).cell? ⟨g,v,none⟩)=xs.length+1 from by
     obtain⟨u9,T9,hu9,-,hR9,-,-,-⟩:=zR.out.mb.own.acs vQ;obtain⟨A9,c9',rfl,-,-,-⟩:=id hR9.read;rw[hu9]
     simp[nX])
    clear dh dt oU vQ oz;go_wp2;go_roundw
    case rel=>exact⟨_,S5,_,zR.out.up (by simp;omega),by show(List.set _ _ _).length=_;rw[List.length_set];exact gQ.out,Hro.out,PQ.out.setRow v (by simp;omega),by simp;omega⟩
    case measure=>rw[YT.out];have h7:=Hu0.out;simp only[h7,nX];omega
   ·have e0:((xs.length:Int)<6+(b:Int))=False:=by simp;omega
    go_upto_region 29 with(fail);clear e0;obtain⟨k0,k1,k2,-,-,-⟩:=(k_.out).mb.box.cells;obtain⟨e0,Ee,e2,f0,f1,f2⟩:=(k_.out).rb.box.cells;have bZ:=zh (k_.out).ret;go_wp2;refine bodyPost_ret (v:=.agg #[.slice (some ⟨g,0,none⟩) n.ends.length e1,.slice EI n.ids.length eI,.slice (some ⟨gN,0,none⟩) n.acn.length eN]) (by simp[results,Tryz.results129,go_sem, *]) rfl ?_;obtain⟨r1,r2,r3⟩:=bZ.out;exact⟨_,_,_,_,_,rfl,r1,PQ.out,r2.mono (by omega),r3⟩
 ·obtain⟨k0,k1,k2,-,-,-⟩:=kP.out.mb.box.cells;go_wp2_with fail;refine(rT cb A L c (P+4) R M _ _ _ n w4 kP.out.mb.cur (by omega) kP.out.mb.own.read Hg.out hR hM2).mono ?_;rintro e w5 ⟨ve5,vi5,vn5,N5,S5,rfl,vU,⟨rF,Md,PN⟩,kC,rm⟩;obtain⟨D0,d0,rfl,-,-,-⟩:=id vU.read.1;obtain⟨D1,d1,rfl,-,-,-⟩:=id vU.read.2.1;obtain⟨D2,d2,rfl,-,-,-⟩:=id vU.read.2.2;have EF:=kP.out.assign rm kC vU;have dT:=kP.out.seen rm kC;have h0i:0<N5.ids.length:=by omega
  have aI:=EF.mb.acx.1.1
  obtain⟨gI,rfl⟩:∃gI,D1=some ⟨gI,0,none⟩:=by
   rcases aI.cases with⟨h1,h2⟩ | ⟨gq,cq,h1,-,-⟩
   ·rw[h2]at h0i;simp at h0i
   ·cases h1;exact⟨gq,rfl⟩
  clear k0 k1 k2;obtain⟨k0,k1,k2,f0,f1,f2⟩:=dT.mb.box.cells;have WJ:=zh EF;have Hq:=zh (And.intro rF (And.intro Md PN));clear EF dT vU kC rm aI rF Md PN;go_upto_region 19 with(fail);obtain⟨w6,zQ⟩:∃z,z=((w5.setCell ⟨pb,0,none⟩ (.slice D0 N5.ends.length d0)).setCell ⟨pb,1,none⟩ (.slice (some ⟨gI,0,none⟩) N5.ids.length d1)).setCell ⟨pb,2,none⟩ (.slice D2 N5.acn.length d2):=⟨_,rfl⟩
  rw[<- zQ]
  have IZ:Hid (Br cb pb A L c (P+4+1000) w w6 (.slice D0 N5.ends.length d0) (.slice (some ⟨gI,0,none⟩) N5.ids.length d1) (.slice D2 N5.acn.length d2) N5 S5):=by show Br _ _ _ _ _ _ _ _ _ _ _ _ _;rw[zQ];exact WJ.out
  clear zQ WJ k0 k1 k2 f0 f1 f2;obtain⟨z0,gx⟩:=aA N5.ids 0 h0i
  have acb:v<N5.ids.length:=by have:=Hq.out.2.2;omega
  have hci:=IZ.out.mb.acx.1.1.cell gx
  have hgi:gI≠cb:=fun e=>by
   have h1:=(World.ownsRow.lt IZ.out.mb.acx.1.1 gI (by simp[Value.ownBlock])).1;have h2:=eO.out;omega
  go_upto_region 19 with(fail);refine ax (fun W=>W.cell? ⟨pb,1,none⟩=some (.slice (some ⟨gI,0,none⟩) N5.ids.length d1)/\W.cell? ⟨gI,0,none⟩=some (.int .i64 z0)) 10 [false,false,false,false,false,false,false,false,true,true] (by kernel_rfl) (by kernel_rfl) (show(World.drew w6).cell? ⟨pb,1,none⟩=some (.slice (some ⟨gI,0,none⟩) N5.ids.length d1)/\(World.drew w6).cell? ⟨gI,0,none⟩=some (.int .i64 z0)from⟨IZ.out.mb.box.cells.2.1,hci⟩) ?_
  simp only[er,dS,zT]
  iterate 8 (apply bs rfl;(intro W hW;(obtain⟨k0,k1⟩:=hW);go_simp;with_reducible rfl);simp only[zA])
  obtain⟨W,cS⟩:∃W,W=World.drew w6:=⟨_,rfl⟩
  rw[<- cS];have hW:=(show(World.drew w6).cell? ⟨pb,1,none⟩=some (.slice (some ⟨gI,0,none⟩) N5.ids.length d1)/\(World.drew w6).cell? ⟨gI,0,none⟩=some (.int .i64 z0)from⟨IZ.out.mb.box.cells.2.1,hci⟩);rw[<- cS]at hW;have eY:=zh cS;clear cS
  refine ch (v:=?_) (ob:=?_) rfl ?_ ?_ ?_;rotate_left 2
  (go_simp;first | with_reducible rfl | (refine⟨?_,?_⟩ <;> with_reducible rfl))
  exact⟨bc (ai _ _) hW.1,bc (ai _ _) hW.2⟩;intro w7 vx Ci
  replace hW:=Ci
  clear Ci
  have Vb:ab w6 w7:=(by rw[vx,eY.out];exact ad _ (ah (aa _)))
  have k_:=zh ((IZ.out).since Vb)
  have Gn:Hid (Own w7 w6.heap.size (.slice (some ⟨w6.heap.size,0,none⟩) 5 5) [0,1,999999,1000000,z0]):=(by show Own _ _ _ _;rw[vx,eY.out];exact q_ [0,1,999999,1000000,z0] rfl rfl (by simp) (Nat.le_refl _))
  have RE:cb<w6.heap.size:=(IZ.out).mb.cur.lt
  rw[show W.heap.size=w6.heap.size from by rw[eY.out];rfl]
  clear vx Vb
  (try simp only[zA])
  refine Or.inl ⟨rfl,?_⟩
  go_simp
  (with_reducible refine(tv cb A L c (P+4+1000) w6.heap.size w6.heap.size 5 5 [0,1,999999,1000000,z0] _ rfl k_.out.mb.cur (by omega) Gn.out RE (by simp) (by simp)).mono ?_)
  rintro e W' ⟨a,rfl,ha,eQ,hC⟩;refine⟨_,rfl,And.intro (au hW.1 gX _ hC) (au hW.2 hgi _ hC),?_⟩
  replace hW:=And.intro (au hW.1 gX _ hC) (au hW.2 hgi _ hC)
  have Tf:=zh (k_.out.seen hC eQ);clear eQ hC ha
  (try simp only[zA])
  simp only[bh]
  obtain⟨f9,⟨z9,c9⟩,S9,kN⟩:=Tf.out.ac0 (k:=v) a (by have:=Hq.out.2.2;omega)
  have zR:=zh kN;clear kN;go_upto_region 29 with(fail);obtain⟨w9,wR⟩:∃z,z=W'.setCell ⟨gI,v,none⟩ (.int .i64 a):=⟨_,rfl⟩
  rw[<- wR];rw[<- wR]at zR;clear wR hW c9 f9;obtain⟨k0,k1,k2,-,-,-⟩:=(zR.out).mb.box.cells;obtain⟨e0,Ee,e2,f0,f1,f2⟩:=(zR.out).rb.box.cells;have bZ:=zh (zR.out).ret;go_wp2;refine bodyPost_ret (v:=.agg #[.slice D0 N5.ends.length d0,.slice (some ⟨gI,0,none⟩) N5.ids.length d1,.slice D2 N5.acn.length d2]) (by simp[results,Tryz.results129,go_sem, *]) rfl ?_;obtain⟨r1,r2,r3⟩:=bZ.out
  exact⟨_,_,_,_,_,rfl,r1,⟨by show N5.ends.length<=_;rw[Hq.out.1];exact el.out.ends,fun k es he=>el.out.row k es (by rw[<- Hq.out.1];exact he),by show(List.set _ _ _).length<=_;rw[List.length_set];have:=Hq.out.2.2;omega,by show N5.acn.length<=_;rw[Hq.out.2.1];exact el.out.acn⟩,r2.mono (by omega),r3⟩
 ·obtain⟨pS,S5,sA⟩:=kP.out.acC (W':=w4.alloc (.cells #[.int .i64 5] 3)) (v':=.slice (some ⟨w4.heap.size,0,none⟩) 1 1) (ids':=[5]) ⟨q_ [5] rfl rfl (by simp) kP.out.sz,rfl⟩ ((aX.refl _ _).alloc _) (fun j hj=>.inr (by simp[Value.ownBlock]at hj;omega))
  obtain⟨k0,k1,k2,f0,f1,f2⟩:=pS.cells;have k_:=zh sA;clear pS sA;go_upto_region 29 with(fail);obtain⟨w7,pI⟩:∃z,z=(w4.alloc (.cells #[.int .i64 5] 3)).setCell ⟨pb,1,none⟩ (.slice (some ⟨w4.heap.size,0,none⟩) 1 1):=⟨_,rfl⟩
  rw[<- pI];rw[<- pI]at k_;clear pI k0 k1 k2 f0 f1 f2;obtain⟨k0,k1,k2,-,-,-⟩:=(k_.out).mb.box.cells;obtain⟨e0,Ee,e2,f0,f1,f2⟩:=(k_.out).rb.box.cells;have bZ:=zh (k_.out).ret;go_wp2;refine bodyPost_ret (v:=.agg #[.slice (some ⟨g,0,none⟩) n.ends.length e1,.slice (some ⟨w4.heap.size,0,none⟩) 1 1,.slice (some ⟨gN,0,none⟩) n.acn.length eN]) (by simp[results,Tryz.results129,go_sem, *]) rfl ?_;obtain⟨r1,r2,r3⟩:=bZ.out;exact⟨_,_,_,_,_,rfl,r1,⟨el.out.ends,el.out.row,by simp,el.out.acn⟩,r2.mono (by omega),r3⟩
 ·go_upto_region 23 with(fail)
  go_loopw [131] (fun _ wr=>∃(ve vn:Value) (N:aj) (S:List Nat),Br cb pb A L c (P+4+2*N.ends.length) w wr ve (.slice EI n.ids.length eI) vn N S/\N.ends.length<=41/\N.acn.length=N.ends.length/\N.ids=n.ids/\Bd N) (fun _ wr=>42-nX (wr.cell? ⟨pb,0,none⟩))
  case atStart=>exact⟨_,_,n,_,kP.out.up (by omega),by omega,pO.out,rfl,el.out⟩
  case round=>
   obtain⟨ve,vn,N,S,hb,ml,PJ,hid,WI⟩:=hrel;obtain⟨wo,rfl⟩:∃z,z=wr:=⟨_,rfl⟩
   obtain⟨Q0,q0,rfl,-,-,-⟩:=id hb.mb.own.read.1;obtain⟨Q2,q2,rfl,-,-,-⟩:=id hb.mb.own.read.2.2;have xc:=zh hb;have PQ:=zh WI;have wu:=zh hid;have QJ:=zh PJ;clear hb WI hid PJ;go_upto_region 23 with(fail);refine ax (fun W=>W.cell? ⟨pb,0,none⟩=some (.slice Q0 N.ends.length q0)) 7 [false,false,false,false,true,true,true] (by kernel_rfl) (by kernel_rfl) (show(World.drew wo).cell? ⟨pb,0,none⟩=some (.slice Q0 N.ends.length q0)from xc.out.mb.box.cells.1) ?_
   simp only[er,dS,zT]
   iterate 4 (apply bs rfl;(intro W hW;(have k0:=hW);go_simp;with_reducible rfl);simp only[zA])
   obtain⟨W,cS⟩:∃W,W=World.drew wo:=⟨_,rfl⟩
   rw[<- cS];have hW:=(show(World.drew wo).cell? ⟨pb,0,none⟩=some (.slice Q0 N.ends.length q0)from xc.out.mb.box.cells.1);rw[<- cS]at hW;have eY:=zh cS;clear cS;refine Or.inl ⟨rfl,?_⟩
   go_simp
   (with_reducible refine(db cb A L c (P+4+2*N.ends.length) 2 W (by rw[eY.out];exact xc.out.mb.cur.since (ah (aa _))) (by omega) (by omega)).mono ?_)
   rintro e W' ⟨b,rfl,hb,eQ,hC⟩;refine⟨_,rfl,au hW gX _ hC,?_⟩
   replace hW:=au hW gX _ hC
   have ox:ab wo W:=(by rw[eY.out];exact ah (aa _))
   have k_:=zh (xc.out.seen (((dK.refl cb wo).after ox).trans hC) eQ);have bx:b<2:=(by omega);have m1:IntKind.i64.wrap (40+(b:Int))=40+(b:Int):=aH _ (by omega) (by omega);clear hC eQ ox hb
   (try simp only[zA])
   refine de (v:=?_) rfl ?_ hW ?_;rotate_left;(go_simp;with_reducible rfl)
   simp only[zA]
   refine de (v:=?_) rfl ?_ hW ?_;rotate_left;(go_simp;with_reducible rfl)
   simp only[zA];simp only[bh];obtain⟨w7,rfl⟩:∃z,z=W':=⟨_,rfl⟩
   clear hW
   by_cases az:N.ends.length<40+b
   ·have e0:((N.ends.length:Int)<40+(b:Int))=True:=by simp;omega
    have jT:ab w7 (w7.alloc (.cells #[.slice none 0 0] 81)):=ad _ (aa _);have Tf:=zh (k_.out.since jT);obtain⟨k0,k1,k2,f0,f1,f2⟩:=k_.out.mb.box.cells
    have Hl8:Hid (N.ends.length+1<=1000000):=by show _<=_;omega
    have QO:Hid (∀q,(Value.slice Q0 N.ends.length q0).ownBlock=some q->(kX w7 w.heap.size).heap.size<=q):=fun q hq=>by
     obtain⟨S1,S2,S3,⟨vs,Ss,h1,-⟩,-,-,-,-⟩:=id Tf.out.mb.own;have h9:=(World.ownsRow.lt h1 q hq).1;simp[kX]
     omega
    have Hwq:Hid (ab (kX w7 w.heap.size) (w7.alloc (.cells #[.slice none 0 0] 81))):=ab.after (ne w7 k_.out.sz) jT;clear jT
    go_upto_region 25 with(at_builtin;refine qO (wT:=kX w7 w.heap.size) (base:=w.heap.size) (v:=.slice Q0 N.ends.length q0) (u:=.slice none 0 0) (T:=[]) (es:=[]) rfl _ _ rfl rfl Tf.out.mb.own w7.heap.size rfl (by simp) (tL _ _) (fun j hj=>by simp at hj) Hl8.out Hwq.out Tf.out.sz QO.out ?_;intro v8 w8 S8 hv8 Rr Rs Lc kH;obtain⟨A8,c8,hq8,-,-,-⟩:=id Rr.read.1;have hq9:v8=.slice A8 (N.ends.length+1) c8:=(by rw[hq8];simp);clear hq8;subst hq9;obtain⟨Ld,kN⟩:=Tf.out.acF Rr (fun j hj=>by rcases Rs j hj with h | h | h;exact .inl h;simp at h;right;omega) Lc;clear k0 k1 k2 f0 f1 f2 hv8 Rs Lc kH;obtain⟨k0,k1,k2,f0,f1,f2⟩:=Ld.cells;have zR:=zh kN;clear Ld kN Rr)
    obtain⟨w9,wR⟩:∃z,z=w8.setCell ⟨pb,0,none⟩ (.slice A8 (N.ends.length+1) c8):=⟨_,rfl⟩
    rw[<- wR];rw[<- wR]at zR;clear wR k0 k1 k2 f0 f1 f2;have jT:ab w9 (w9.alloc (.cells #[.int .i64 0] 3)):=ad _ (aa _);have RF:=zh (zR.out.since jT)
    have aaQ:Hid (N.acn.length+[(0:Int)].length<=17592186044416):=by show _<=_;have:=PQ.out.acn;simp;omega
    clear jT;obtain⟨k0,k1,k2,f0,f1,f2⟩:=zR.out.mb.box.cells
    go_wp2_with (at_builtin;refine fY (base:=w.heap.size) rfl _ _ rfl rfl RF.out.mb.acS.1.1 rfl (nV _ _) aaQ.out RF.out.sz ?_;intro v' w11 T dB sP WG;obtain⟨V,mV,cV,rfl⟩:=gm.one dB;obtain⟨EF,S6,sA⟩:=RF.out.acO dB sP WG;clear k0 k1 k2 f0 f1 f2 dB sP WG;obtain⟨k0,k1,k2,f0,f1,f2⟩:=EF.cells;have WK:=zh sA;clear EF sA)
    go_roundw
    case rel=>exact⟨_,_,_,S6,WK.out.up (by simp;omega),by simp;omega,by have:=QJ.out;simp;omega,wu.out,PQ.out.more (by omega) (by have:=QJ.out;omega)⟩
    case measure=>rw[WK.out.mb.box.cells.1,xc.out.mb.box.cells.1];simp[nX];omega
   ·have e0:((N.ends.length:Int)<40+(b:Int))=False:=by simp;omega
    have k0:=k_.out.mb.box.cells.1;obtain⟨Ld,S8,kN⟩:=k_.out.acC (v':=.slice none 0 0) (ids':=[]) (iN _ _) (aX.refl _ _) (fun j hj=>by simp at hj)
    clear k0;obtain⟨k0,k1,k2,f0,f1,f2⟩:=Ld.cells;have zR:=zh kN;clear Ld kN;go_upto_region 29 with(fail);obtain⟨w9,wR⟩:∃z,z=w7.setCell ⟨pb,1,none⟩ (.slice none 0 0):=⟨_,rfl⟩
    rw[<- wR];rw[<- wR]at zR;clear wR e0 k0 k1 k2 f0 f1 f2;obtain⟨k0,k1,k2,-,-,-⟩:=(zR.out).mb.box.cells;obtain⟨e0,Ee,e2,f0,f1,f2⟩:=(zR.out).rb.box.cells;have bZ:=zh (zR.out).ret;go_wp2;refine bodyPost_ret (v:=.agg #[.slice Q0 N.ends.length q0,.slice none 0 0,.slice Q2 N.acn.length q2]) (by simp[results,Tryz.results129,go_sem, *]) rfl ?_;obtain⟨r1,r2,r3⟩:=bZ.out;exact⟨_,_,_,_,_,rfl,r1,⟨PQ.out.ends,PQ.out.row,by simp,PQ.out.acn⟩,r2.mono (by omega),r3⟩
 ·obtain⟨e0,Ee,e2,f0,f1,f2⟩:=kP.out.rb.box.cells;go_wp2;refine bodyPost_ret (v:=.agg #[.slice none 0 0,.slice none 0 0,.slice none 0 0]) (by simp[results,Tryz.results129,go_sem, *]) rfl ?_;have hpp:=eO.out;refine⟨_,_,_,⟨[],[],[]⟩,[],rfl,Di _ _,⟨by simp,fun k es he=>by simp at he,by simp,by simp⟩,(kP.out.mb.cur.keep (fun k hk=>dY w4 (pb+1) _ _ _ (by omega))).mono (by omega),?_⟩
  exact((kP.out.mb.far.setCell (p:=⟨pb+1,0,none⟩) (.inl (by show _<=pb+1;omega)) _).setCell (p:=⟨pb+1,1,none⟩) (.inl (by show _<=pb+1;omega)) _).setCell (p:=⟨pb+1,2,none⟩) (.inl (by show _<=pb+1;omega)) _
 ·have t0:((x:Int)==0)=false:=by simp;omega
  have t1:((x:Int)==1)=false:=by simp;omega
  have t2:((x:Int)==2)=false:=by simp;omega
  have t3:((x:Int)==3)=false:=by simp;omega
  have t4:((x:Int)==4)=false:=by simp;omega
  have t5:((x:Int)==5)=false:=by simp;omega
  have t6:((x:Int)==6)=false:=by simp;omega
  have t7:((x:Int)==7)=false:=by simp;omega
  have t8:((x:Int)==8)=false:=by simp;omega
  go_upto_region 29 with(fail);clear t0 t1 t2 t3 t4 t5 t6 t7 t8;obtain⟨k0,k1,k2,-,-,-⟩:=(kP.out).mb.box.cells;obtain⟨e0,Ee,e2,f0,f1,f2⟩:=(kP.out).rb.box.cells;have bZ:=zh (kP.out).ret;go_wp2;refine bodyPost_ret (v:=.agg #[.slice (some ⟨g,0,none⟩) n.ends.length e1,.slice EI n.ids.length eI,.slice (some ⟨gN,0,none⟩) n.acn.length eN]) (by simp[results,Tryz.results129,go_sem, *]) rfl ?_;obtain⟨r1,r2,r3⟩:=bZ.out;exact⟨_,_,_,_,_,rfl,r1,el.out,r2.mono (by omega),r3⟩
theorem Gd.acM {R M:Nat} {n N:aj} (h:Gd R M n) (he:N.ends=n.ends) (hi:N.acn=n.acn) (hl:N.ids.length=n.ends.length):Gd R M N:=
 ⟨by rw[he];exact h.ends,by rw[he];exact h.row,by rw[hl];exact h.ends,by rw[hi,he];exact h.acn,fun k es hk e hm=>by
  obtain⟨a,b,fs,h1,h2,h3⟩:=h.wf k es (by rw[<- he];exact hk) e hm
  exact⟨a,b,fs,h1,by rw[he];exact h2,h3⟩⟩
theorem Lm (cb:Nat) (A:Option Addr) (L c P aJ M:Nat) (w:World) (hc:cG w cb A L c P) (hP:P<=3900000000000000000) (zi:1<=aJ) (mm:aJ<=M) (hM:M<=38):
  Calls Tryz.prog 96 #[.pointer (some ⟨cb,0,none⟩),.int .i64 aJ] w (sR cb w.heap.size A L c (P+210000000000000000) w Bd):=by
 have ig:=hc.lt;obtain⟨B,rS⟩:∃z,z=w.heap.size+1:=⟨_,rfl⟩
 obtain⟨w0,bQ⟩:∃z,z=w.alloc (.cells #[.slice none 0 0,.slice none 0 0,.slice none 0 0] 27):=⟨_,rfl⟩
 have aU:ab w w0:=by rw[bQ];exact ad _ (aa _)
 have gx:w0.heap.size=B:=by rw[bQ,rS];simp
 have iy:aS w0 w.heap.size (.slice none 0 0) (.slice none 0 0) (.slice none 0 0):=by
  rw[bQ];show(w.heap.push _)[w.heap.size]?=_
  rw[Array.getElem?_push_size]
 have iH:=zh iy;have jj:=zh aU;have bS:=zh bQ;have el:=zh rS;have mA:=zh gx;have Ez:=zh (hc.since aU);clear iy aU bQ hc rS gx
 go_enter Tryz.func96,Tryz.ntmps96
 go_upto_region 1 with(fail);rw[<- bS.out];go_wp2_with fail;refine(Le cb A L c P aJ M w0 Ez.out (by omega) zi mm hM).mono ?_;rintro e w1 ⟨VU,VV,VW,N0,S0,rfl,ho,⟨WL,zj⟩,lM,lL⟩;have EA:Gd 100 40 N0:=WL.mono (Nat.le_refl _) (by omega);obtain⟨A1,c1,rfl,-,ru,-⟩:=id ho.read.1;obtain⟨AI,cI,rfl,-,-,-⟩:=id ho.read.2.1;obtain⟨AN,cN,rfl,-,-,-⟩:=id ho.read.2.2;obtain⟨m,ml⟩:∃m,N0.ends.length=m:=⟨_,rfl⟩
 obtain⟨w2,iY⟩:∃z,z=w1.alloc (.cells #[.slice A1 N0.ends.length c1,.slice AI N0.ids.length cI,.slice AN N0.acn.length cN] 27):=⟨_,rfl⟩
 obtain⟨pb,fb⟩:∃z,z=w1.heap.size:=⟨_,rfl⟩
 have kb:ab w1 w2:=by rw[iY];exact ad _ (aa _)
 have ia:B<=w1.heap.size:=by rw[<- mA.out];exact lL.size
 have jR:cb<B:=by have:=el.out;omega
 have su:Mb cb B pb A L c (P+200000000000000000) w0 w2 (.slice A1 N0.ends.length c1) (.slice AI N0.ids.length cI) (.slice AN N0.acn.length cN) N0 S0:=
  ⟨(ho.keep kb.below).mono (by rw[mA.out];exact Nat.le_refl _),by rw[iY,fb];exact aY.new _ _ _ _ _,fun hj=>by have:=(ho.range _ hj).2;omega,lM.since kb,(lL.mono (by rw[mA.out];exact Nat.le_refl _)).trans (CB.of (kb.below.mono ia))⟩
 have qW:=zh su
 have eO:Hid (B<=pb/\pb<w2.heap.size):=⟨by rw[fb];exact ia,by rw[iY,fb];simp⟩
 have Cj:Hid (B<=w2.heap.size):=Nat.le_trans ia kb.below.size;have xQ:=zh iY;have qY:=zh fb;have Eh:=zh (And.intro EA zj);have gQ:=zh ml;have dT:=su.box.cells.1;clear su iY fb EA WL zj ho lM lL kb ia dT;rw[ml]at qW xQ;clear ml;go_upto_region 2 with(fail);rw[gQ.out,<- xQ.out,<- qY.out];go_wp2_with fail;refine(k8 cb A L c _ 3 w2 qW.out.cur (by omega) (by omega)).mono ?_;rintro e w3 ⟨bb,rfl,vw,k7⟩;have lN:=zh (qW.out.seen k7 vw jR eO.out.1 Cj.out);have xd:Hid (B<=w3.heap.size):=Nat.le_trans Cj.out k7.size;clear vw k7;cases bb
 ·clear qW;have Hg3:=Eh;obtain⟨k0,k1,k2,-,-,-⟩:=lN.out.box.cells;have Ln:=lN.out.cur;have RG:=zh Ln;have HNT:=zh lN.out.own.read;clear Ln;go_wp2_with fail;refine(Ch cb A L c (P+200000000000000000+2) 100 40 _ _ _ N0 w3 RG.out (by omega) HNT.out Hg3.out.1 Hg3.out.2 (by omega) (by omega)).mono ?_;rintro e w9 ⟨ve9,vi9,vn9,N9,S9,rfl,gP,Lo,oB,Oe⟩;obtain⟨X0,x0,rfl,-,-,-⟩:=id gP.read.1;obtain⟨X1,x1,rfl,-,-,-⟩:=id gP.read.2.1;obtain⟨X2,x2,rfl,-,-,-⟩:=id gP.read.2.2;have aD:=lN.out.far.trans (Oe.mono xd.out)
  have dJ:=aD.acv iH.out (by have:=el.out;omega) (by omega)
  obtain⟨e0,e1,e2,f0,f1,f2⟩:=dJ.box.cells;have aI:=gP.mono xd.out;rw[el.out]at aI aD;have bZ:=zh (cO jj.out aI oB aD ig);have RH:=zh Lo;clear aD dJ aI Lo oB Oe gP k0 k1 k2;go_wp2;refine bodyPost_ret (v:=.agg #[.slice X0 N9.ends.length x0,.slice X1 N9.ids.length x1,.slice X2 N9.acn.length x2]) (by simp[results,Tryz.results96,go_sem, *]) rfl ?_;obtain⟨r1,r2,r3⟩:=bZ.out;exact⟨_,_,_,N9,S9,rfl,r1,RH.out,r2.mono (by omega),r3⟩
 ·obtain⟨k0,k1,k2,-,-,-⟩:=lN.out.box.cells;have HN3:=zh lN.out.own.read;go_wp2_with fail;refine(rT cb A L c _ 100 40 _ _ _ N0 w3 lN.out.cur (by omega) HN3.out Eh.out.1 (by omega) (by omega)).mono ?_;rintro e w4 ⟨ve4,vi4,vn4,N4,S4,rfl,mW,⟨he4,Zv,Vj⟩,nA,nU⟩;obtain⟨D0,d0,rfl,-,-,-⟩:=id mW.read.1;obtain⟨D1,d1,rfl,-,-,-⟩:=id mW.read.2.1;obtain⟨D2,d2,rfl,-,-,-⟩:=id mW.read.2.2;have hm5:=lN.out.assign nU nA mW lN.out.box.lt jR eO.out.1 xd.out
  obtain⟨f0,f1,f2,g0,g1,g2⟩:=(lN.out.box.blk (nU.block pb lN.out.box.lt (by have:=eO.out;omega))).cells
  have jS:=zh hm5
  have RI:Hid (B<=(acr w4 pb (.slice D0 N4.ends.length d0) (.slice D1 N4.ids.length d1) (.slice D2 N4.acn.length d2)).heap.size):=by show _<=_;rw[fX];exact Nat.le_trans xd.out nU.size
  have Hg5:Hid (Gd 100 40 N4/\0<N4.ends.length):=⟨Eh.out.1.acM he4 Zv Vj,by rw[he4];exact Eh.out.2⟩
  clear hm5 mW he4 Zv Vj nA nU k0 k1 k2;go_upto_region 4 with(fail);obtain⟨w5,mG⟩:∃z,z=acr w4 pb (.slice D0 N4.ends.length d0) (.slice D1 N4.ids.length d1) (.slice D2 N4.acn.length d2):=⟨_,rfl⟩
  have WM:((w4.setCell ⟨pb,0,none⟩ (.slice D0 N4.ends.length d0)).setCell ⟨pb,1,none⟩ (.slice D1 N4.ids.length d1)).setCell ⟨pb,2,none⟩ (.slice D2 N4.acn.length d2)=w5:=mG.symm;rw[WM];rw[<- mG]at jS RI;clear mG WM f0 f1 f2 g0 g1 g2;obtain⟨k0,k1,k2,-,-,-⟩:=jS.out.box.cells;have Ln:=jS.out.cur;have RG:=zh Ln;have HNT:=zh jS.out.own.read;clear Ln;go_wp2_with fail;refine(Ch cb A L c (P+200000000000000000+2+1000) 100 40 _ _ _ N4 w5 RG.out (by omega) HNT.out Hg5.out.1 Hg5.out.2 (by omega) (by omega)).mono ?_;rintro e w9 ⟨ve9,vi9,vn9,N9,S9,rfl,gP,Lo,oB,Oe⟩;obtain⟨X0,x0,rfl,-,-,-⟩:=id gP.read.1;obtain⟨X1,x1,rfl,-,-,-⟩:=id gP.read.2.1;obtain⟨X2,x2,rfl,-,-,-⟩:=id gP.read.2.2;have aD:=jS.out.far.trans (Oe.mono RI.out)
  have dJ:=aD.acv iH.out (by have:=el.out;omega) (by omega)
  obtain⟨e0,e1,e2,f0,f1,f2⟩:=dJ.box.cells;have aI:=gP.mono RI.out;rw[el.out]at aI aD;have bZ:=zh (cO jj.out aI oB aD ig);have RH:=zh Lo;clear aD dJ aI Lo oB Oe gP k0 k1 k2;go_wp2;refine bodyPost_ret (v:=.agg #[.slice X0 N9.ends.length x0,.slice X1 N9.ids.length x1,.slice X2 N9.acn.length x2]) (by simp[results,Tryz.results96,go_sem, *]) rfl ?_;obtain⟨r1,r2,r3⟩:=bZ.out;exact⟨_,_,_,N9,S9,rfl,r1,RH.out,r2.mono (by omega),r3⟩
section
variable {P : Program} {ops : Array Oper}
end
structure Ob (bo:Nat) (wa W:World) (ve vi vn:Value) (N:aj) (S:List Nat):Prop where
 own:ar W wa.heap.size ve vi vn N S
 box:aY W bo ve vi vn
 nb:bo∉S
 bb:wa.heap.size<=bo
 since:ab wa W
section
variable {bo : Nat} {wa W : World} {ve vi vn : Value} {N : aj} {S : List Nat}
end
structure abJ (n:aj) (t:Nat) (N:aj):Prop where
 ends:N.ends.length=2*n.ends.length
 acn:N.acn.length=2*n.ends.length
 ids:N.ids.length=0
 row:∀(j:Nat) (fs:List (Int×Int)),N.ends[j]?=some fs->fs.length<=100/\(j<t->fs.length=(cH n (j/2)).length)
theorem dK.trans' {cb:Nat} {w0 W W':World} (h:dK cb w0 W) (h':Below w0.heap.size W W'):dK cb w0 W':=CB.trans h (CB.of h')
def Lp (w:World) (v:Value) (L:Nat):Prop:=∃A c,v=.slice A L c/\L<=c/\c<=maxLen/\∀k,k<L->∃b off x,A=some ⟨b,off,none⟩/\w.cell? ⟨b,off+k,none⟩=some (.int .u8 x)/\0<=x/\x<256
theorem Lp.keep {w w':World} {v:Value} {L:Nat} (h:Lp w v L) (hb:Below w.heap.size w w'):Lp w' v L:=by
 obtain⟨A,c,h1,h2,h3,h4⟩:=h;refine⟨A,c,h1,h2,h3,fun k hk=>?_⟩
 obtain⟨b,off,x,e1,e2,e3,e4⟩:=h4 k hk;exact⟨b,off,x,e1,bc hb e2,e3,e4⟩
theorem FW {w w2:World} {A:Option Addr} {L c cb:Nat} {t:TypeId} (hb:∀k,k<L->∃b off x,A=some ⟨b,off,none⟩/\w.cell? ⟨b,off+k,none⟩=some (.int .u8 x)/\0<=x/\x<256) (hs:ab w w2) (ig:w.heap.size<=cb) (hc:w2.heap[cb]?=some (.cells #[.slice A L c,.int .i64 0,.int .u64 0] t)) (hL:L<=1048576) (Tg:L<=c):cG w2 cb A L c 0:=by
 refine⟨0,0,⟨⟨_,hc⟩,fun k hk=>?_,hL,Tg,by omega⟩,Nat.le_refl _⟩
 obtain⟨b,off,x,e1,e2,e3,e4⟩:=hb k hk
 have:=y4 e2
 exact⟨b,off,x,e1,by simp at this;omega,bc hs e2,e3,e4⟩
theorem Lq {w:World} {B g q k:Nat} {xs:List Int} (h:Own w B (.slice (some ⟨g,0,none⟩) xs.length q) xs) (hk:k<=xs.length):Own w B (.slice (some ⟨g,0,none⟩) k q) (xs.take k):=by
 have hl:(xs.take k).length=k:=by rw[List.length_take];omega
 obtain⟨h1,h2⟩:=h;refine⟨by simp,?_⟩;rcases h2 with⟨h2,-⟩ | ⟨g',cap,cur,e1,e2,e3,e4,e5,e6,e7⟩
 ·cases h2
 ·cases e1
  refine .inr ⟨g,q,cur,by rw[hl],e2,e3,by rw[hl];omega,e5,e6,?_⟩
  rw[hl,List.map_take,<- e7,List.take_take];congr 1
  omega
theorem Gd.acz {R M:Nat} {n:aj} (h:Gd R M n) (k:Nat) (x:Int):Gd R M { n with acn:=n.acn.set k x }:=
 ⟨h.ends,h.row,h.ids,by show(n.acn.set k x).length=_;rw[List.length_set];exact h.acn,h.wf⟩
theorem Mb.mono {cb B pb:Nat} {A:Option Addr} {L c P P':Nat} {w W:World} {ve vi vn:Value} {N:aj} {S:List Nat} (h:Mb cb B pb A L c P w W ve vi vn N S) (hP:P<=P'):Mb cb B pb A L c P' w W ve vi vn N S:=⟨h.own,h.box,h.nb,h.cur.mono hP,h.far⟩
theorem Mb.acz {cb B pb g k cc nn:Nat} {A:Option Addr} {L c P:Nat} {w W:World} {ve vi:Value} {N:aj} {S:List Nat} (h:Mb cb B pb A L c P w W ve vi (.slice (some ⟨g,0,none⟩) nn cc) N S) (x:Int) (hk:k<N.acn.length) (hb:cb<B):
  W.frozen? ⟨g,k,none⟩=false/\Mb cb B pb A L c P w (W.setCell ⟨g,k,none⟩ (.int .i64 x)) ve vi (.slice (some ⟨g,0,none⟩) nn cc) { N with acn:=N.acn.set k x } S:=by
 obtain⟨h1,h2,h3⟩:=h.own.acz x hk;have hg:=(h.own.range g h1).1
 refine⟨h2,⟨h3,h.box.blk (Below.heap_setCell _ _ _ _ (fun e=>h.nb (by have e':pb=g:=e;exact e' ▸ h1))),h.nb,h.cur.keep (fun j hj=>Below.heap_setCell _ _ _ _ (by show j≠g;omega)),h.far.setCell (p:=⟨g,k,none⟩) (.inl hg) _⟩⟩
theorem Mb.acU {cb B pb og:Nat} {A:Option Addr} {L c P:Nat} {w W W1:World} {ve vi vn v' uo:Value} {N:aj} {S T:List Nat} {y:Int} {xs:List Int} {Bo:Nat} (h:Mb cb B pb A L c P w W ve vi vn N S) (ho:j_ W1 B v' (N.ids++[y]) T) (eH:aX vi.ownBlock.toList W W1) (hT:∀j∈T,j∈vi.ownBlock.toList\/W.heap.size<=j) (hb:cb<B) (hp:B<=pb) (hB:B<=W.heap.size)
  (vj:Own W Bo uo xs) (Wd:uo.ownBlock=some og) (Ru:og∉S/\og≠pb):
  aY W1 pb ve vi vn/\∃S',Mb cb B pb A L c P w (W1.setCell ⟨pb,1,none⟩ v') ve v' vn { N with ids:=N.ids++[y] } S'/\Own (W1.setCell ⟨pb,1,none⟩ v') Bo uo xs/\W.heap.size<=(W1.setCell ⟨pb,1,none⟩ v').heap.size/\og∉S':=by
 obtain⟨bB,S',fP,x7⟩:=h.acC ho eH hT hb hp hB;have NV:=h.acx.2;have Rv:=(World.ownsRow.lt vj og Wd).2
 refine⟨bB,S',fP,aG vj (fun j hj=>?_),by rw[iV];exact eH.size,fun hj=>?_⟩
 ·have Da:j=og:=by rw[Wd]at hj;simpa[eq_comm]using hj
  subst Da;rw[Below.heap_setCell _ _ _ _ (by exact Ru.2)];exact eH.block _ Rv (fun hm=>Ru.1 (NV _ hm))
 ·rcases x7 _ hj with h1 | h1
  ·exact Ru.1 h1
  ·omega
theorem nY (cb:Nat) (A:Option Addr) (L c P B g q n:Nat) (xs:List Int) (w:World) (h:cG w cb A L c P) (hP:P<=4611686018427387000) (ho:Own w B (.slice (some ⟨g,0,none⟩) n q) xs) (hn:n=xs.length) (hB:cb<B) (hx:1<=xs.length) (sa:xs.length<=1048576):
  Calls Tryz.prog 68 #[.pointer (some ⟨cb,0,none⟩),.slice (some ⟨g,0,none⟩) n q] w fun e w'=>∃x,e=.returned (.int .i64 x)/\x∈xs/\cG w' cb A L c (P+2)/\CB cb w.heap.size w w':=by
 subst hn;exact FN cb A L c P B g q xs w h hP ho hB hx sa
section
variable {P : Program} {ops : Array Oper}
def nC (P:Program) (o:Oper) (A:Act) (W:World) (post:Value->World->Prop):Prop:=
 match (execOp A.eval o).run P W with
 | .ok (.value u) W'=>post u W'
 | .ok .skip W'=>post undef W'
 | .ok (.enter f args) W'=>Calls P f args W' fun e lU=>∃u,e=.returned u/\post u lU
 | _=>False
theorem aq {o:Oper} {A:Act} {W W':World} {u:Value} {post:Value->World->Prop} (h:(execOp A.eval o).run P W=.ok (.value u) W') (hp:post u W'):nC P o A W post:=by
 unfold nC;rw[h];exact hp
theorem Ck {o:Oper} {A:Act} {W W':World} {post:Value->World->Prop} (h:(execOp A.eval o).run P W=.ok .skip W') (hp:post undef W'):nC P o A W post:=by
 unfold nC;rw[h];exact hp
theorem ee {o:Oper} {A:Act} {W W':World} {f:FuncId} {args:Array Value} {post:Value->World->Prop} (h:(execOp A.eval o).run P W=.ok (.enter f args) W') (hp:Calls P f args W' fun e lU=>∃u,e=.returned u/\post u lU):nC P o A W post:=by
 unfold nC;rw[h];exact hp
def WN (ops:Array Oper) (k:Nat) (cs:List Nat):Bool:=
 (List.range k).all fun i=>match ops[i]? with
  | none=>true
  | some o=>match cs.findIdx? (fun x=>x==i) with
   | none=>true
   | some r=>r==0||(match cs[r-1]? with | some j=>(bg o).contains j | none=>false)
theorem xe {cs:List Nat} {i j r:Nat} (h:cs.findIdx? (fun x=>x==i)=some r) (h':cs.findIdx? (fun x=>x==j)=some r):i=j:=by
 obtain⟨hr,h1,-⟩:=List.findIdx?_eq_some_iff_getElem.1 h;obtain⟨IM,TC,-⟩:=List.findIdx?_eq_some_iff_getElem.1 h';have e1:cs[r]=i:=by simpa using h1
 have e2:cs[r]=j:=by simpa using TC
 omega
end
end Go.Proofs.YtgmdpppljkmabaaGreat
