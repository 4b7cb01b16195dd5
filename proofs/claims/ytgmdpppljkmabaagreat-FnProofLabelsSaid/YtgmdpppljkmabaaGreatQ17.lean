/- Parts of the proof: walks of functions and plain laws. -/
import Derived.Test.YtgmdpppljkmabaaGreatQ0
import Derived.Test.YtgmdpppljkmabaaGreatQ16
import Derived.Test.YtgmdpppljkmabaaGreatQ6
import Derived.Test.YtgmdpppljkmabaaGreatQ3
import Derived.Test.YtgmdpppljkmabaaGreatQ5
import Derived.Test.YtgmdpppljkmabaaGreatQ1
import Derived.Test.YtgmdpppljkmabaaGreatQ4
import Derived.Test.YtgmdpppljkmabaaGreatQ11
set_option maxRecDepth 100000
set_option maxHeartbeats 16000000
namespace Go.Proofs.YtgmdpppljkmabaaGreat
open Go Go.RowKit
theorem v7 (cb:Nat) (A:Option Addr) (L c P:Nat) (B g q m:Nat) (xs:List Int) (w:World) (hm:xs.length=m) (h:dm w cb A L c P) (hP:P<=4611686018427387000) (ho:Own w B (.slice (some ⟨g,0,none⟩) m q) xs) (hB:cb<B) (hx:1<=xs.length) (oQ:xs.length<=1048576):
  Calls Tryz.prog 68 #[.pointer (some ⟨cb,0,none⟩),.slice (some ⟨g,0,none⟩) m q] w fun e w'=>∃x,e=.returned (.int .i64 x)/\x∈xs/\dm w' cb A L c (P+2)/\CB cb w.heap.size w w':=by
 subst hm;exact Ji cb A L c P B g q xs w h hP ho hB hx oQ
section
variable {cb pb : Nat} {A : Option Addr} {L c P : Nat} {w W : World} {ve vi vn : Value} {N : ak} {S : List Nat}
theorem Br.aen {g m d k:Nat} (h:Br cb pb A L c P w W ve vi (.slice (some ⟨g,0,none⟩) m d) N S) (x:Int) (hk:k<N.aea.length):
  W.frozen? ⟨g,k,none⟩=false/\(∃z,W.cell? ⟨g,k,none⟩=some z)/\Br cb pb A L c P w (W.setCell ⟨g,k,none⟩ (.int .i64 x)) ve vi (.slice (some ⟨g,0,none⟩) m d) { N with aea:=N.aea.set k x } S:=by
 obtain⟨h1,h2,h3⟩:=h.mb.own.aen x hk;exact⟨h2,h.mb.own.aez hk,h.own h3 (fun j hj=>.inl hj) ((bg.refl _ _).setCell (.inl h1) _)⟩
theorem Br.aeQ {g m d k:Nat} (h:Br cb pb A L c P w W ve (.slice (some ⟨g,0,none⟩) m d) vn N S) (x:Int) (hk:k<N.ids.length):
  W.frozen? ⟨g,k,none⟩=false/\(∃z,W.cell? ⟨g,k,none⟩=some z)/\∃S',Br cb pb A L c P w (W.setCell ⟨g,k,none⟩ (.int .i64 x)) ve (.slice (some ⟨g,0,none⟩) m d) vn { N with ids:=N.ids.set k x } S':=by
 obtain⟨⟨ho,-⟩,hs⟩:=h.mb.aej;obtain⟨y,hy⟩:=aM N.ids k hk;have eY:bg (Value.slice (some ⟨g,0,none⟩) m d).ownBlock.toList W (W.setCell ⟨g,k,none⟩ (.int .i64 x)):=(bg.refl _ _).setCell (.inl (by simp[Value.ownBlock])) _;obtain⟨S',h1,h2⟩:=h.mb.own.aeu (vi':=.slice (some ⟨g,0,none⟩) m d) ⟨ho.set (k:=k) x,rfl⟩ eY (fun j hj=>.inl hj)
 exact⟨ho.free k,⟨_,ho.cell hy⟩,S',h.own h1 h2 (eY.mono hs)⟩
theorem Br.aep {g m d k:Nat} {xs:List (Int×Int)} (h:Br cb pb A L c P w W (.slice (some ⟨g,0,none⟩) m d) vi vn N S) (hx:N.ends[k]?=some xs) (h0:0<xs.length):
  ∃gr cr,W.cell? ⟨g,k,none⟩=some (.slice (some ⟨gr,0,none⟩) xs.length cr)/\W.frozen? ⟨gr,0,none⟩=false/\W.frozen? ⟨gr,1,none⟩=false/\(∃z,W.cell? ⟨gr,0,none⟩=some z)/\(∃z,W.cell? ⟨gr,1,none⟩=some z) /\
   (∀x:Int,∃y,Br cb pb A L c P w (W.setCell ⟨gr,0,none⟩ (.int .i64 x)) (.slice (some ⟨g,0,none⟩) m d) vi vn { N with ends:=N.ends.set k (xs.set 0 y) } S) /\
   (∀x:Int,∃y,Br cb pb A L c P w (W.setCell ⟨gr,1,none⟩ (.int .i64 x)) (.slice (some ⟨g,0,none⟩) m d) vi vn { N with ends:=N.ends.set k (xs.set 0 y) } S):=by
 obtain⟨gr,cr,h1,h2,f0,f1,c0,c1,a,b⟩:=h.mb.own.setPort hx h0;refine⟨gr,cr,h1,f0,f1,c0,c1,fun x=>?_,fun x=>?_⟩
 ·obtain⟨y,hy⟩:=a x;exact⟨y,h.own hy (fun j hj=>.inl hj) ((bg.refl _ _).setCell (.inl h2) _)⟩
 ·obtain⟨y,hy⟩:=b x;exact⟨y,h.own hy (fun j hj=>.inl hj) ((bg.refl _ _).setCell (.inl h2) _)⟩
end
theorem Bd.more {n:ak} (h:Bd n) (h1:n.ends.length<=60) (h2:n.aea.length<=60):Bd { n with ends:=n.ends++[[]],aea:=n.aea++[0] }:=by
 refine⟨by simp;omega,fun k es he=>?_,h.ids,by simp;omega⟩
 have he:(n.ends++[[]])[k]?=some es:=he;rw[List.getElem?_append]at he
 split at he
 ·exact h.row k es he
 ·have:es=[]:=by
   have h3:=List.mem_of_getElem? he;simpa using h3
  rw[this];simp
def p8:Option Value->Nat
 | some (.slice _ n _)=>n
 | _=>0
theorem sQ {w:World} {B:Nat} (xs:List Int) {v:Value} {o:Obj} (ho:o=.cells (xs.map (Value.int .i64)).toArray 3) (hv:v=.slice (some ⟨w.heap.size,0,none⟩) xs.length xs.length) (hl:xs.length<=1000) (hB:B<=w.heap.size):Own (w.alloc o) B v xs:=by
 subst ho hv
 exact(gU w xs (by unfold maxLen;omega)).mono hB
theorem Ej (cb:Nat) (A:Option Addr) (L c P R M:Nat) (ve vi vn:Value) (n:ak) (w:World) (hc:dm w cb A L c P) (hP:P<=4400000000000000000) (h:aQ w ve vi vn n) (hg:Gd R M n) (hn0:0<n.ends.length) (hR:R<=100) (hM:M<=40):
  Calls Tryz.prog 129 #[.pointer (some ⟨cb,0,none⟩),.agg #[ve,vi,vn]] w (vB cb w.heap.size A L c (P+3000) w Bd):=by
 have adY:n.ends.length<=40:=Nat.le_trans hg.ends hM;have rL:Hid (n.aea.length=n.ends.length):=hg.aea
 have Jq:∀(k:Nat) (es:List (Int×Int)),n.ends[k]?=some es->es.length<=100:=fun k es he=>by have:=hg.row k es he;omega
 have Rz:=zh Jq;have HM:=zh hM;have eT:=zh (hg.bd (by omega) (by omega));have hM2:M<=100:=by omega
 clear Jq hM;have ja:=hc.lt;obtain⟨A1,c1,rfl,-,rM,-⟩:=id h.1;obtain⟨AI,cI,rfl,-,-,-⟩:=id h.2.1;obtain⟨AN,cN,rfl,-,-,-⟩:=id h.2.2;obtain⟨pb,gG⟩:∃z,z=w.heap.size:=⟨_,rfl⟩
 obtain⟨w0,cG⟩:∃z,z=w.alloc (.cells #[.slice A1 n.ends.length c1,.slice AI n.ids.length cI,.slice AN n.aea.length cN] 27):=⟨_,rfl⟩
 obtain⟨wa,lj⟩:∃z,z=w0.alloc (.cells #[.slice none 0 0,.slice none 0 0,.slice none 0 0] 27):=⟨_,rfl⟩
 have bB:aa w w0:=by rw[cG];exact ag _ (ad _)
 have cY:aa w0 wa:=by rw[lj];exact ag _ (ad _)
 have nk:w0.heap.size=w.heap.size+1:=by rw[cG];simp
 have nu:bD w0 pb (.slice A1 n.ends.length c1) (.slice AI n.ids.length cI) (.slice AN n.aea.length cN):=by rw[cG,gG];exact bD.new _ _ _ _ _
 have L9:=nu.below cY (by rw[nk,gG];omega)
 have gY:bx wa (pb+1) (.slice none 0 0) (.slice none 0 0) (.slice none 0 0):=by
  rw[lj,gG,<- nk];show(w0.heap.push _)[w0.heap.size]?=_
  rw[Array.getElem?_push_size]
 have lK:aa w wa:=bB.after cY
 have ft:Hid (cb<pb/\pb+2=wa.heap.size/\pb=w.heap.size):=⟨by omega,by rw[gG,lj];simp;omega,gG⟩
 have Ap:=zh lK;have iF:=zh gY;have Vr:=zh L9;have Xg:=zh (hc.since lK);have HNa:=zh (h.keep lK.below);have Hg:=zh hg;have bK:=zh cG;have FK:=zh lj;have fe:=L9.cells
 have KY:n.ends.length<=100:=by have:=hg.ends;omega
 clear hc h bB cY nu gY lK L9 hg cG lj gG nk
 go_enter Tryz.func129,Tryz.ntmps129
 go_upto_region 1 with(fail);rw[<- bK.out,<- FK.out,<- ft.out.2.2];obtain⟨x0,x1,x2,f0,f1,f2⟩:=fe;go_wp2_with fail
 refine(kW _ _ _ n wa HNa.out (by omega) (fun k es he=>by have:=Hg.out.row k es he;omega) (Hg.out.small hR hM2).sz).mono ?_
 rintro e w1 ⟨ue,ui,un,S0,rfl,ho,ay⟩;have cY:aa wa w1:=ay;obtain⟨E1,e1,rfl,-,-,-⟩:=id ho.read.1;obtain⟨EI,eI,rfl,-,-,-⟩:=id ho.read.2.1;obtain⟨EN,eN,rfl,-,-,-⟩:=id ho.read.2.2;clear x0 x1 x2 f0 f1 f2;have G1:=Vr.out.below cY Vr.out.lt;obtain⟨x0,x1,x2,f0,f1,f2⟩:=G1.cells
 have Qi:pb∉S0:=fun hj=>by have h1:=(ho.range _ hj).1;have h2:=ft.out;omega
 have iJ:Mb cb w.heap.size pb A L c P w (aed w1 pb (.slice E1 n.ends.length e1) (.slice EI n.ids.length eI) (.slice EN n.aea.length eN)) (.slice E1 n.ends.length e1) (.slice EI n.ids.length eI) (.slice EN n.aea.length eN) n S0:=by
  have h0:=ft.out
  refine⟨(ho.aeb (fun k hk=>dZ _ _ _ _ _ (fun e=>Qi (by have e':k=pb:=e;exact e' ▸ hk)))).mono (by omega),G1.aed _ _ _,Qi,((Xg.out.since cY).keep (fun k hk=>dZ _ _ _ _ _ (by omega))),?_⟩
  exact((((CB.of (Ap.out.after cY).below).mono (Nat.le_refl _)).setCell (p:=⟨pb,0,none⟩) (.inl (by show _<=pb;omega)) _).setCell (p:=⟨pb,1,none⟩) (.inl (by show _<=pb;omega)) _).setCell (p:=⟨pb,2,none⟩) (.inl (by show _<=pb;omega)) _
 have oD:bx (aed w1 pb (.slice E1 n.ends.length e1) (.slice EI n.ids.length eI) (.slice EN n.aea.length eN)) (pb+1) (.slice none 0 0) (.slice none 0 0) (.slice none 0 0):=(dZ _ _ _ _ _ (by omega)).trans (iF.out.since cY)
 have dV:wa.heap.size<=(aed w1 pb (.slice E1 n.ends.length e1) (.slice EI n.ids.length eI) (.slice EN n.aea.length eN)).heap.size:=by rw[gQ];exact cY.below.size
 have kz:pb+1∉S0:=fun hj=>by have h1:=(ho.range _ hj).1;have h2:=ft.out;omega
 have B3:=zh iJ;have qL:=zh oD;have JU:=zh dV;have jm:=zh kz;have Hfz:=zh (And.intro f0 (And.intro f1 f2));clear iJ oD dV kz ho ay cY G1 Qi;go_upto_region 2 with(fail);obtain⟨w2,gR⟩:∃z,z=((w1.setCell ⟨pb,0,none⟩ (.slice E1 n.ends.length e1)).setCell ⟨pb,1,none⟩ (.slice EI n.ids.length eI)).setCell ⟨pb,2,none⟩ (.slice EN n.aea.length eN):=⟨_,rfl⟩
 rw[<- gR]
 have kC:Hid (Mb cb w.heap.size pb A L c P w w2 (.slice E1 n.ends.length e1) (.slice EI n.ids.length eI) (.slice EN n.aea.length eN) n S0):=by show Mb _ _ _ _ _ _ _ _ _ _ _ _ _ _;rw[gR];exact B3.out
 have yJ:Hid (bx w2 (pb+1) (.slice none 0 0) (.slice none 0 0) (.slice none 0 0)):=by show bx _ _ _ _ _;rw[gR];exact qL.out
 have EZ:Hid (wa.heap.size<=w2.heap.size):=by show _<=_;rw[gR];exact JU.out
 have vc:Hid (Br cb pb A L c P w w2 (.slice E1 n.ends.length e1) (.slice EI n.ids.length eI) (.slice EN n.aea.length eN) n S0):=by show Br _ _ _ _ _ _ _ _ _ _ _ _ _;exact⟨kC.out,yJ.out,jm.out,ft.out.2.2,ft.out.1⟩
 clear gR B3 qL JU Hfz x0 x1 x2 f0 f1 f2 kC yJ EZ;obtain⟨g,rfl,-⟩:=vc.out.mb.own.head hn0
 obtain⟨gN,rfl⟩:=vc.out.mb.own.aeG (by have:=rL.out;omega)
 have iN:pb≠cb:=by have:=ft.out;omega
 obtain⟨k0,-,-,-,-,-⟩:=vc.out.mb.box.cells;go_wp2_with fail;refine(dJ cb A L c P (n.ends.length:Int) w2 vc.out.mb.cur (by omega) (by omega)).mono ?_;rintro e w3 ⟨v,rfl,hv,tP,ly⟩;have hvl:v<n.ends.length:=by omega
 have hvi:v<n.aea.length:=by have:=rL.out;omega
 have Jd:=zh (vc.out.seen ly tP);clear tP ly hv k0;go_wp2_with fail;refine(dJ cb A L c (P+2) 40 w3 Jd.out.mb.cur (by omega) (by omega)).mono ?_;rintro e w4 ⟨x,rfl,hx,pD,pY⟩;have lR:=zh (Jd.out.seen pY pD);clear pD pY hx;obtain⟨xv,rx⟩:∃x,x=dp n v:=⟨_,rfl⟩
 have qR:=dh hvl;rw[<- rx]at qR;have Hxv:=zh qR;have zi:=zh (Rz.out _ _ qR)
 have Ro:g≠cb:=fun e=>by
  obtain⟨gr,Tr,-,-,-,-,-,LJ,-⟩:=lR.out.mb.own.ael qR;have h1:=(lR.out.mb.own.range _ LJ).1;have h2:=ft.out;omega
 clear qR rx;rcases(show x=0\/x=1\/x=2\/x=3\/x=4\/x=5\/x=6\/x=7\/x=8\/9<=x by omega)with rfl | rfl | rfl | rfl | rfl | rfl | rfl | rfl | rfl | h9
 ·go_upto_region 5 with(fail);refine aL (fun W=>W.cell? ⟨pb,2,none⟩=some (.slice (some ⟨gN,0,none⟩) n.aea.length eN)) 6 [false,false,false,false,true,true] (by kernel_rfl) (by kernel_rfl) (show(World.drew w4).cell? ⟨pb,2,none⟩=some (.slice (some ⟨gN,0,none⟩) n.aea.length eN)from lR.out.mb.box.cells.2.2.1) ?_
  simp only[eE,ea,zT]
  iterate 4 (apply bV rfl;(intro W hW;(have k0:=hW);go_simp;with_reducible rfl);simp only[zA])
  obtain⟨W,dE⟩:∃W,W=World.drew w4:=⟨_,rfl⟩
  rw[<- dE];have hW:=(show(World.drew w4).cell? ⟨pb,2,none⟩=some (.slice (some ⟨gN,0,none⟩) n.aea.length eN)from lR.out.mb.box.cells.2.2.1);rw[<- dE]at hW;have gA:=zh dE;clear dE
  refine dD (v:=?_) (ob:=?_) rfl ?_ ?_ ?_;rotate_left 2
  (go_simp;first | with_reducible rfl | (refine⟨?_,?_⟩ <;> with_reducible rfl))
  exact bc (am _ _) hW;intro w5 lO pf
  replace hW:=pf
  clear pf
  have vx:aa w4 w5:=(by rw[lO,gA.out];exact ag _ (aj (ad _)))
  have E9:=zh ((lR.out).since vx)
  have FR:Hid (Own w5 w4.heap.size (.slice (some ⟨w4.heap.size,0,none⟩) 3 3) [-1,9,10]):=(by show Own _ _ _ _;rw[lO,gA.out];exact sQ [-1,9,10] rfl rfl (by simp) (Nat.le_refl _))
  have Vt:cb<w4.heap.size:=(lR.out).mb.cur.lt
  rw[show W.heap.size=w4.heap.size from by rw[gA.out];rfl]
  clear lO vx
  (try simp only[zA])
  refine Or.inl ⟨rfl,?_⟩
  go_simp
  (with_reducible refine(v7 cb A L c (P+4) w4.heap.size w4.heap.size 3 3 [-1,9,10] _ rfl E9.out.mb.cur (by omega) FR.out Vt (by simp) (by simp)).mono ?_)
  rintro e W' ⟨a,rfl,ha,fh,hC⟩;refine⟨_,rfl,aA hW iN _ hC,?_⟩
  replace hW:=aA hW iN _ hC
  have Ma:=zh (E9.out.seen hC fh);clear fh hC ha
  (try simp only[zA])
  simp only[bz]
  obtain⟨f9,⟨z9,c9⟩,xU⟩:=Ma.out.aen (k:=v) a (by have:=rL.out;omega)
  have me:=zh xU;clear xU;go_upto_region 29 with(fail);obtain⟨w7,pE⟩:∃z,z=W'.setCell ⟨gN,v,none⟩ (.int .i64 a):=⟨_,rfl⟩
  rw[<- pE];rw[<- pE]at me;clear pE hW c9 f9;obtain⟨k0,k1,k2,-,-,-⟩:=(me.out).mb.box.cells;obtain⟨e0,Gu,e2,f0,f1,f2⟩:=(me.out).rb.box.cells;have c_:=zh (me.out).ret;go_wp2;refine bodyPost_ret (v:=.agg #[.slice (some ⟨g,0,none⟩) n.ends.length e1,.slice EI n.ids.length eI,.slice (some ⟨gN,0,none⟩) n.aea.length eN]) (by simp[results,Tryz.results129,go_sem, *]) rfl ?_;obtain⟨r1,r2,r3⟩:=c_.out
  exact⟨_,_,_,_,_,rfl,r1,⟨eT.out.ends,eT.out.row,eT.out.ids,by show(List.set _ _ _).length<=_;rw[List.length_set];exact eT.out.aea⟩,r2.mono (by omega),r3⟩
 ·have oa:aa w4 (w4.alloc (.cells #[.int .i64 0] 3)):=ag _ (ad _);have E9:=zh (lR.out.since oa);clear oa;obtain⟨k0,k1,k2,f0,f1,f2⟩:=lR.out.mb.box.cells
  go_upto_region 29 with(at_builtin;refine jW (base:=w.heap.size) rfl _ _ rfl rfl E9.out.mb.aeF.1.1 rfl (sP _ _) (by have:=eT.out.aea;simp;omega) E9.out.sz ?_;intro v' w6 T d6 vg hT6;obtain⟨V,mV,cV,rfl⟩:=iy.one d6;obtain⟨Fm,S6,xU⟩:=E9.out.aeD d6 vg hT6;clear k0 k1 k2 f0 f1 f2 d6 vg hT6;obtain⟨k0,k1,k2,f0,f1,f2⟩:=Fm.cells;have me:=zh xU;clear Fm xU)
  obtain⟨w7,pE⟩:∃z,z=w6.setCell ⟨pb,2,none⟩ (.slice V mV cV):=⟨_,rfl⟩
  rw[<- pE];rw[<- pE]at me;clear pE k0 k1 k2 f0 f1 f2;obtain⟨k0,k1,k2,-,-,-⟩:=(me.out).mb.box.cells;obtain⟨e0,Gu,e2,f0,f1,f2⟩:=(me.out).rb.box.cells;have c_:=zh (me.out).ret;go_wp2;refine bodyPost_ret (v:=.agg #[.slice (some ⟨g,0,none⟩) n.ends.length e1,.slice EI n.ids.length eI,.slice V mV cV]) (by simp[results,Tryz.results129,go_sem, *]) rfl ?_;obtain⟨r1,r2,r3⟩:=c_.out
  exact⟨_,_,_,_,_,rfl,r1,⟨eT.out.ends,eT.out.row,eT.out.ids,by have:=rL.out;simp;omega⟩,r2.mono (by omega),r3⟩
 ·have hx:=Hxv.out
  by_cases tr:0<xv.length
  ·obtain⟨gr,cr,FO,-,-,-,-,-,-⟩:=lR.out.aep hx tr
   have e0:((0:Int)<(xv.length:Int))=True:=by simp;omega
   obtain⟨k0,-,-,-,-,-⟩:=lR.out.mb.box.cells;go_upto_region 10 with(fail);refine aL (fun W=>W.cell? ⟨pb,0,none⟩=some (.slice (some ⟨g,0,none⟩) n.ends.length e1)/\W.cell? ⟨g,v,none⟩=some (.slice (some ⟨gr,0,none⟩) xv.length cr)) 8 [false,false,false,false,false,false,true,true] (by kernel_rfl) (by kernel_rfl) (show(World.drew w4).cell? ⟨pb,0,none⟩=some (.slice (some ⟨g,0,none⟩) n.ends.length e1)/\(World.drew w4).cell? ⟨g,v,none⟩=some (.slice (some ⟨gr,0,none⟩) xv.length cr)from⟨lR.out.mb.box.cells.1,FO⟩) ?_
   simp only[eE,ea,zT]
   iterate 6 (apply bV rfl;(intro W hW;(obtain⟨k0,k1⟩:=hW);go_simp;with_reducible rfl);simp only[zA])
   obtain⟨W,dE⟩:∃W,W=World.drew w4:=⟨_,rfl⟩
   rw[<- dE];have hW:=(show(World.drew w4).cell? ⟨pb,0,none⟩=some (.slice (some ⟨g,0,none⟩) n.ends.length e1)/\(World.drew w4).cell? ⟨g,v,none⟩=some (.slice (some ⟨gr,0,none⟩) xv.length cr)from⟨lR.out.mb.box.cells.1,FO⟩);rw[<- dE]at hW;have gA:=zh dE;clear dE
   refine dD (v:=?_) (ob:=?_) rfl ?_ ?_ ?_;rotate_left 2
   (go_simp;first | with_reducible rfl | (refine⟨?_,?_⟩ <;> with_reducible rfl))
   exact⟨bc (am _ _) hW.1,bc (am _ _) hW.2⟩;intro w5 lO pf
   replace hW:=pf
   clear pf
   have vx:aa w4 w5:=(by rw[lO,gA.out];exact ag _ (aj (ad _)))
   have E9:=zh ((lR.out).since vx)
   have FR:Hid (Own w5 w4.heap.size (.slice (some ⟨w4.heap.size,0,none⟩) 4 4) [-1,0,1,6]):=(by show Own _ _ _ _;rw[lO,gA.out];exact sQ [-1,0,1,6] rfl rfl (by simp) (Nat.le_refl _))
   have Vt:cb<w4.heap.size:=(lR.out).mb.cur.lt
   rw[show W.heap.size=w4.heap.size from by rw[gA.out];rfl]
   clear lO vx
   (try simp only[zA])
   refine Or.inl ⟨rfl,?_⟩
   go_simp
   (with_reducible refine(v7 cb A L c (P+4) w4.heap.size w4.heap.size 4 4 [-1,0,1,6] _ rfl E9.out.mb.cur (by omega) FR.out Vt (by simp) (by simp)).mono ?_)
   rintro e W' ⟨a,rfl,ha,fh,hC⟩;refine⟨_,rfl,And.intro (aA hW.1 iN _ hC) (aA hW.2 Ro _ hC),?_⟩
   replace hW:=And.intro (aA hW.1 iN _ hC) (aA hW.2 Ro _ hC)
   have Ma:=zh (E9.out.seen hC fh);clear fh hC ha
   (try simp only[zA])
   simp only[bz];obtain⟨gr2,cr2,h1,f0,f1,⟨z0,c0⟩,⟨z1,c1⟩,hA,hB⟩:=Ma.out.aep hx tr;rw[hW.2]at h1
   injection h1 with h1
   injection h1 with h1 h2 h3
   injection h1 with h1
   injection h1 with h1
   subst h1;obtain⟨y,xU⟩:=hB a;have me:=zh xU;clear hA hB xU k0;go_upto_region 29 with(fail);obtain⟨w7,pE⟩:∃z,z=W'.setCell ⟨gr,1,none⟩ (.int .i64 a):=⟨_,rfl⟩
   rw[<- pE];rw[<- pE]at me;clear pE hW c0 c1 f0 f1 e0 FO;obtain⟨k0,k1,k2,-,-,-⟩:=(me.out).mb.box.cells;obtain⟨e0,Gu,e2,f0,f1,f2⟩:=(me.out).rb.box.cells;have c_:=zh (me.out).ret;go_wp2;refine bodyPost_ret (v:=.agg #[.slice (some ⟨g,0,none⟩) n.ends.length e1,.slice EI n.ids.length eI,.slice (some ⟨gN,0,none⟩) n.aea.length eN]) (by simp[results,Tryz.results129,go_sem, *]) rfl ?_;obtain⟨r1,r2,r3⟩:=c_.out
   exact⟨_,_,_,_,_,rfl,r1,eT.out.setRow v (by rw[List.length_set];have:=zi.out;omega),r2.mono (by omega),r3⟩
  ·have hxz:xv.length=0:=by omega
   obtain⟨u0,T0,Of,-,TF,-,-,-⟩:=lR.out.mb.own.aef hx;obtain⟨AU,cU,rfl,-,-,-⟩:=id TF.read;have rx:xv=[]:=List.eq_nil_of_length_eq_zero hxz;rw[hxz]at Of;clear TF;obtain⟨k0,-,-,-,-,-⟩:=lR.out.mb.box.cells;go_upto_region 29 with(fail);clear k0 Of;obtain⟨k0,k1,k2,-,-,-⟩:=(lR.out).mb.box.cells;obtain⟨e0,Gu,e2,f0,f1,f2⟩:=(lR.out).rb.box.cells;have c_:=zh (lR.out).ret;go_wp2;refine bodyPost_ret (v:=.agg #[.slice (some ⟨g,0,none⟩) n.ends.length e1,.slice EI n.ids.length eI,.slice (some ⟨gN,0,none⟩) n.aea.length eN]) (by simp[results,Tryz.results129,go_sem, *]) rfl ?_;obtain⟨r1,r2,r3⟩:=c_.out;exact⟨_,_,_,_,_,rfl,r1,eT.out,r2.mono (by omega),r3⟩
 ·have hx:=Hxv.out
  by_cases tr:0<xv.length
  ·obtain⟨gr,cr,FO,-,-,-,-,-,-⟩:=lR.out.aep hx tr
   have e0:((0:Int)<(xv.length:Int))=True:=by simp;omega
   obtain⟨k0,-,-,-,-,-⟩:=lR.out.mb.box.cells;go_upto_region 13 with(fail);refine aL (fun W=>W.cell? ⟨pb,0,none⟩=some (.slice (some ⟨g,0,none⟩) n.ends.length e1)/\W.cell? ⟨g,v,none⟩=some (.slice (some ⟨gr,0,none⟩) xv.length cr)) 11 [false,false,false,false,false,false,false,false,false,true,true] (by kernel_rfl) (by kernel_rfl) (show(World.drew w4).cell? ⟨pb,0,none⟩=some (.slice (some ⟨g,0,none⟩) n.ends.length e1)/\(World.drew w4).cell? ⟨g,v,none⟩=some (.slice (some ⟨gr,0,none⟩) xv.length cr)from⟨lR.out.mb.box.cells.1,FO⟩) ?_
   simp only[eE,ea,zT]
   iterate 9 (apply bV rfl;(intro W hW;(obtain⟨k0,k1⟩:=hW);go_simp;with_reducible rfl);simp only[zA])
   obtain⟨W,dE⟩:∃W,W=World.drew w4:=⟨_,rfl⟩
   rw[<- dE];have hW:=(show(World.drew w4).cell? ⟨pb,0,none⟩=some (.slice (some ⟨g,0,none⟩) n.ends.length e1)/\(World.drew w4).cell? ⟨g,v,none⟩=some (.slice (some ⟨gr,0,none⟩) xv.length cr)from⟨lR.out.mb.box.cells.1,FO⟩);rw[<- dE]at hW;have gA:=zh dE;clear dE
   refine dD (v:=?_) (ob:=?_) rfl ?_ ?_ ?_;rotate_left 2
   (go_simp;first | with_reducible rfl | (refine⟨?_,?_⟩ <;> with_reducible rfl))
   exact⟨bc (am _ _) hW.1,bc (am _ _) hW.2⟩;intro w5 lO pf
   replace hW:=pf
   clear pf
   have vx:aa w4 w5:=(by rw[lO,gA.out];exact ag _ (aj (ad _)))
   have E9:=zh ((lR.out).since vx)
   have FR:Hid (Own w5 w4.heap.size (.slice (some ⟨w4.heap.size,0,none⟩) 3 3) [-1,0,(n.ends.length:Int)]):=(by show Own _ _ _ _;rw[lO,gA.out];exact sQ [-1,0,(n.ends.length:Int)] rfl rfl (by simp) (Nat.le_refl _))
   have Vt:cb<w4.heap.size:=(lR.out).mb.cur.lt
   rw[show W.heap.size=w4.heap.size from by rw[gA.out];rfl]
   clear lO vx
   (try simp only[zA])
   refine Or.inl ⟨rfl,?_⟩
   go_simp
   (with_reducible refine(v7 cb A L c (P+4) w4.heap.size w4.heap.size 3 3 [-1,0,(n.ends.length:Int)] _ rfl E9.out.mb.cur (by omega) FR.out Vt (by simp) (by simp)).mono ?_)
   rintro e W' ⟨a,rfl,ha,fh,hC⟩;refine⟨_,rfl,And.intro (aA hW.1 iN _ hC) (aA hW.2 Ro _ hC),?_⟩
   replace hW:=And.intro (aA hW.1 iN _ hC) (aA hW.2 Ro _ hC)
   have Ma:=zh (E9.out.seen hC fh);clear fh hC ha
   (try simp only[zA])
   simp only[bz];obtain⟨gr2,cr2,h1,f0,f1,⟨z0,c0⟩,⟨z1,c1⟩,hA,hB⟩:=Ma.out.aep hx tr;rw[hW.2]at h1
   injection h1 with h1
   injection h1 with h1 h2 h3
   injection h1 with h1
   injection h1 with h1
   subst h1;obtain⟨y,xU⟩:=hA a;have me:=zh xU;clear hA hB xU k0;go_upto_region 29 with(fail);obtain⟨w7,pE⟩:∃z,z=W'.setCell ⟨gr,0,none⟩ (.int .i64 a):=⟨_,rfl⟩
   rw[<- pE];rw[<- pE]at me;clear pE hW c0 c1 f0 f1 e0 FO;obtain⟨k0,k1,k2,-,-,-⟩:=(me.out).mb.box.cells;obtain⟨e0,Gu,e2,f0,f1,f2⟩:=(me.out).rb.box.cells;have c_:=zh (me.out).ret;go_wp2;refine bodyPost_ret (v:=.agg #[.slice (some ⟨g,0,none⟩) n.ends.length e1,.slice EI n.ids.length eI,.slice (some ⟨gN,0,none⟩) n.aea.length eN]) (by simp[results,Tryz.results129,go_sem, *]) rfl ?_;obtain⟨r1,r2,r3⟩:=c_.out
   exact⟨_,_,_,_,_,rfl,r1,eT.out.setRow v (by rw[List.length_set];have:=zi.out;omega),r2.mono (by omega),r3⟩
  ·have hxz:xv.length=0:=by omega
   obtain⟨u0,T0,Of,-,TF,-,-,-⟩:=lR.out.mb.own.aef hx;obtain⟨AU,cU,rfl,-,-,-⟩:=id TF.read;have rx:xv=[]:=List.eq_nil_of_length_eq_zero hxz;rw[hxz]at Of;clear TF;obtain⟨k0,-,-,-,-,-⟩:=lR.out.mb.box.cells;go_upto_region 29 with(fail);clear k0 Of;obtain⟨k0,k1,k2,-,-,-⟩:=(lR.out).mb.box.cells;obtain⟨e0,Gu,e2,f0,f1,f2⟩:=(lR.out).rb.box.cells;have c_:=zh (lR.out).ret;go_wp2;refine bodyPost_ret (v:=.agg #[.slice (some ⟨g,0,none⟩) n.ends.length e1,.slice EI n.ids.length eI,.slice (some ⟨gN,0,none⟩) n.aea.length eN]) (by simp[results,Tryz.results129,go_sem, *]) rfl ?_;obtain⟨r1,r2,r3⟩:=c_.out;exact⟨_,_,_,_,_,rfl,r1,eT.out,r2.mono (by omega),r3⟩
 ·go_upto_region 15 with(fail)
  go_loopw [83] (fun _ wr=>∃(N:ak) (S:List Nat) (xs:List (Int×Int)),Br cb pb A L c (P+4+2*xs.length) w wr (.slice (some ⟨g,0,none⟩) n.ends.length e1) (.slice EI n.ids.length eI) (.slice (some ⟨gN,0,none⟩) n.aea.length eN) N S/\N.ends.length=n.ends.length/\N.ends[v]?=some xs/\Bd N/\xs.length<=200) (fun _ wr=>8-p8 (wr.cell? ⟨g,v,none⟩))
  case atStart=>exact⟨n,_,xv,lR.out.up (by omega),rfl,Hxv.out,eT.out,by have:=zi.out;omega⟩
  case round=>
   obtain⟨N,S,xs,hb,n_,hxs,hNb,vh⟩:=hrel;obtain⟨wo,rfl⟩:∃z,z=wr:=⟨_,rfl⟩
   obtain⟨u0,T0,Of,-,TF,-,-,-⟩:=hb.mb.own.aef hxs;obtain⟨AU,cU,rfl,-,-,-⟩:=id TF.read;have zm:=zh hb;have Hxs:=zh hxs;have TG:=zh hNb;have io:=zh n_;have Hu0:=zh Of;clear hb hxs hNb n_ TF Of;go_upto_region 15 with(fail);refine aL (fun W=>W.cell? ⟨pb,0,none⟩=some (.slice (some ⟨g,0,none⟩) n.ends.length e1)/\W.cell? ⟨g,v,none⟩=some (.slice AU xs.length cU)) 10 [false,false,false,false,false,false,false,true,true,true] (by kernel_rfl) (by kernel_rfl) (show(World.drew wo).cell? ⟨pb,0,none⟩=some (.slice (some ⟨g,0,none⟩) n.ends.length e1)/\(World.drew wo).cell? ⟨g,v,none⟩=some (.slice AU xs.length cU)from⟨zm.out.mb.box.cells.1,Hu0.out⟩) ?_
   simp only[eE,ea,zT]
   iterate 7 (apply bV rfl;(intro W hW;(obtain⟨k0,k1⟩:=hW);go_simp;with_reducible rfl);simp only[zA])
   obtain⟨W,dE⟩:∃W,W=World.drew wo:=⟨_,rfl⟩
   rw[<- dE];have hW:=(show(World.drew wo).cell? ⟨pb,0,none⟩=some (.slice (some ⟨g,0,none⟩) n.ends.length e1)/\(World.drew wo).cell? ⟨g,v,none⟩=some (.slice AU xs.length cU)from⟨zm.out.mb.box.cells.1,Hu0.out⟩);rw[<- dE]at hW;have gA:=zh dE;clear dE;refine Or.inl ⟨rfl,?_⟩
   go_simp
   (with_reducible refine(dJ cb A L c (P+4+2*xs.length) 2 W (by rw[gA.out];exact zm.out.mb.cur.since (aj (ad _))) (by omega) (by omega)).mono ?_)
   rintro e W' ⟨b,rfl,hb,fh,hC⟩;refine⟨_,rfl,And.intro (aA hW.1 iN _ hC) (aA hW.2 Ro _ hC),?_⟩
   replace hW:=And.intro (aA hW.1 iN _ hC) (aA hW.2 Ro _ hC)
   have qg:aa wo W:=(by rw[gA.out];exact aj (ad _))
   have me:=zh (zm.out.seen (((eF.refl cb wo).after qg).trans hC) fh);have bj:b<2:=(by omega);have m1:IntKind.i64.wrap (6+(b:Int))=6+(b:Int):=aF _ (by omega) (by omega);clear hC fh qg hb
   (try simp only[zA])
   refine dG (v:=?_) rfl ?_ hW ?_;rotate_left;(go_simp;with_reducible rfl)
   simp only[zA]
   refine dG (v:=?_) rfl ?_ hW ?_;rotate_left;(go_simp;with_reducible rfl)
   simp only[zA];simp only[bz];obtain⟨w7,rfl⟩:∃z,z=W':=⟨_,rfl⟩
   have QR:=zh hW;clear hW
   by_cases hlt:xs.length<6+b
   ·have e0:((xs.length:Int)<6+(b:Int))=True:=by simp;omega
    obtain⟨u2,T2,vI,Kn,Jk,ry,xL,sI,lA⟩:=me.out.mb.own.ael Hxs.out;have RA:=vI;rw[QR.out.2]at RA;have RA:=Option.some.inj RA;subst RA;have GH:=zh Jk;have rz:=zh lA;have GI:=zh xL;have GJ:=zh sI;have GK:=zh ry;have UX:=zh Kn;have GL:Hid (pb∉T2):=fun h=>me.out.mb.nb (ry _ h)
    have Xa:Hid (xs.length+1<=1000000):=by show _<=_;omega
    have xK:Hid (w.heap.size<=w7.heap.size):=me.out.sz;clear vI Kn Jk ry xL sI lA;go_upto_region 16 with(fail);refine aL (fun W=>W.cell? ⟨pb,0,none⟩=some (.slice (some ⟨g,0,none⟩) n.ends.length e1)/\W.cell? ⟨g,v,none⟩=some (.slice AU xs.length cU)) 18 [false,false,false,false,false,false,false,false,false,false,false,false,false,false,false,false,true,true] (by kernel_rfl) (by kernel_rfl) (show(World.drew w7).cell? ⟨pb,0,none⟩=some (.slice (some ⟨g,0,none⟩) n.ends.length e1)/\(World.drew w7).cell? ⟨g,v,none⟩=some (.slice AU xs.length cU)from⟨QR.out.1,QR.out.2⟩) ?_
    simp only[eE,ea,zT]
    iterate 16 (apply bV rfl;(intro W hW;(obtain⟨k0,k1⟩:=hW);go_simp;with_reducible rfl);simp only[zA])
    obtain⟨W,dE⟩:∃W,W=World.drew w7:=⟨_,rfl⟩
    rw[<- dE];have hW:=(show(World.drew w7).cell? ⟨pb,0,none⟩=some (.slice (some ⟨g,0,none⟩) n.ends.length e1)/\(World.drew w7).cell? ⟨g,v,none⟩=some (.slice AU xs.length cU)from⟨QR.out.1,QR.out.2⟩);rw[<- dE]at hW;have gA:=zh dE;clear dE
    refine dD (v:=?_) (ob:=?_) rfl ?_ ?_ ?_;rotate_left 2
    (go_simp;first | with_reducible rfl | (refine⟨?_,?_⟩ <;> with_reducible rfl))
    exact⟨bc (am _ _) hW.1,bc (am _ _) hW.2⟩;intro w8 ms mW
    replace hW:=mW
    clear mW
    have DZ:Hid (w8=(World.drew w7).alloc (.cells #[.int .i64 (v:Int),.int .i64 (xs.length:Int)] 83)):=by show _=_;rw[ms,gA.out]
    have kt:Hid (aa w7 w8):=by show aa _ _;rw[DZ.out];exact ag _ (aj (ad _))
    have uw:Hid (eO w8 w.heap.size (.slice AU xs.length cU) xs T2):=ip.keep GH.out kt.out.below
    have D4:Hid (w8.cell? ⟨w7.heap.size,0,none⟩=some (.int .i64 (v:Int))/\w8.cell? ⟨w7.heap.size,1,none⟩=some (.int .i64 (xs.length:Int))):=by show _/\_;rw[DZ.out];exact lx (World.drew w7) _ _ _
    rw[show W.heap.size=w7.heap.size from by rw[gA.out];rfl]
    clear ms gA
    (try simp only[zA])
    refine ee (fun Q' HQ=>?_)
    (refine kg (base:=w.heap.size) (v:=.slice AU xs.length cU) (xs:=xs) rfl _ _ rfl rfl uw.out w7.heap.size ((v:Int),(xs.length:Int)) rfl D4.out.1 D4.out.2 Xa.out (Nat.le_trans xK.out kt.out.below.size) ?_);intro g9 GB w9 iS p7 vA;have gL:=bg.aee p7;have xM:(Value.slice AU xs.length cU).ownBlock.toList=T2:=(GH.out.2).symm;have kz:(⟨pb,0,none⟩:Addr).block∉(Value.slice AU xs.length cU).ownBlock.toList:=(by rw[xM];exact GL.out);have np:(⟨g,v,none⟩:Addr).block∉(Value.slice AU xs.length cU).ownBlock.toList:=(by rw[xM];exact GI.out);have lc:=gL.cell kz hW.1;have nY:=gL.cell np hW.2;have L0:=gL.fz np hW.2 (bf kt.out.below QR.out.2 UX.out);refine HQ _ _ ⟨lc,nY⟩ ?_;have tK:=zh (pZ rz.out GH.out kt.out iS p7 vA GK.out GJ.out);clear iS p7 vA kz np gL xM hW
    (try simp only[zA])
    simp only[bz];obtain⟨S5,dV,d8,xy⟩:=tK.out;have CS:=zh (me.out.own dV d8 xy)
    have yH:(N.ends.set v (xs++[((v:Int),(xs.length:Int))]))[v]?=some (xs++[((v:Int),(xs.length:Int))]):=by rw[List.getElem?_set_self (by have:=io.out;omega)]
    have Hro:=zh yH
    have Hcm:=zh (show p8 ((w9.setCell ⟨g,v,none⟩ (.slice (some ⟨g9,0,none⟩) (xs.length+1) GB)).cell? ⟨g,v,none⟩)=xs.length+1 from by
     obtain⟨u9,T9,hu9,-,hR9,-,-,-⟩:=CS.out.mb.own.aef yH;obtain⟨A9,c9',rfl,-,-,-⟩:=id hR9.read;rw[hu9]
     simp[p8])
    clear dV d8 xy yH tK;go_wp2;go_roundw
    case rel=>exact⟨_,S5,_,CS.out.up (by simp;omega),by show(List.set _ _ _).length=_;rw[List.length_set];exact io.out,Hro.out,TG.out.setRow v (by simp;omega),by simp;omega⟩
    case measure=>rw[Hcm.out];have h7:=Hu0.out;simp only[h7,p8];omega
   ·have e0:((xs.length:Int)<6+(b:Int))=False:=by simp;omega
    go_upto_region 29 with(fail);clear e0;obtain⟨k0,k1,k2,-,-,-⟩:=(me.out).mb.box.cells;obtain⟨e0,Gu,e2,f0,f1,f2⟩:=(me.out).rb.box.cells;have c_:=zh (me.out).ret;go_wp2;refine bodyPost_ret (v:=.agg #[.slice (some ⟨g,0,none⟩) n.ends.length e1,.slice EI n.ids.length eI,.slice (some ⟨gN,0,none⟩) n.aea.length eN]) (by simp[results,Tryz.results129,go_sem, *]) rfl ?_;obtain⟨r1,r2,r3⟩:=c_.out;exact⟨_,_,_,_,_,rfl,r1,TG.out,r2.mono (by omega),r3⟩
 ·obtain⟨k0,k1,k2,-,-,-⟩:=lR.out.mb.box.cells;go_wp2_with fail;refine(tM cb A L c (P+4) R M _ _ _ n w4 lR.out.mb.cur (by omega) lR.out.mb.own.read Hg.out hR hM2).mono ?_;rintro e w5 ⟨ve5,vi5,vn5,N5,S5,rfl,yK,⟨oC,UA,hq3⟩,mZ,vC⟩;obtain⟨D0,d0,rfl,-,-,-⟩:=id yK.read.1;obtain⟨D1,d1,rfl,-,-,-⟩:=id yK.read.2.1;obtain⟨D2,d2,rfl,-,-,-⟩:=id yK.read.2.2;have Fm:=lR.out.assign vC mZ yK;have fe:=lR.out.seen vC mZ;have h0i:0<N5.ids.length:=by omega
  have aP:=Fm.mb.aej.1.1
  obtain⟨gI,rfl⟩:∃gI,D1=some ⟨gI,0,none⟩:=by
   rcases aP.cases with⟨h1,h2⟩ | ⟨gq,cq,h1,-,-⟩
   ·rw[h2]at h0i;simp at h0i
   ·cases h1;exact⟨gq,rfl⟩
  clear k0 k1 k2;obtain⟨k0,k1,k2,f0,f1,f2⟩:=fe.mb.box.cells;have aae:=zh Fm;have Hq:=zh (And.intro oC (And.intro UA hq3));clear Fm fe yK mZ vC aP oC UA hq3;go_upto_region 19 with(fail);obtain⟨w6,CR⟩:∃z,z=((w5.setCell ⟨pb,0,none⟩ (.slice D0 N5.ends.length d0)).setCell ⟨pb,1,none⟩ (.slice (some ⟨gI,0,none⟩) N5.ids.length d1)).setCell ⟨pb,2,none⟩ (.slice D2 N5.aea.length d2):=⟨_,rfl⟩
  rw[<- CR]
  have Ma:Hid (Br cb pb A L c (P+4+1000) w w6 (.slice D0 N5.ends.length d0) (.slice (some ⟨gI,0,none⟩) N5.ids.length d1) (.slice D2 N5.aea.length d2) N5 S5):=by show Br _ _ _ _ _ _ _ _ _ _ _ _ _;rw[CR];exact aae.out
  clear CR aae k0 k1 k2 f0 f1 f2;obtain⟨z0,il⟩:=aM N5.ids 0 h0i
  have adZ:v<N5.ids.length:=by have:=Hq.out.2.2;omega
  have hci:=Ma.out.mb.aej.1.1.cell il
  have hgi:gI≠cb:=fun e=>by
   have h1:=(World.ownsRow.lt Ma.out.mb.aej.1.1 gI (by simp[Value.ownBlock])).1;have h2:=ft.out;omega
  go_upto_region 19 with(fail);refine aL (fun W=>W.cell? ⟨pb,1,none⟩=some (.slice (some ⟨gI,0,none⟩) N5.ids.length d1)/\W.cell? ⟨gI,0,none⟩=some (.int .i64 z0)) 10 [false,false,false,false,false,false,false,false,true,true] (by kernel_rfl) (by kernel_rfl) (show(World.drew w6).cell? ⟨pb,1,none⟩=some (.slice (some ⟨gI,0,none⟩) N5.ids.length d1)/\(World.drew w6).cell? ⟨gI,0,none⟩=some (.int .i64 z0)from⟨Ma.out.mb.box.cells.2.1,hci⟩) ?_
  simp only[eE,ea,zT]
  iterate 8 (apply bV rfl;(intro W hW;(obtain⟨k0,k1⟩:=hW);go_simp;with_reducible rfl);simp only[zA])
  obtain⟨W,dE⟩:∃W,W=World.drew w6:=⟨_,rfl⟩
  rw[<- dE];have hW:=(show(World.drew w6).cell? ⟨pb,1,none⟩=some (.slice (some ⟨gI,0,none⟩) N5.ids.length d1)/\(World.drew w6).cell? ⟨gI,0,none⟩=some (.int .i64 z0)from⟨Ma.out.mb.box.cells.2.1,hci⟩);rw[<- dE]at hW;have gA:=zh dE;clear dE
  refine dD (v:=?_) (ob:=?_) rfl ?_ ?_ ?_;rotate_left 2
  (go_simp;first | with_reducible rfl | (refine⟨?_,?_⟩ <;> with_reducible rfl))
  exact⟨bc (am _ _) hW.1,bc (am _ _) hW.2⟩;intro w7 xV Ek
  replace hW:=Ek
  clear Ek
  have Q7:aa w6 w7:=(by rw[xV,gA.out];exact ag _ (aj (ad _)))
  have me:=zh ((Ma.out).since Q7)
  have J8:Hid (Own w7 w6.heap.size (.slice (some ⟨w6.heap.size,0,none⟩) 5 5) [0,1,999999,1000000,z0]):=(by show Own _ _ _ _;rw[xV,gA.out];exact sQ [0,1,999999,1000000,z0] rfl rfl (by simp) (Nat.le_refl _))
  have Vt:cb<w6.heap.size:=(Ma.out).mb.cur.lt
  rw[show W.heap.size=w6.heap.size from by rw[gA.out];rfl]
  clear xV Q7
  (try simp only[zA])
  refine Or.inl ⟨rfl,?_⟩
  go_simp
  (with_reducible refine(v7 cb A L c (P+4+1000) w6.heap.size w6.heap.size 5 5 [0,1,999999,1000000,z0] _ rfl me.out.mb.cur (by omega) J8.out Vt (by simp) (by simp)).mono ?_)
  rintro e W' ⟨a,rfl,ha,fh,hC⟩;refine⟨_,rfl,And.intro (aA hW.1 iN _ hC) (aA hW.2 hgi _ hC),?_⟩
  replace hW:=And.intro (aA hW.1 iN _ hC) (aA hW.2 hgi _ hC)
  have Xh:=zh (me.out.seen hC fh);clear fh hC ha
  (try simp only[zA])
  simp only[bz]
  obtain⟨f9,⟨z9,c9⟩,S9,km⟩:=Xh.out.aeQ (k:=v) a (by have:=Hq.out.2.2;omega)
  have CS:=zh km;clear km;go_upto_region 29 with(fail);obtain⟨w9,zf⟩:∃z,z=W'.setCell ⟨gI,v,none⟩ (.int .i64 a):=⟨_,rfl⟩
  rw[<- zf];rw[<- zf]at CS;clear zf hW c9 f9;obtain⟨k0,k1,k2,-,-,-⟩:=(CS.out).mb.box.cells;obtain⟨e0,Gu,e2,f0,f1,f2⟩:=(CS.out).rb.box.cells;have c_:=zh (CS.out).ret;go_wp2;refine bodyPost_ret (v:=.agg #[.slice D0 N5.ends.length d0,.slice (some ⟨gI,0,none⟩) N5.ids.length d1,.slice D2 N5.aea.length d2]) (by simp[results,Tryz.results129,go_sem, *]) rfl ?_;obtain⟨r1,r2,r3⟩:=c_.out
  exact⟨_,_,_,_,_,rfl,r1,⟨by show N5.ends.length<=_;rw[Hq.out.1];exact eT.out.ends,fun k es he=>eT.out.row k es (by rw[<- Hq.out.1];exact he),by show(List.set _ _ _).length<=_;rw[List.length_set];have:=Hq.out.2.2;omega,by show N5.aea.length<=_;rw[Hq.out.2.1];exact eT.out.aea⟩,r2.mono (by omega),r3⟩
 ·obtain⟨kT,S5,xU⟩:=lR.out.aeq (W':=w4.alloc (.cells #[.int .i64 5] 3)) (v':=.slice (some ⟨w4.heap.size,0,none⟩) 1 1) (ids':=[5]) ⟨sQ [5] rfl rfl (by simp) lR.out.sz,rfl⟩ ((bg.refl _ _).alloc _) (fun j hj=>.inr (by simp[Value.ownBlock]at hj;omega))
  obtain⟨k0,k1,k2,f0,f1,f2⟩:=kT.cells;have me:=zh xU;clear kT xU;go_upto_region 29 with(fail);obtain⟨w7,pE⟩:∃z,z=(w4.alloc (.cells #[.int .i64 5] 3)).setCell ⟨pb,1,none⟩ (.slice (some ⟨w4.heap.size,0,none⟩) 1 1):=⟨_,rfl⟩
  rw[<- pE];rw[<- pE]at me;clear pE k0 k1 k2 f0 f1 f2;obtain⟨k0,k1,k2,-,-,-⟩:=(me.out).mb.box.cells;obtain⟨e0,Gu,e2,f0,f1,f2⟩:=(me.out).rb.box.cells;have c_:=zh (me.out).ret;go_wp2;refine bodyPost_ret (v:=.agg #[.slice (some ⟨g,0,none⟩) n.ends.length e1,.slice (some ⟨w4.heap.size,0,none⟩) 1 1,.slice (some ⟨gN,0,none⟩) n.aea.length eN]) (by simp[results,Tryz.results129,go_sem, *]) rfl ?_;obtain⟨r1,r2,r3⟩:=c_.out;exact⟨_,_,_,_,_,rfl,r1,⟨eT.out.ends,eT.out.row,by simp,eT.out.aea⟩,r2.mono (by omega),r3⟩
 ·go_upto_region 23 with(fail)
  go_loopw [131] (fun _ wr=>∃(ve vn:Value) (N:ak) (S:List Nat),Br cb pb A L c (P+4+2*N.ends.length) w wr ve (.slice EI n.ids.length eI) vn N S/\N.ends.length<=41/\N.aea.length=N.ends.length/\N.ids=n.ids/\Bd N) (fun _ wr=>42-p8 (wr.cell? ⟨pb,0,none⟩))
  case atStart=>exact⟨_,_,n,_,lR.out.up (by omega),by omega,rL.out,rfl,eT.out⟩
  case round=>
   obtain⟨ve,vn,N,S,hb,n_,TD,hid,hNb⟩:=hrel;obtain⟨wo,rfl⟩:∃z,z=wr:=⟨_,rfl⟩
   obtain⟨Q0,q0,rfl,-,-,-⟩:=id hb.mb.own.read.1;obtain⟨Q2,q2,rfl,-,-,-⟩:=id hb.mb.own.read.2.2;have zm:=zh hb;have TG:=zh hNb;have y_:=zh hid;have Ud:=zh TD;clear hb hNb hid TD;go_upto_region 23 with(fail);refine aL (fun W=>W.cell? ⟨pb,0,none⟩=some (.slice Q0 N.ends.length q0)) 7 [false,false,false,false,true,true,true] (by kernel_rfl) (by kernel_rfl) (show(World.drew wo).cell? ⟨pb,0,none⟩=some (.slice Q0 N.ends.length q0)from zm.out.mb.box.cells.1) ?_
   simp only[eE,ea,zT]
   iterate 4 (apply bV rfl;(intro W hW;(have k0:=hW);go_simp;with_reducible rfl);simp only[zA])
   obtain⟨W,dE⟩:∃W,W=World.drew wo:=⟨_,rfl⟩
   rw[<- dE];have hW:=(show(World.drew wo).cell? ⟨pb,0,none⟩=some (.slice Q0 N.ends.length q0)from zm.out.mb.box.cells.1);rw[<- dE]at hW;have gA:=zh dE;clear dE;refine Or.inl ⟨rfl,?_⟩
   go_simp
   (with_reducible refine(dJ cb A L c (P+4+2*N.ends.length) 2 W (by rw[gA.out];exact zm.out.mb.cur.since (aj (ad _))) (by omega) (by omega)).mono ?_)
   rintro e W' ⟨b,rfl,hb,fh,hC⟩;refine⟨_,rfl,aA hW iN _ hC,?_⟩
   replace hW:=aA hW iN _ hC
   have qg:aa wo W:=(by rw[gA.out];exact aj (ad _))
   have me:=zh (zm.out.seen (((eF.refl cb wo).after qg).trans hC) fh);have bj:b<2:=(by omega);have m1:IntKind.i64.wrap (40+(b:Int))=40+(b:Int):=aF _ (by omega) (by omega);clear hC fh qg hb
   (try simp only[zA])
   refine dG (v:=?_) rfl ?_ hW ?_;rotate_left;(go_simp;with_reducible rfl)
   simp only[zA]
   refine dG (v:=?_) rfl ?_ hW ?_;rotate_left;(go_simp;with_reducible rfl)
   simp only[zA];simp only[bz];obtain⟨w7,rfl⟩:∃z,z=W':=⟨_,rfl⟩
   clear hW
   by_cases hlt:N.ends.length<40+b
   ·have e0:((N.ends.length:Int)<40+(b:Int))=True:=by simp;omega
    have oa:aa w7 (w7.alloc (.cells #[.slice none 0 0] 81)):=ag _ (ad _);have Xh:=zh (me.out.since oa);obtain⟨k0,k1,k2,f0,f1,f2⟩:=me.out.mb.box.cells
    have Hl8:Hid (N.ends.length+1<=1000000):=by show _<=_;omega
    have Ui:Hid (∀q,(Value.slice Q0 N.ends.length q0).ownBlock=some q->(l0 w7 w.heap.size).heap.size<=q):=fun q hq=>by
     obtain⟨S1,S2,S3,⟨vs,Ss,h1,-⟩,-,-,-,-⟩:=id Xh.out.mb.own;have h9:=(World.ownsRow.lt h1 q hq).1;simp[l0]
     omega
    have Hwq:Hid (aa (l0 w7 w.heap.size) (w7.alloc (.cells #[.slice none 0 0] 81))):=aa.after (pd w7 me.out.sz) oa;clear oa
    go_upto_region 25 with(at_builtin;refine sg (wT:=l0 w7 w.heap.size) (base:=w.heap.size) (v:=.slice Q0 N.ends.length q0) (u:=.slice none 0 0) (T:=[]) (es:=[]) rfl _ _ rfl rfl Xh.out.mb.own w7.heap.size rfl (by simp) (wQ _ _) (fun j hj=>by simp at hj) Hl8.out Hwq.out Xh.out.sz Ui.out ?_;intro v8 w8 S8 hv8 Vm Vn OD mc;obtain⟨A8,c8,hq8,-,-,-⟩:=id Vm.read.1;have TH:v8=.slice A8 (N.ends.length+1) c8:=(by rw[hq8];simp);clear hq8;subst TH;obtain⟨Ef,km⟩:=Xh.out.aev Vm (fun j hj=>by rcases Vn j hj with h | h | h;exact .inl h;simp at h;right;omega) OD;clear k0 k1 k2 f0 f1 f2 hv8 Vn OD mc;obtain⟨k0,k1,k2,f0,f1,f2⟩:=Ef.cells;have CS:=zh km;clear Ef km Vm)
    obtain⟨w9,zf⟩:∃z,z=w8.setCell ⟨pb,0,none⟩ (.slice A8 (N.ends.length+1) c8):=⟨_,rfl⟩
    rw[<- zf];rw[<- zf]at CS;clear zf k0 k1 k2 f0 f1 f2;have oa:aa w9 (w9.alloc (.cells #[.int .i64 0] 3)):=ag _ (ad _);have Vu:=zh (CS.out.since oa)
    have acp:Hid (N.aea.length+[(0:Int)].length<=17592186044416):=by show _<=_;have:=TG.out.aea;simp;omega
    clear oa;obtain⟨k0,k1,k2,f0,f1,f2⟩:=CS.out.mb.box.cells
    go_wp2_with (at_builtin;refine jW (base:=w.heap.size) rfl _ _ rfl rfl Vu.out.mb.aeF.1.1 rfl (sP _ _) acp.out Vu.out.sz ?_;intro v' RB T d6 vg hT6;obtain⟨V,mV,cV,rfl⟩:=iy.one d6;obtain⟨Fm,S6,xU⟩:=Vu.out.aeD d6 vg hT6;clear k0 k1 k2 f0 f1 f2 d6 vg hT6;obtain⟨k0,k1,k2,f0,f1,f2⟩:=Fm.cells;have aaf:=zh xU;clear Fm xU)
    go_roundw
    case rel=>exact⟨_,_,_,S6,aaf.out.up (by simp;omega),by simp;omega,by have:=Ud.out;simp;omega,y_.out,TG.out.more (by omega) (by have:=Ud.out;omega)⟩
    case measure=>rw[aaf.out.mb.box.cells.1,zm.out.mb.box.cells.1];simp[p8];omega
   ·have e0:((N.ends.length:Int)<40+(b:Int))=False:=by simp;omega
    have k0:=me.out.mb.box.cells.1;obtain⟨Ef,S8,km⟩:=me.out.aeq (v':=.slice none 0 0) (ids':=[]) (j7 _ _) (bg.refl _ _) (fun j hj=>by simp at hj)
    clear k0;obtain⟨k0,k1,k2,f0,f1,f2⟩:=Ef.cells;have CS:=zh km;clear Ef km;go_upto_region 29 with(fail);obtain⟨w9,zf⟩:∃z,z=w7.setCell ⟨pb,1,none⟩ (.slice none 0 0):=⟨_,rfl⟩
    rw[<- zf];rw[<- zf]at CS;clear zf e0 k0 k1 k2 f0 f1 f2;obtain⟨k0,k1,k2,-,-,-⟩:=(CS.out).mb.box.cells;obtain⟨e0,Gu,e2,f0,f1,f2⟩:=(CS.out).rb.box.cells;have c_:=zh (CS.out).ret;go_wp2;refine bodyPost_ret (v:=.agg #[.slice Q0 N.ends.length q0,.slice none 0 0,.slice Q2 N.aea.length q2]) (by simp[results,Tryz.results129,go_sem, *]) rfl ?_;obtain⟨r1,r2,r3⟩:=c_.out;exact⟨_,_,_,_,_,rfl,r1,⟨TG.out.ends,TG.out.row,by simp,TG.out.aea⟩,r2.mono (by omega),r3⟩
 ·obtain⟨e0,Gu,e2,f0,f1,f2⟩:=lR.out.rb.box.cells;go_wp2;refine bodyPost_ret (v:=.agg #[.slice none 0 0,.slice none 0 0,.slice none 0 0]) (by simp[results,Tryz.results129,go_sem, *]) rfl ?_;have hpp:=ft.out;refine⟨_,_,_,⟨[],[],[]⟩,[],rfl,FD _ _,⟨by simp,fun k es he=>by simp at he,by simp,by simp⟩,(lR.out.mb.cur.keep (fun k hk=>dZ w4 (pb+1) _ _ _ (by omega))).mono (by omega),?_⟩
  exact((lR.out.mb.far.setCell (p:=⟨pb+1,0,none⟩) (.inl (by show _<=pb+1;omega)) _).setCell (p:=⟨pb+1,1,none⟩) (.inl (by show _<=pb+1;omega)) _).setCell (p:=⟨pb+1,2,none⟩) (.inl (by show _<=pb+1;omega)) _
 ·have t0:((x:Int)==0)=false:=by simp;omega
  have t1:((x:Int)==1)=false:=by simp;omega
  have t2:((x:Int)==2)=false:=by simp;omega
  have t3:((x:Int)==3)=false:=by simp;omega
  have t4:((x:Int)==4)=false:=by simp;omega
  have t5:((x:Int)==5)=false:=by simp;omega
  have t6:((x:Int)==6)=false:=by simp;omega
  have t7:((x:Int)==7)=false:=by simp;omega
  have t8:((x:Int)==8)=false:=by simp;omega
  go_upto_region 29 with(fail);clear t0 t1 t2 t3 t4 t5 t6 t7 t8;obtain⟨k0,k1,k2,-,-,-⟩:=(lR.out).mb.box.cells;obtain⟨e0,Gu,e2,f0,f1,f2⟩:=(lR.out).rb.box.cells;have c_:=zh (lR.out).ret;go_wp2;refine bodyPost_ret (v:=.agg #[.slice (some ⟨g,0,none⟩) n.ends.length e1,.slice EI n.ids.length eI,.slice (some ⟨gN,0,none⟩) n.aea.length eN]) (by simp[results,Tryz.results129,go_sem, *]) rfl ?_;obtain⟨r1,r2,r3⟩:=c_.out;exact⟨_,_,_,_,_,rfl,r1,eT.out,r2.mono (by omega),r3⟩
theorem Gd.aeB {R M:Nat} {n N:ak} (h:Gd R M n) (he:N.ends=n.ends) (hi:N.aea=n.aea) (hl:N.ids.length=n.ends.length):Gd R M N:=
 ⟨by rw[he];exact h.ends,by rw[he];exact h.row,by rw[hl];exact h.ends,by rw[hi,he];exact h.aea,fun k es hk e hm=>by
  obtain⟨a,b,fs,h1,h2,h3⟩:=h.wf k es (by rw[<- he];exact hk) e hm
  exact⟨a,b,fs,h1,by rw[he];exact h2,h3⟩⟩
theorem OI (cb:Nat) (A:Option Addr) (L c P aU M:Nat) (w:World) (hc:dm w cb A L c P) (hP:P<=3900000000000000000) (yN:1<=aU) (nM:aU<=M) (hM:M<=38):
  Calls Tryz.prog 96 #[.pointer (some ⟨cb,0,none⟩),.int .i64 aU] w (vB cb w.heap.size A L c (P+210000000000000000) w Bd):=by
 have ja:=hc.lt;obtain⟨B,tL⟩:∃z,z=w.heap.size+1:=⟨_,rfl⟩
 obtain⟨w0,cG⟩:∃z,z=w.alloc (.cells #[.slice none 0 0,.slice none 0 0,.slice none 0 0] 27):=⟨_,rfl⟩
 have bB:aa w w0:=by rw[cG];exact ag _ (ad _)
 have il:w0.heap.size=B:=by rw[cG,tL];simp
 have gY:bx w0 w.heap.size (.slice none 0 0) (.slice none 0 0) (.slice none 0 0):=by
  rw[cG];show(w.heap.push _)[w.heap.size]?=_
  rw[Array.getElem?_push_size]
 have iF:=zh gY;have lC:=zh bB;have bK:=zh cG;have eT:=zh tL;have mX:=zh il;have GV:=zh (hc.since bB);clear gY bB cG hc tL il
 go_enter Tryz.func96,Tryz.ntmps96
 go_upto_region 1 with(fail);rw[<- bK.out];go_wp2_with fail;refine(OE cb A L c P aU M w0 GV.out (by omega) yN nM hM).mono ?_;rintro e w1 ⟨ZP,ZQ,ZR,N0,S0,rfl,ho,⟨aag,B6⟩,mY,mS⟩;have GW:Gd 100 40 N0:=aag.mono (Nat.le_refl _) (by omega);obtain⟨A1,c1,rfl,-,rM,-⟩:=id ho.read.1;obtain⟨AI,cI,rfl,-,-,-⟩:=id ho.read.2.1;obtain⟨AN,cN,rfl,-,-,-⟩:=id ho.read.2.2;obtain⟨m,n_⟩:∃m,N0.ends.length=m:=⟨_,rfl⟩
 obtain⟨w2,gR⟩:∃z,z=w1.alloc (.cells #[.slice A1 N0.ends.length c1,.slice AI N0.ids.length cI,.slice AN N0.aea.length cN] 27):=⟨_,rfl⟩
 obtain⟨pb,gG⟩:∃z,z=w1.heap.size:=⟨_,rfl⟩
 have lJ:aa w1 w2:=by rw[gR];exact ag _ (ad _)
 have iE:B<=w1.heap.size:=by rw[<- mX.out];exact mS.size
 have kD:cb<B:=by have:=eT.out;omega
 have hmb:Mb cb B pb A L c (P+200000000000000000) w0 w2 (.slice A1 N0.ends.length c1) (.slice AI N0.ids.length cI) (.slice AN N0.aea.length cN) N0 S0:=
  ⟨(ho.keep lJ.below).mono (by rw[mX.out];exact Nat.le_refl _),by rw[gR,gG];exact bD.new _ _ _ _ _,fun hj=>by have:=(ho.range _ hj).2;omega,mY.since lJ,(mS.mono (by rw[mX.out];exact Nat.le_refl _)).trans (CB.of (lJ.below.mono iE))⟩
 have sJ:=zh hmb
 have ft:Hid (B<=pb/\pb<w2.heap.size):=⟨by rw[gG];exact iE,by rw[gR,gG];simp⟩
 have El:Hid (B<=w2.heap.size):=Nat.le_trans iE lJ.below.size;have nX:=zh gR;have sM:=zh gG;have Gz:=zh (And.intro GW B6);have io:=zh n_;have fe:=hmb.box.cells.1;clear hmb gR gG GW aag B6 ho mY mS lJ iE fe;rw[n_]at sJ nX;clear n_;go_upto_region 2 with(fail);rw[io.out,<- nX.out,<- sM.out];go_wp2_with fail;refine(mT cb A L c _ 3 w2 sJ.out.cur (by omega) (by omega)).mono ?_;rintro e w3 ⟨bb,rfl,tP,ly⟩;have kK:=zh (sJ.out.seen ly tP kD ft.out.1 El.out);have zn:Hid (B<=w3.heap.size):=Nat.le_trans El.out ly.size;clear tP ly;cases bb
 ·clear sJ;have Qd:=Gz;obtain⟨k0,k1,k2,-,-,-⟩:=kK.out.box.cells;have OJ:=kK.out.cur;have Vv:=zh OJ;have HNT:=zh kK.out.own.read;clear OJ;go_wp2_with fail;refine(Ej cb A L c (P+200000000000000000+2) 100 40 _ _ _ N0 w3 Vv.out (by omega) HNT.out Qd.out.1 Qd.out.2 (by omega) (by omega)).mono ?_;rintro e w9 ⟨ve9,vi9,vn9,N9,S9,rfl,iS,OK,qq,RC⟩;obtain⟨X0,x0,rfl,-,-,-⟩:=id iS.read.1;obtain⟨X1,x1,rfl,-,-,-⟩:=id iS.read.2.1;obtain⟨X2,x2,rfl,-,-,-⟩:=id iS.read.2.2;have aW:=kK.out.far.trans (RC.mono zn.out)
  have ec:=aW.aeh iF.out (by have:=eT.out;omega) (by omega)
  obtain⟨e0,e1,e2,f0,f1,f2⟩:=ec.box.cells;have aP:=iS.mono zn.out;rw[eT.out]at aP aW;have c_:=zh (dq lC.out aP qq aW ja);have Vw:=zh OK;clear aW ec aP OK qq RC iS k0 k1 k2;go_wp2;refine bodyPost_ret (v:=.agg #[.slice X0 N9.ends.length x0,.slice X1 N9.ids.length x1,.slice X2 N9.aea.length x2]) (by simp[results,Tryz.results96,go_sem, *]) rfl ?_;obtain⟨r1,r2,r3⟩:=c_.out;exact⟨_,_,_,N9,S9,rfl,r1,Vw.out,r2.mono (by omega),r3⟩
 ·obtain⟨k0,k1,k2,-,-,-⟩:=kK.out.box.cells;have HN3:=zh kK.out.own.read;go_wp2_with fail;refine(tM cb A L c _ 100 40 _ _ _ N0 w3 kK.out.cur (by omega) HN3.out Gz.out.1 (by omega) (by omega)).mono ?_;rintro e w4 ⟨ve4,vi4,vn4,N4,S4,rfl,oH,⟨he4,hi4,Te⟩,pD,pY⟩;obtain⟨D0,d0,rfl,-,-,-⟩:=id oH.read.1;obtain⟨D1,d1,rfl,-,-,-⟩:=id oH.read.2.1;obtain⟨D2,d2,rfl,-,-,-⟩:=id oH.read.2.2;have hm5:=kK.out.assign pY pD oH kK.out.box.lt kD ft.out.1 zn.out
  obtain⟨f0,f1,f2,g0,g1,g2⟩:=(kK.out.box.blk (pY.block pb kK.out.box.lt (by have:=ft.out;omega))).cells
  have ke:=zh hm5
  have Vx:Hid (B<=(aed w4 pb (.slice D0 N4.ends.length d0) (.slice D1 N4.ids.length d1) (.slice D2 N4.aea.length d2)).heap.size):=by show _<=_;rw[gQ];exact Nat.le_trans zn.out pY.size
  have UN:Hid (Gd 100 40 N4/\0<N4.ends.length):=⟨Gz.out.1.aeB he4 hi4 Te,by rw[he4];exact Gz.out.2⟩
  clear hm5 oH he4 hi4 Te pD pY k0 k1 k2;go_upto_region 4 with(fail);obtain⟨w5,rO⟩:∃z,z=aed w4 pb (.slice D0 N4.ends.length d0) (.slice D1 N4.ids.length d1) (.slice D2 N4.aea.length d2):=⟨_,rfl⟩
  have aah:((w4.setCell ⟨pb,0,none⟩ (.slice D0 N4.ends.length d0)).setCell ⟨pb,1,none⟩ (.slice D1 N4.ids.length d1)).setCell ⟨pb,2,none⟩ (.slice D2 N4.aea.length d2)=w5:=rO.symm;rw[aah];rw[<- rO]at ke Vx;clear rO aah f0 f1 f2 g0 g1 g2;obtain⟨k0,k1,k2,-,-,-⟩:=ke.out.box.cells;have OJ:=ke.out.cur;have Vv:=zh OJ;have HNT:=zh ke.out.own.read;clear OJ;go_wp2_with fail;refine(Ej cb A L c (P+200000000000000000+2+1000) 100 40 _ _ _ N4 w5 Vv.out (by omega) HNT.out UN.out.1 UN.out.2 (by omega) (by omega)).mono ?_;rintro e w9 ⟨ve9,vi9,vn9,N9,S9,rfl,iS,OK,qq,RC⟩;obtain⟨X0,x0,rfl,-,-,-⟩:=id iS.read.1;obtain⟨X1,x1,rfl,-,-,-⟩:=id iS.read.2.1;obtain⟨X2,x2,rfl,-,-,-⟩:=id iS.read.2.2;have aW:=ke.out.far.trans (RC.mono Vx.out)
  have ec:=aW.aeh iF.out (by have:=eT.out;omega) (by omega)
  obtain⟨e0,e1,e2,f0,f1,f2⟩:=ec.box.cells;have aP:=iS.mono Vx.out;rw[eT.out]at aP aW;have c_:=zh (dq lC.out aP qq aW ja);have Vw:=zh OK;clear aW ec aP OK qq RC iS k0 k1 k2;go_wp2;refine bodyPost_ret (v:=.agg #[.slice X0 N9.ends.length x0,.slice X1 N9.ids.length x1,.slice X2 N9.aea.length x2]) (by simp[results,Tryz.results96,go_sem, *]) rfl ?_;obtain⟨r1,r2,r3⟩:=c_.out;exact⟨_,_,_,N9,S9,rfl,r1,Vw.out,r2.mono (by omega),r3⟩
section
variable {P : Program} {ops : Array Oper}
def upd (V:Nat->Value) (i:Nat) (u:Value):Nat->Value:=fun j=>if j=i then u else V j
theorem OL (V:Nat->Value) {i j:Nat} (u:Value) (h:j≠i):upd V i u j=V j:=if_neg h
theorem Em (V:Nat->Value) (i:Nat) (u:Value):upd V i u i=u:=if_pos rfl
end
section
variable {P : Program} {ops : Array Oper}
end
structure Cr (wa W:World) (ob b1 b2 g c m:Nat) (vi vn:Value) (N:ak) (S:List Nat) (a e:Int×Int):Prop where
 own:az W wa.heap.size (.slice (some ⟨g,0,none⟩) m c) vi vn N S
 len:N.ends.length=m
 box:bx W ob (.slice (some ⟨g,0,none⟩) m c) vi vn
 e1:E2 W 83 b1 a.1 a.2
 e2:E2 W 83 b2 e.1 e.2
 nb:ob∉S/\b1∉S/\b2∉S
 since:aa wa W
section
variable {P : Program} {ops : Array Oper}
end
structure Ob (bo:Nat) (wa W:World) (ve vi vn:Value) (N:ak) (S:List Nat):Prop where
 own:az W wa.heap.size ve vi vn N S
 box:bD W bo ve vi vn
 nb:bo∉S
 bb:wa.heap.size<=bo
 since:aa wa W
section
variable {bo : Nat} {wa W : World} {ve vi vn : Value} {N : ak} {S : List Nat}
end
structure adE (n:ak) (t:Nat) (N:ak):Prop where
 ends:N.ends.length=2*n.ends.length
 aea:N.aea.length=2*n.ends.length
 ids:N.ids.length=0
 row:∀(j:Nat) (fs:List (Int×Int)),N.ends[j]?=some fs->fs.length<=100/\(j<t->fs.length=(dp n (j/2)).length)
theorem eF.trans' {cb:Nat} {w0 W W':World} (h:eF cb w0 W) (h':Below w0.heap.size W W'):eF cb w0 W':=CB.trans h (CB.of h')
def OM (w:World) (v:Value) (L:Nat):Prop:=∃A c,v=.slice A L c/\L<=c/\c<=maxLen/\∀k,k<L->∃b off x,A=some ⟨b,off,none⟩/\w.cell? ⟨b,off+k,none⟩=some (.int .u8 x)/\0<=x/\x<256
theorem OM.keep {w w':World} {v:Value} {L:Nat} (h:OM w v L) (hb:Below w.heap.size w w'):OM w' v L:=by
 obtain⟨A,c,h1,h2,h3,h4⟩:=h;refine⟨A,c,h1,h2,h3,fun k hk=>?_⟩
 obtain⟨b,off,x,e1,e2,e3,e4⟩:=h4 k hk;exact⟨b,off,x,e1,bc hb e2,e3,e4⟩
theorem Jr {w w2:World} {A:Option Addr} {L c cb:Nat} {t:TypeId} (hb:∀k,k<L->∃b off x,A=some ⟨b,off,none⟩/\w.cell? ⟨b,off+k,none⟩=some (.int .u8 x)/\0<=x/\x<256) (hs:aa w w2) (ja:w.heap.size<=cb) (hc:w2.heap[cb]?=some (.cells #[.slice A L c,.int .i64 0,.int .u64 0] t)) (hL:L<=1048576) (hLc:L<=c):dm w2 cb A L c 0:=by
 refine⟨0,0,⟨⟨_,hc⟩,fun k hk=>?_,hL,hLc,by omega⟩,Nat.le_refl _⟩
 obtain⟨b,off,x,e1,e2,e3,e4⟩:=hb k hk
 have:=vV e2
 exact⟨b,off,x,e1,by simp at this;omega,bc hs e2,e3,e4⟩
theorem ON {w:World} {B g q k:Nat} {xs:List Int} (h:Own w B (.slice (some ⟨g,0,none⟩) xs.length q) xs) (hk:k<=xs.length):Own w B (.slice (some ⟨g,0,none⟩) k q) (xs.take k):=by
 have hl:(xs.take k).length=k:=by rw[List.length_take];omega
 obtain⟨h1,h2⟩:=h;refine⟨by simp,?_⟩;rcases h2 with⟨h2,-⟩ | ⟨g',cap,cur,e1,e2,e3,e4,e5,e6,e7⟩
 ·cases h2
 ·cases e1
  refine .inr ⟨g,q,cur,by rw[hl],e2,e3,by rw[hl];omega,e5,e6,?_⟩
  rw[hl,List.map_take,<- e7,List.take_take];congr 1
  omega
theorem Gd.aen {R M:Nat} {n:ak} (h:Gd R M n) (k:Nat) (x:Int):Gd R M { n with aea:=n.aea.set k x }:=
 ⟨h.ends,h.row,h.ids,by show(n.aea.set k x).length=_;rw[List.length_set];exact h.aea,h.wf⟩
theorem Mb.mono {cb B pb:Nat} {A:Option Addr} {L c P P':Nat} {w W:World} {ve vi vn:Value} {N:ak} {S:List Nat} (h:Mb cb B pb A L c P w W ve vi vn N S) (hP:P<=P'):Mb cb B pb A L c P' w W ve vi vn N S:=⟨h.own,h.box,h.nb,h.cur.mono hP,h.far⟩
theorem Mb.aen {cb B pb g k cc nn:Nat} {A:Option Addr} {L c P:Nat} {w W:World} {ve vi:Value} {N:ak} {S:List Nat} (h:Mb cb B pb A L c P w W ve vi (.slice (some ⟨g,0,none⟩) nn cc) N S) (x:Int) (hk:k<N.aea.length) (hb:cb<B):
  W.frozen? ⟨g,k,none⟩=false/\Mb cb B pb A L c P w (W.setCell ⟨g,k,none⟩ (.int .i64 x)) ve vi (.slice (some ⟨g,0,none⟩) nn cc) { N with aea:=N.aea.set k x } S:=by
 obtain⟨h1,h2,h3⟩:=h.own.aen x hk;have hg:=(h.own.range g h1).1
 refine⟨h2,⟨h3,h.box.blk (Below.heap_setCell _ _ _ _ (fun e=>h.nb (by have e':pb=g:=e;exact e' ▸ h1))),h.nb,h.cur.keep (fun j hj=>Below.heap_setCell _ _ _ _ (by show j≠g;omega)),h.far.setCell (p:=⟨g,k,none⟩) (.inl hg) _⟩⟩
theorem Mb.aeK {cb B pb og:Nat} {A:Option Addr} {L c P:Nat} {w W W1:World} {ve vi vn v' uo:Value} {N:ak} {S T:List Nat} {y:Int} {xs:List Int} {Bo:Nat} (h:Mb cb B pb A L c P w W ve vi vn N S) (ho:k9 W1 B v' (N.ids++[y]) T) (eY:bg vi.ownBlock.toList W W1) (hT:∀j∈T,j∈vi.ownBlock.toList\/W.heap.size<=j) (hb:cb<B) (hp:B<=pb) (hB:B<=W.heap.size)
  (xS:Own W Bo uo xs) (Z8:uo.ownBlock=some og) (Vp:og∉S/\og≠pb):
  bD W1 pb ve vi vn/\∃S',Mb cb B pb A L c P w (W1.setCell ⟨pb,1,none⟩ v') ve v' vn { N with ids:=N.ids++[y] } S'/\Own (W1.setCell ⟨pb,1,none⟩ v') Bo uo xs/\W.heap.size<=(W1.setCell ⟨pb,1,none⟩ v').heap.size/\og∉S':=by
 obtain⟨bN,S',fB,Ay⟩:=h.aeq ho eY hT hb hp hB;have Rw:=h.aej.2;have Vq:=(World.ownsRow.lt xS og Z8).2
 refine⟨bN,S',fB,aK xS (fun j hj=>?_),by rw[jC];exact eY.size,fun hj=>?_⟩
 ·have Fu:j=og:=by rw[Z8]at hj;simpa[eq_comm]using hj
  subst Fu;rw[Below.heap_setCell _ _ _ _ (by exact Vp.2)];exact eY.block _ Vq (fun hm=>Vp.1 (Rw _ hm))
 ·rcases Ay _ hj with h1 | h1
  ·exact Vp.1 h1
  ·omega
theorem tQ (cb:Nat) (A:Option Addr) (L c P B g q n:Nat) (xs:List Int) (w:World) (h:dm w cb A L c P) (hP:P<=4611686018427387000) (ho:Own w B (.slice (some ⟨g,0,none⟩) n q) xs) (hn:n=xs.length) (hB:cb<B) (hx:1<=xs.length) (oQ:xs.length<=1048576):
  Calls Tryz.prog 68 #[.pointer (some ⟨cb,0,none⟩),.slice (some ⟨g,0,none⟩) n q] w fun e w'=>∃x,e=.returned (.int .i64 x)/\x∈xs/\dm w' cb A L c (P+2)/\CB cb w.heap.size w w':=by
 subst hn;exact Ji cb A L c P B g q xs w h hP ho hB hx oQ
section
variable {P : Program} {ops : Array Oper}
def pF (P:Program) (o:Oper) (A:Act) (W:World) (post:Value->World->Prop):Prop:=
 match (execOp A.eval o).run P W with
 | .ok (.value u) W'=>post u W'
 | .ok .skip W'=>post undef W'
 | .ok (.enter f args) W'=>Calls P f args W' fun e oN=>∃u,e=.returned u/\post u oN
 | _=>False
theorem av {o:Oper} {A:Act} {W W':World} {u:Value} {post:Value->World->Prop} (h:(execOp A.eval o).run P W=.ok (.value u) W') (hp:post u W'):pF P o A W post:=by
 unfold pF;rw[h];exact hp
theorem En {o:Oper} {A:Act} {W W':World} {post:Value->World->Prop} (h:(execOp A.eval o).run P W=.ok .skip W') (hp:post undef W'):pF P o A W post:=by
 unfold pF;rw[h];exact hp
theorem eM {o:Oper} {A:Act} {W W':World} {f:FuncId} {args:Array Value} {post:Value->World->Prop} (h:(execOp A.eval o).run P W=.ok (.enter f args) W') (hp:Calls P f args W' fun e oN=>∃u,e=.returned u/\post u oN):pF P o A W post:=by
 unfold pF;rw[h];exact hp
def aai (ops:Array Oper) (k:Nat) (cs:List Nat):Bool:=
 (List.range k).all fun i=>match ops[i]? with
  | none=>true
  | some o=>match cs.findIdx? (fun x=>x==i) with
   | none=>true
   | some r=>r==0||(match cs[r-1]? with | some j=>(bM o).contains j | none=>false)
theorem zo {cs:List Nat} {i j r:Nat} (h:cs.findIdx? (fun x=>x==i)=some r) (h':cs.findIdx? (fun x=>x==j)=some r):i=j:=by
 obtain⟨hr,h1,-⟩:=List.findIdx?_eq_some_iff_getElem.1 h;obtain⟨L4,MC,-⟩:=List.findIdx?_eq_some_iff_getElem.1 h';have e1:cs[r]=i:=by simpa using h1
 have e2:cs[r]=j:=by simpa using MC
 omega
end
end Go.Proofs.YtgmdpppljkmabaaGreat
