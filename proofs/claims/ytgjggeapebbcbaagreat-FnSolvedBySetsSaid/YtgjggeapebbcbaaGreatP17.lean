/- Parts of the proof: walks of functions and plain laws. -/
import Derived.Test.YtgjggeapebbcbaaGreatP0
import Derived.Test.YtgjggeapebbcbaaGreatP13
import Derived.Test.YtgjggeapebbcbaaGreatP5
import Derived.Test.YtgjggeapebbcbaaGreatP7
import Derived.Test.YtgjggeapebbcbaaGreatP14
import Derived.Test.YtgjggeapebbcbaaGreatP3
import Derived.Test.YtgjggeapebbcbaaGreatP6
import Derived.Test.YtgjggeapebbcbaaGreatP9
import Derived.Test.YtgjggeapebbcbaaGreatP2
import Derived.Test.YtgjggeapebbcbaaGreatP8
set_option maxRecDepth 100000
set_option maxHeartbeats 16000000
namespace Go.Proofs.YtgjggeapebbcbaaGreat
open Go Go.RowKit
theorem oa (cb:Nat) (A:Option Addr) (L c P:Nat) (B g q m:Nat) (xs:List Int) (w:World) (hm:xs.length=m) (h:cW w cb A L c P) (hP:P<=4611686018427387000) (ho:Own w B (.slice (some ⟨g,0,none⟩) m q) xs) (hB:cb<B) (hx:1<=xs.length) (sg:xs.length<=1048576):
  Calls Tryz.prog 62 #[.pointer (some ⟨cb,0,none⟩),.slice (some ⟨g,0,none⟩) m q] w fun e w'=>∃x,e=.returned (.int .i64 x)/\x∈xs/\cW w' cb A L c (P+2)/\CB cb w.heap.size w w':=by
 subst hm;exact D7 cb A L c P B g q xs w h hP ho hB hx sg
section
variable {cb pb : Nat} {A : Option Addr} {L c P : Nat} {w W : World} {ve vi vn : Value} {N : am} {S : List Nat}
theorem Br.aax {g m d k:Nat} (h:Br cb pb A L c P w W ve vi (.slice (some ⟨g,0,none⟩) m d) N S) (x:Int) (hk:k<N.aaa.length):
  W.frozen? ⟨g,k,none⟩=false/\(∃z,W.cell? ⟨g,k,none⟩=some z)/\Br cb pb A L c P w (W.setCell ⟨g,k,none⟩ (.int .i64 x)) ve vi (.slice (some ⟨g,0,none⟩) m d) { N with aaa:=N.aaa.set k x } S:=by
 obtain⟨h1,h2,h3⟩:=h.mb.own.aax x hk;exact⟨h2,h.mb.own.aaA hk,h.own h3 (fun j hj=>.inl hj) ((aL.refl _ _).setCell (.inl h1) _)⟩
theorem Br.aaJ {g m d k:Nat} (h:Br cb pb A L c P w W ve (.slice (some ⟨g,0,none⟩) m d) vn N S) (x:Int) (hk:k<N.ids.length):
  W.frozen? ⟨g,k,none⟩=false/\(∃z,W.cell? ⟨g,k,none⟩=some z)/\∃S',Br cb pb A L c P w (W.setCell ⟨g,k,none⟩ (.int .i64 x)) ve (.slice (some ⟨g,0,none⟩) m d) vn { N with ids:=N.ids.set k x } S':=by
 obtain⟨⟨ho,-⟩,hs⟩:=h.mb.aal;obtain⟨y,hy⟩:=ax N.ids k hk;have eK:aL (Value.slice (some ⟨g,0,none⟩) m d).ownBlock.toList W (W.setCell ⟨g,k,none⟩ (.int .i64 x)):=(aL.refl _ _).setCell (.inl (by simp[Value.ownBlock])) _;obtain⟨S',h1,h2⟩:=h.mb.own.aar (vi':=.slice (some ⟨g,0,none⟩) m d) ⟨ho.set (k:=k) x,rfl⟩ eK (fun j hj=>.inl hj)
 exact⟨ho.free k,⟨_,ho.cell hy⟩,S',h.own h1 h2 (eK.mono hs)⟩
theorem Br.aan {g m d k:Nat} {xs:List (Int×Int)} (h:Br cb pb A L c P w W (.slice (some ⟨g,0,none⟩) m d) vi vn N S) (hx:N.ends[k]?=some xs) (h0:0<xs.length):
  ∃gr cr,W.cell? ⟨g,k,none⟩=some (.slice (some ⟨gr,0,none⟩) xs.length cr)/\W.frozen? ⟨gr,0,none⟩=false/\W.frozen? ⟨gr,1,none⟩=false/\(∃z,W.cell? ⟨gr,0,none⟩=some z)/\(∃z,W.cell? ⟨gr,1,none⟩=some z) /\
   (∀x:Int,∃y,Br cb pb A L c P w (W.setCell ⟨gr,0,none⟩ (.int .i64 x)) (.slice (some ⟨g,0,none⟩) m d) vi vn { N with ends:=N.ends.set k (xs.set 0 y) } S) /\
   (∀x:Int,∃y,Br cb pb A L c P w (W.setCell ⟨gr,1,none⟩ (.int .i64 x)) (.slice (some ⟨g,0,none⟩) m d) vi vn { N with ends:=N.ends.set k (xs.set 0 y) } S):=by
 obtain⟨gr,cr,h1,h2,f0,f1,c0,c1,a,b⟩:=h.mb.own.setPort hx h0;refine⟨gr,cr,h1,f0,f1,c0,c1,fun x=>?_,fun x=>?_⟩
 ·obtain⟨y,hy⟩:=a x;exact⟨y,h.own hy (fun j hj=>.inl hj) ((aL.refl _ _).setCell (.inl h2) _)⟩
 ·obtain⟨y,hy⟩:=b x;exact⟨y,h.own hy (fun j hj=>.inl hj) ((aL.refl _ _).setCell (.inl h2) _)⟩
end
theorem Bd.more {n:am} (h:Bd n) (h1:n.ends.length<=60) (h2:n.aaa.length<=60):Bd { n with ends:=n.ends++[[]],aaa:=n.aaa++[0] }:=by
 refine⟨by simp;omega,fun k es he=>?_,h.ids,by simp;omega⟩
 have he:(n.ends++[[]])[k]?=some es:=he;rw[List.getElem?_append]at he
 split at he
 ·exact h.row k es he
 ·have:es=[]:=by
   have h3:=List.mem_of_getElem? he;simpa using h3
  rw[this];simp
def kt:Option Value->Nat
 | some (.slice _ n _)=>n
 | _=>0
theorem l8 {w:World} {B:Nat} (xs:List Int) {v:Value} {o:Obj} (ho:o=.cells (xs.map (Value.int .i64)).toArray 3) (hv:v=.slice (some ⟨w.heap.size,0,none⟩) xs.length xs.length) (hl:xs.length<=1000) (hB:B<=w.heap.size):Own (w.alloc o) B v xs:=by
 subst ho hv
 exact(ka w xs (by unfold maxLen;omega)).mono hB
theorem um (cb:Nat) (A:Option Addr) (L c P R M:Nat) (ve vi vn:Value) (n:am) (w:World) (hc:cW w cb A L c P) (hP:P<=4400000000000000000) (h:aI w ve vi vn n) (hg:Gd R M n) (Po:0<n.ends.length) (hR:R<=100) (hM:M<=40):
  Calls Tryz.prog 117 #[.pointer (some ⟨cb,0,none⟩),.agg #[ve,vi,vn]] w (tO cb w.heap.size A L c (P+3000) w Bd):=by
 have Zu:n.ends.length<=40:=Nat.le_trans hg.ends hM;have vw:Hid (n.aaa.length=n.ends.length):=hg.aaa
 have x9:∀(k:Nat) (es:List (Int×Int)),n.ends[k]?=some es->es.length<=100:=fun k es he=>by have:=hg.row k es he;omega
 have ED:=zh x9;have HM:=zh hM;have fI:=zh (hg.bd (by omega) (by omega));have Oj:M<=100:=by omega
 clear x9 hM;have jw:=hc.lt;obtain⟨A1,c1,rfl,-,tb,-⟩:=id h.1;obtain⟨AI,cI,rfl,-,-,-⟩:=id h.2.1;obtain⟨AN,cN,rfl,-,-,-⟩:=id h.2.2;obtain⟨pb,dy⟩:∃z,z=w.heap.size:=⟨_,rfl⟩
 obtain⟨w0,au⟩:∃z,z=w.alloc (.cells #[.slice A1 n.ends.length c1,.slice AI n.ids.length cI,.slice AN n.aaa.length cN] 27):=⟨_,rfl⟩
 obtain⟨wa,f7⟩:∃z,z=w0.alloc (.cells #[.slice none 0 0,.slice none 0 0,.slice none 0 0] 27):=⟨_,rfl⟩
 have aX:aa w w0:=by rw[au];exact ae _ (ab _)
 have bu:aa w0 wa:=by rw[f7];exact ae _ (ab _)
 have jB:w0.heap.size=w.heap.size+1:=by rw[au];simp
 have bO:aS w0 pb (.slice A1 n.ends.length c1) (.slice AI n.ids.length cI) (.slice AN n.aaa.length cN):=by rw[au,dy];exact aS.new _ _ _ _ _
 have Eu:=bO.below bu (by rw[jB,dy];omega)
 have j1:aT wa (pb+1) (.slice none 0 0) (.slice none 0 0) (.slice none 0 0):=by
  rw[f7,dy,<- jB];show(w0.heap.push _)[w0.heap.size]?=_
  rw[Array.getElem?_push_size]
 have qI:aa w wa:=aX.after bu
 have cA:Hid (cb<pb/\pb+2=wa.heap.size/\pb=w.heap.size):=⟨by omega,by rw[dy,f7];simp;omega,dy⟩
 have LS:=zh qI;have mI:=zh j1;have Mh:=zh Eu;have Ri:=zh (hc.since qI);have Rj:=zh (h.aab qI.below);have Hg:=zh hg;have bM:=zh au;have tj:=zh f7;have dx:=Eu.cells
 have If:n.ends.length<=100:=by have:=hg.ends;omega
 clear hc h aX bu bO j1 qI Eu hg au f7 dy jB
 go_enter Tryz.func117,Tryz.ntmps117
 go_upto_region 1 with(fail);rw[<- bM.out,<- tj.out,<- cA.out.2.2];obtain⟨x0,x1,x2,f0,f1,f2⟩:=dx;go_wp2_with fail
 refine(gD _ _ _ n wa Rj.out (by omega) (fun k es he=>by have:=Hg.out.row k es he;omega) (Hg.out.small hR Oj).sz).mono ?_
 rintro e w1 ⟨ue,ui,un,S0,rfl,ho,aJ⟩;have bu:aa wa w1:=aJ;obtain⟨E1,e1,rfl,-,-,-⟩:=id ho.read.1;obtain⟨EI,eI,rfl,-,-,-⟩:=id ho.read.2.1;obtain⟨EN,eN,rfl,-,-,-⟩:=id ho.read.2.2;clear x0 x1 x2 f0 f1 f2;have wP:=Mh.out.below bu Mh.out.lt;obtain⟨x0,x1,x2,f0,f1,f2⟩:=wP.cells
 have nV:pb∉S0:=fun hj=>by have h1:=(ho.range _ hj).1;have h2:=cA.out;omega
 have fe:Mb cb w.heap.size pb A L c P w (aag w1 pb (.slice E1 n.ends.length e1) (.slice EI n.ids.length eI) (.slice EN n.aaa.length eN)) (.slice E1 n.ends.length e1) (.slice EI n.ids.length eI) (.slice EN n.aaa.length eN) n S0:=by
  have h0:=cA.out
  refine⟨(ho.aac (fun k hk=>bU _ _ _ _ _ (fun e=>nV (by have e':k=pb:=e;exact e' ▸ hk)))).mono (by omega),wP.aag _ _ _,nV,((Ri.out.since bu).aab (fun k hk=>bU _ _ _ _ _ (by omega))),?_⟩
  exact((((CB.of (LS.out.after bu).below).mono (Nat.le_refl _)).setCell (p:=⟨pb,0,none⟩) (.inl (by show _<=pb;omega)) _).setCell (p:=⟨pb,1,none⟩) (.inl (by show _<=pb;omega)) _).setCell (p:=⟨pb,2,none⟩) (.inl (by show _<=pb;omega)) _
 have Mi:aT (aag w1 pb (.slice E1 n.ends.length e1) (.slice EI n.ids.length eI) (.slice EN n.aaa.length eN)) (pb+1) (.slice none 0 0) (.slice none 0 0) (.slice none 0 0):=(bU _ _ _ _ _ (by omega)).trans (mI.out.since bu)
 have cj:wa.heap.size<=(aag w1 pb (.slice E1 n.ends.length e1) (.slice EI n.ids.length eI) (.slice EN n.aaa.length eN)).heap.size:=by rw[ep];exact bu.below.size
 have jz:pb+1∉S0:=fun hj=>by have h1:=(ho.range _ hj).1;have h2:=cA.out;omega
 have mH:=zh fe;have Mj:=zh Mi;have D8:=zh cj;have rc:=zh jz;have Rk:=zh (And.intro f0 (And.intro f1 f2));clear fe Mi cj jz ho aJ bu wP nV;go_upto_region 2 with(fail);obtain⟨w2,eY⟩:∃z,z=((w1.setCell ⟨pb,0,none⟩ (.slice E1 n.ends.length e1)).setCell ⟨pb,1,none⟩ (.slice EI n.ids.length eI)).setCell ⟨pb,2,none⟩ (.slice EN n.aaa.length eN):=⟨_,rfl⟩
 rw[<- eY]
 have gX:Hid (Mb cb w.heap.size pb A L c P w w2 (.slice E1 n.ends.length e1) (.slice EI n.ids.length eI) (.slice EN n.aaa.length eN) n S0):=by show Mb _ _ _ _ _ _ _ _ _ _ _ _ _ _;rw[eY];exact mH.out
 have Od:Hid (aT w2 (pb+1) (.slice none 0 0) (.slice none 0 0) (.slice none 0 0)):=by show aT _ _ _ _ _;rw[eY];exact Mj.out
 have Mk:Hid (wa.heap.size<=w2.heap.size):=by show _<=_;rw[eY];exact D8.out
 have pQ:Hid (Br cb pb A L c P w w2 (.slice E1 n.ends.length e1) (.slice EI n.ids.length eI) (.slice EN n.aaa.length eN) n S0):=by show Br _ _ _ _ _ _ _ _ _ _ _ _ _;exact⟨gX.out,Od.out,rc.out,cA.out.2.2,cA.out.1⟩
 clear eY mH Mj D8 Rk x0 x1 x2 f0 f1 f2 gX Od Mk;obtain⟨g,rfl,-⟩:=pQ.out.mb.own.head Po
 obtain⟨gN,rfl⟩:=pQ.out.mb.own.aay (by have:=vw.out;omega)
 have gz:pb≠cb:=by have:=cA.out;omega
 obtain⟨k0,-,-,-,-,-⟩:=pQ.out.mb.box.cells;go_wp2_with fail;refine(dG cb A L c P (n.ends.length:Int) w2 pQ.out.mb.cur (by omega) (by omega)).mono ?_;rintro e w3 ⟨v,rfl,hv,xi,kW⟩;have pR:v<n.ends.length:=by omega
 have hvi:v<n.aaa.length:=by have:=vw.out;omega
 have uB:=zh (pQ.out.seen kW xi);clear xi kW hv k0;go_wp2_with fail;refine(dG cb A L c (P+2) 40 w3 uB.out.mb.cur (by omega) (by omega)).mono ?_;rintro e w4 ⟨x,rfl,hx,pG,np⟩;have gM:=zh (uB.out.seen np pG);clear pG np hx;obtain⟨xv,gC⟩:∃x,x=bg n v:=⟨_,rfl⟩
 have nq:=a_ pR;rw[<- gC]at nq;have NU:=zh nq;have tF:=zh (ED.out _ _ nq)
 have Ej:g≠cb:=fun e=>by
  obtain⟨gr,Tr,-,-,-,-,-,qG,-⟩:=gM.out.mb.own.aak nq;have h1:=(gM.out.mb.own.range _ qG).1;have h2:=cA.out;omega
 clear nq gC;rcases(show x=0\/x=1\/x=2\/x=3\/x=4\/x=5\/x=6\/x=7\/x=8\/9<=x by omega)with rfl | rfl | rfl | rfl | rfl | rfl | rfl | rfl | rfl | h9
 ·go_upto_region 5 with(fail);refine ar (fun W=>W.cell? ⟨pb,2,none⟩=some (.slice (some ⟨gN,0,none⟩) n.aaa.length eN)) 6 [false,false,false,false,true,true] (by kernel_rfl) (by kernel_rfl) (show(World.drew w4).cell? ⟨pb,2,none⟩=some (.slice (some ⟨gN,0,none⟩) n.aaa.length eN)from gM.out.mb.box.cells.2.2.1) ?_
  simp only[df,b8,zT]
  iterate 4 (apply aU rfl;(intro W hW;(have k0:=hW);go_simp;with_reducible rfl);simp only[zA])
  obtain⟨W,bB⟩:∃W,W=World.drew w4:=⟨_,rfl⟩
  rw[<- bB];have hW:=(show(World.drew w4).cell? ⟨pb,2,none⟩=some (.slice (some ⟨gN,0,none⟩) n.aaa.length eN)from gM.out.mb.box.cells.2.2.1);rw[<- bB]at hW;have dX:=zh bB;clear bB
  refine bD (v:=?_) (ob:=?_) rfl ?_ ?_ ?_;rotate_left 2
  (go_simp;first | with_reducible rfl | (refine⟨?_,?_⟩ <;> with_reducible rfl))
  exact bc (aj _ _) hW;intro w5 kv pf
  replace hW:=pf
  clear pf
  have tW:aa w4 w5:=(by rw[kv,dX.out];exact ae _ (ah (ab _)))
  have uF:=zh ((gM.out).since tW)
  have CG:Hid (Own w5 w4.heap.size (.slice (some ⟨w4.heap.size,0,none⟩) 3 3) [-1,9,10]):=(by show Own _ _ _ _;rw[kv,dX.out];exact l8 [-1,9,10] rfl rfl (by simp) (Nat.le_refl _))
  have IC:cb<w4.heap.size:=(gM.out).mb.cur.lt
  rw[show W.heap.size=w4.heap.size from by rw[dX.out];rfl]
  clear kv tW
  (try simp only[zA])
  refine Or.inl ⟨rfl,?_⟩
  go_simp
  (with_reducible refine(oa cb A L c (P+4) w4.heap.size w4.heap.size 3 3 [-1,9,10] _ rfl uF.out.mb.cur (by omega) CG.out IC (by simp) (by simp)).mono ?_)
  rintro e W' ⟨a,rfl,ha,gW,hC⟩;refine⟨_,rfl,ap hW gz _ hC,?_⟩
  replace hW:=ap hW gz _ hC
  have zN:=zh (uF.out.seen hC gW);clear gW hC ha
  (try simp only[zA])
  simp only[aQ]
  obtain⟨f9,⟨z9,c9⟩,nC⟩:=zN.out.aax (k:=v) a (by have:=vw.out;omega)
  have iW:=zh nC;clear nC;go_upto_region 29 with(fail);obtain⟨w7,nz⟩:∃z,z=W'.setCell ⟨gN,v,none⟩ (.int .i64 a):=⟨_,rfl⟩
  rw[<- nz];rw[<- nz]at iW;clear nz hW c9 f9;obtain⟨k0,k1,k2,-,-,-⟩:=(iW.out).mb.box.cells;obtain⟨e0,za,e2,f0,f1,f2⟩:=(iW.out).rb.box.cells;have cw:=zh (iW.out).ret;go_wp2;refine bodyPost_ret (v:=.agg #[.slice (some ⟨g,0,none⟩) n.ends.length e1,.slice EI n.ids.length eI,.slice (some ⟨gN,0,none⟩) n.aaa.length eN]) (by simp[results,Tryz.results117,go_sem, *]) rfl ?_;obtain⟨r1,r2,r3⟩:=cw.out
  exact⟨_,_,_,_,_,rfl,r1,⟨fI.out.ends,fI.out.row,fI.out.ids,by show(List.set _ _ _).length<=_;rw[List.length_set];exact fI.out.aaa⟩,r2.mono (by omega),r3⟩
 ·have pH:aa w4 (w4.alloc (.cells #[.int .i64 0] 3)):=ae _ (ab _);have uF:=zh (gM.out.since pH);clear pH;obtain⟨k0,k1,k2,f0,f1,f2⟩:=gM.out.mb.box.cells
  go_upto_region 29 with(at_builtin;refine fd (base:=w.heap.size) rfl _ _ rfl rfl uF.out.mb.aaC.1.1 rfl (n_ _ _) (by have:=fI.out.aaa;simp;omega) uF.out.sz ?_;intro v' w6 T eu tl MJ;obtain⟨V,mV,cV,rfl⟩:=dF.one eu;obtain⟨rX,S6,nC⟩:=uF.out.aaG eu tl MJ;clear k0 k1 k2 f0 f1 f2 eu tl MJ;obtain⟨k0,k1,k2,f0,f1,f2⟩:=rX.cells;have iW:=zh nC;clear rX nC)
  obtain⟨w7,nz⟩:∃z,z=w6.setCell ⟨pb,2,none⟩ (.slice V mV cV):=⟨_,rfl⟩
  rw[<- nz];rw[<- nz]at iW;clear nz k0 k1 k2 f0 f1 f2;obtain⟨k0,k1,k2,-,-,-⟩:=(iW.out).mb.box.cells;obtain⟨e0,za,e2,f0,f1,f2⟩:=(iW.out).rb.box.cells;have cw:=zh (iW.out).ret;go_wp2;refine bodyPost_ret (v:=.agg #[.slice (some ⟨g,0,none⟩) n.ends.length e1,.slice EI n.ids.length eI,.slice V mV cV]) (by simp[results,Tryz.results117,go_sem, *]) rfl ?_;obtain⟨r1,r2,r3⟩:=cw.out
  exact⟨_,_,_,_,_,rfl,r1,⟨fI.out.ends,fI.out.row,fI.out.ids,by have:=vw.out;simp;omega⟩,r2.mono (by omega),r3⟩
 ·have hx:=NU.out
  by_cases sZ:0<xv.length
  ·obtain⟨gr,cr,ID,-,-,-,-,-,-⟩:=gM.out.aan hx sZ
   have e0:((0:Int)<(xv.length:Int))=True:=by simp;omega
   obtain⟨k0,-,-,-,-,-⟩:=gM.out.mb.box.cells;go_upto_region 10 with(fail);refine ar (fun W=>W.cell? ⟨pb,0,none⟩=some (.slice (some ⟨g,0,none⟩) n.ends.length e1)/\W.cell? ⟨g,v,none⟩=some (.slice (some ⟨gr,0,none⟩) xv.length cr)) 8 [false,false,false,false,false,false,true,true] (by kernel_rfl) (by kernel_rfl) (show(World.drew w4).cell? ⟨pb,0,none⟩=some (.slice (some ⟨g,0,none⟩) n.ends.length e1)/\(World.drew w4).cell? ⟨g,v,none⟩=some (.slice (some ⟨gr,0,none⟩) xv.length cr)from⟨gM.out.mb.box.cells.1,ID⟩) ?_
   simp only[df,b8,zT]
   iterate 6 (apply aU rfl;(intro W hW;(obtain⟨k0,k1⟩:=hW);go_simp;with_reducible rfl);simp only[zA])
   obtain⟨W,bB⟩:∃W,W=World.drew w4:=⟨_,rfl⟩
   rw[<- bB];have hW:=(show(World.drew w4).cell? ⟨pb,0,none⟩=some (.slice (some ⟨g,0,none⟩) n.ends.length e1)/\(World.drew w4).cell? ⟨g,v,none⟩=some (.slice (some ⟨gr,0,none⟩) xv.length cr)from⟨gM.out.mb.box.cells.1,ID⟩);rw[<- bB]at hW;have dX:=zh bB;clear bB
   refine bD (v:=?_) (ob:=?_) rfl ?_ ?_ ?_;rotate_left 2
   (go_simp;first | with_reducible rfl | (refine⟨?_,?_⟩ <;> with_reducible rfl))
   exact⟨bc (aj _ _) hW.1,bc (aj _ _) hW.2⟩;intro w5 kv pf
   replace hW:=pf
   clear pf
   have tW:aa w4 w5:=(by rw[kv,dX.out];exact ae _ (ah (ab _)))
   have uF:=zh ((gM.out).since tW)
   have CG:Hid (Own w5 w4.heap.size (.slice (some ⟨w4.heap.size,0,none⟩) 4 4) [-1,0,1,6]):=(by show Own _ _ _ _;rw[kv,dX.out];exact l8 [-1,0,1,6] rfl rfl (by simp) (Nat.le_refl _))
   have IC:cb<w4.heap.size:=(gM.out).mb.cur.lt
   rw[show W.heap.size=w4.heap.size from by rw[dX.out];rfl]
   clear kv tW
   (try simp only[zA])
   refine Or.inl ⟨rfl,?_⟩
   go_simp
   (with_reducible refine(oa cb A L c (P+4) w4.heap.size w4.heap.size 4 4 [-1,0,1,6] _ rfl uF.out.mb.cur (by omega) CG.out IC (by simp) (by simp)).mono ?_)
   rintro e W' ⟨a,rfl,ha,gW,hC⟩;refine⟨_,rfl,And.intro (ap hW.1 gz _ hC) (ap hW.2 Ej _ hC),?_⟩
   replace hW:=And.intro (ap hW.1 gz _ hC) (ap hW.2 Ej _ hC)
   have zN:=zh (uF.out.seen hC gW);clear gW hC ha
   (try simp only[zA])
   simp only[aQ];obtain⟨Zv,Zw,h1,f0,f1,⟨z0,c0⟩,⟨z1,c1⟩,hA,hB⟩:=zN.out.aan hx sZ;rw[hW.2]at h1
   injection h1 with h1
   injection h1 with h1 h2 h3
   injection h1 with h1
   injection h1 with h1
   subst h1;obtain⟨y,nC⟩:=hB a;have iW:=zh nC;clear hA hB nC k0;go_upto_region 29 with(fail);obtain⟨w7,nz⟩:∃z,z=W'.setCell ⟨gr,1,none⟩ (.int .i64 a):=⟨_,rfl⟩
   rw[<- nz];rw[<- nz]at iW;clear nz hW c0 c1 f0 f1 e0 ID;obtain⟨k0,k1,k2,-,-,-⟩:=(iW.out).mb.box.cells;obtain⟨e0,za,e2,f0,f1,f2⟩:=(iW.out).rb.box.cells;have cw:=zh (iW.out).ret;go_wp2;refine bodyPost_ret (v:=.agg #[.slice (some ⟨g,0,none⟩) n.ends.length e1,.slice EI n.ids.length eI,.slice (some ⟨gN,0,none⟩) n.aaa.length eN]) (by simp[results,Tryz.results117,go_sem, *]) rfl ?_;obtain⟨r1,r2,r3⟩:=cw.out
   exact⟨_,_,_,_,_,rfl,r1,fI.out.setRow v (by rw[List.length_set];have:=tF.out;omega),r2.mono (by omega),r3⟩
  ·have MK:xv.length=0:=by omega
   obtain⟨u0,T0,BZ,-,F6,-,-,-⟩:=gM.out.mb.own.aah hx;obtain⟨AU,cU,rfl,-,-,-⟩:=id F6.read;have gC:xv=[]:=List.eq_nil_of_length_eq_zero MK;rw[MK]at BZ;clear F6;obtain⟨k0,-,-,-,-,-⟩:=gM.out.mb.box.cells;go_upto_region 29 with(fail);clear k0 BZ;obtain⟨k0,k1,k2,-,-,-⟩:=(gM.out).mb.box.cells;obtain⟨e0,za,e2,f0,f1,f2⟩:=(gM.out).rb.box.cells;have cw:=zh (gM.out).ret;go_wp2;refine bodyPost_ret (v:=.agg #[.slice (some ⟨g,0,none⟩) n.ends.length e1,.slice EI n.ids.length eI,.slice (some ⟨gN,0,none⟩) n.aaa.length eN]) (by simp[results,Tryz.results117,go_sem, *]) rfl ?_;obtain⟨r1,r2,r3⟩:=cw.out;exact⟨_,_,_,_,_,rfl,r1,fI.out,r2.mono (by omega),r3⟩
 ·have hx:=NU.out
  by_cases sZ:0<xv.length
  ·obtain⟨gr,cr,ID,-,-,-,-,-,-⟩:=gM.out.aan hx sZ
   have e0:((0:Int)<(xv.length:Int))=True:=by simp;omega
   obtain⟨k0,-,-,-,-,-⟩:=gM.out.mb.box.cells;go_upto_region 13 with(fail);refine ar (fun W=>W.cell? ⟨pb,0,none⟩=some (.slice (some ⟨g,0,none⟩) n.ends.length e1)/\W.cell? ⟨g,v,none⟩=some (.slice (some ⟨gr,0,none⟩) xv.length cr)) 11 [false,false,false,false,false,false,false,false,false,true,true] (by kernel_rfl) (by kernel_rfl) (show(World.drew w4).cell? ⟨pb,0,none⟩=some (.slice (some ⟨g,0,none⟩) n.ends.length e1)/\(World.drew w4).cell? ⟨g,v,none⟩=some (.slice (some ⟨gr,0,none⟩) xv.length cr)from⟨gM.out.mb.box.cells.1,ID⟩) ?_
   simp only[df,b8,zT]
   iterate 9 (apply aU rfl;(intro W hW;(obtain⟨k0,k1⟩:=hW);go_simp;with_reducible rfl);simp only[zA])
   obtain⟨W,bB⟩:∃W,W=World.drew w4:=⟨_,rfl⟩
   rw[<- bB];have hW:=(show(World.drew w4).cell? ⟨pb,0,none⟩=some (.slice (some ⟨g,0,none⟩) n.ends.length e1)/\(World.drew w4).cell? ⟨g,v,none⟩=some (.slice (some ⟨gr,0,none⟩) xv.length cr)from⟨gM.out.mb.box.cells.1,ID⟩);rw[<- bB]at hW;have dX:=zh bB;clear bB
   refine bD (v:=?_) (ob:=?_) rfl ?_ ?_ ?_;rotate_left 2
   (go_simp;first | with_reducible rfl | (refine⟨?_,?_⟩ <;> with_reducible rfl))
   exact⟨bc (aj _ _) hW.1,bc (aj _ _) hW.2⟩;intro w5 kv pf
   replace hW:=pf
   clear pf
   have tW:aa w4 w5:=(by rw[kv,dX.out];exact ae _ (ah (ab _)))
   have uF:=zh ((gM.out).since tW)
   have CG:Hid (Own w5 w4.heap.size (.slice (some ⟨w4.heap.size,0,none⟩) 3 3) [-1,0,(n.ends.length:Int)]):=(by show Own _ _ _ _;rw[kv,dX.out];exact l8 [-1,0,(n.ends.length:Int)] rfl rfl (by simp) (Nat.le_refl _))
   have IC:cb<w4.heap.size:=(gM.out).mb.cur.lt
   rw[show W.heap.size=w4.heap.size from by rw[dX.out];rfl]
   clear kv tW
   (try simp only[zA])
   refine Or.inl ⟨rfl,?_⟩
   go_simp
   (with_reducible refine(oa cb A L c (P+4) w4.heap.size w4.heap.size 3 3 [-1,0,(n.ends.length:Int)] _ rfl uF.out.mb.cur (by omega) CG.out IC (by simp) (by simp)).mono ?_)
   rintro e W' ⟨a,rfl,ha,gW,hC⟩;refine⟨_,rfl,And.intro (ap hW.1 gz _ hC) (ap hW.2 Ej _ hC),?_⟩
   replace hW:=And.intro (ap hW.1 gz _ hC) (ap hW.2 Ej _ hC)
   have zN:=zh (uF.out.seen hC gW);clear gW hC ha
   (try simp only[zA])
   simp only[aQ];obtain⟨Zv,Zw,h1,f0,f1,⟨z0,c0⟩,⟨z1,c1⟩,hA,hB⟩:=zN.out.aan hx sZ;rw[hW.2]at h1
   injection h1 with h1
   injection h1 with h1 h2 h3
   injection h1 with h1
   injection h1 with h1
   subst h1;obtain⟨y,nC⟩:=hA a;have iW:=zh nC;clear hA hB nC k0;go_upto_region 29 with(fail);obtain⟨w7,nz⟩:∃z,z=W'.setCell ⟨gr,0,none⟩ (.int .i64 a):=⟨_,rfl⟩
   rw[<- nz];rw[<- nz]at iW;clear nz hW c0 c1 f0 f1 e0 ID;obtain⟨k0,k1,k2,-,-,-⟩:=(iW.out).mb.box.cells;obtain⟨e0,za,e2,f0,f1,f2⟩:=(iW.out).rb.box.cells;have cw:=zh (iW.out).ret;go_wp2;refine bodyPost_ret (v:=.agg #[.slice (some ⟨g,0,none⟩) n.ends.length e1,.slice EI n.ids.length eI,.slice (some ⟨gN,0,none⟩) n.aaa.length eN]) (by simp[results,Tryz.results117,go_sem, *]) rfl ?_;obtain⟨r1,r2,r3⟩:=cw.out
   exact⟨_,_,_,_,_,rfl,r1,fI.out.setRow v (by rw[List.length_set];have:=tF.out;omega),r2.mono (by omega),r3⟩
  ·have MK:xv.length=0:=by omega
   obtain⟨u0,T0,BZ,-,F6,-,-,-⟩:=gM.out.mb.own.aah hx;obtain⟨AU,cU,rfl,-,-,-⟩:=id F6.read;have gC:xv=[]:=List.eq_nil_of_length_eq_zero MK;rw[MK]at BZ;clear F6;obtain⟨k0,-,-,-,-,-⟩:=gM.out.mb.box.cells;go_upto_region 29 with(fail);clear k0 BZ;obtain⟨k0,k1,k2,-,-,-⟩:=(gM.out).mb.box.cells;obtain⟨e0,za,e2,f0,f1,f2⟩:=(gM.out).rb.box.cells;have cw:=zh (gM.out).ret;go_wp2;refine bodyPost_ret (v:=.agg #[.slice (some ⟨g,0,none⟩) n.ends.length e1,.slice EI n.ids.length eI,.slice (some ⟨gN,0,none⟩) n.aaa.length eN]) (by simp[results,Tryz.results117,go_sem, *]) rfl ?_;obtain⟨r1,r2,r3⟩:=cw.out;exact⟨_,_,_,_,_,rfl,r1,fI.out,r2.mono (by omega),r3⟩
 ·go_upto_region 15 with(fail)
  go_loopw [83] (fun _ wr=>∃(N:am) (S:List Nat) (xs:List (Int×Int)),Br cb pb A L c (P+4+2*xs.length) w wr (.slice (some ⟨g,0,none⟩) n.ends.length e1) (.slice EI n.ids.length eI) (.slice (some ⟨gN,0,none⟩) n.aaa.length eN) N S/\N.ends.length=n.ends.length/\N.ends[v]?=some xs/\Bd N/\xs.length<=200) (fun _ wr=>8-kt (wr.cell? ⟨g,v,none⟩))
  case atStart=>exact⟨n,_,xv,gM.out.up (by omega),rfl,NU.out,fI.out,by have:=tF.out;omega⟩
  case round=>
   obtain⟨N,S,xs,hb,jG,kj,ML,BV⟩:=hrel;obtain⟨wo,rfl⟩:∃z,z=wr:=⟨_,rfl⟩
   obtain⟨u0,T0,BZ,-,F6,-,-,-⟩:=hb.mb.own.aah kj;obtain⟨AU,cU,rfl,-,-,-⟩:=id F6.read;have qv:=zh hb;have Km:=zh kj;have F7:=zh ML;have ei:=zh jG;have RR:=zh BZ;clear hb kj ML jG F6 BZ;go_upto_region 15 with(fail);refine ar (fun W=>W.cell? ⟨pb,0,none⟩=some (.slice (some ⟨g,0,none⟩) n.ends.length e1)/\W.cell? ⟨g,v,none⟩=some (.slice AU xs.length cU)) 10 [false,false,false,false,false,false,false,true,true,true] (by kernel_rfl) (by kernel_rfl) (show(World.drew wo).cell? ⟨pb,0,none⟩=some (.slice (some ⟨g,0,none⟩) n.ends.length e1)/\(World.drew wo).cell? ⟨g,v,none⟩=some (.slice AU xs.length cU)from⟨qv.out.mb.box.cells.1,RR.out⟩) ?_
   simp only[df,b8,zT]
   iterate 7 (apply aU rfl;(intro W hW;(obtain⟨k0,k1⟩:=hW);go_simp;with_reducible rfl);simp only[zA])
   obtain⟨W,bB⟩:∃W,W=World.drew wo:=⟨_,rfl⟩
   rw[<- bB];have hW:=(show(World.drew wo).cell? ⟨pb,0,none⟩=some (.slice (some ⟨g,0,none⟩) n.ends.length e1)/\(World.drew wo).cell? ⟨g,v,none⟩=some (.slice AU xs.length cU)from⟨qv.out.mb.box.cells.1,RR.out⟩);rw[<- bB]at hW;have dX:=zh bB;clear bB;refine Or.inl ⟨rfl,?_⟩
   go_simp
   (with_reducible refine(dG cb A L c (P+4+2*xs.length) 2 W (by rw[dX.out];exact qv.out.mb.cur.since (ah (ab _))) (by omega) (by omega)).mono ?_)
   rintro e W' ⟨b,rfl,hb,gW,hC⟩;refine⟨_,rfl,And.intro (ap hW.1 gz _ hC) (ap hW.2 Ej _ hC),?_⟩
   replace hW:=And.intro (ap hW.1 gz _ hC) (ap hW.2 Ej _ hC)
   have jA:aa wo W:=(by rw[dX.out];exact ah (ab _))
   have iW:=zh (qv.out.seen (((fR.refl cb wo).after jA).trans hC) gW);have hb2:b<2:=(by omega);have m1:IntKind.i64.wrap (6+(b:Int))=6+(b:Int):=aR _ (by omega) (by omega);clear hC gW jA hb
   (try simp only[zA])
   refine fP (v:=?_) rfl ?_ hW ?_;rotate_left;(go_simp;with_reducible rfl)
   simp only[zA]
   refine fP (v:=?_) rfl ?_ hW ?_;rotate_left;(go_simp;with_reducible rfl)
   simp only[zA];simp only[aQ];obtain⟨w7,rfl⟩:∃z,z=W':=⟨_,rfl⟩
   have JI:=zh hW;clear hW
   by_cases aH:xs.length<6+b
   ·have e0:((xs.length:Int)<6+(b:Int))=True:=by simp;omega
    obtain⟨u2,T2,ux,xB,tG,k8,py,lV,gV⟩:=iW.out.mb.own.aak Km.out;have EE:=ux;rw[JI.out.2]at EE;have EE:=Option.some.inj EE;subst EE;have wb:=zh tG;have k9:=zh gV;have wd:=zh py;have wg:=zh lV;have wh:=zh k8;have Hw:=zh xB;have wj:Hid (pb∉T2):=fun h=>iW.out.mb.nb (k8 _ h)
    have Ju:Hid (xs.length+1<=1000000):=by show _<=_;omega
    have px:Hid (w.heap.size<=w7.heap.size):=iW.out.sz;clear ux xB tG k8 py lV gV;go_upto_region 16 with(fail);refine ar (fun W=>W.cell? ⟨pb,0,none⟩=some (.slice (some ⟨g,0,none⟩) n.ends.length e1)/\W.cell? ⟨g,v,none⟩=some (.slice AU xs.length cU)) 18 [false,false,false,false,false,false,false,false,false,false,false,false,false,false,false,false,true,true] (by kernel_rfl) (by kernel_rfl) (show(World.drew w7).cell? ⟨pb,0,none⟩=some (.slice (some ⟨g,0,none⟩) n.ends.length e1)/\(World.drew w7).cell? ⟨g,v,none⟩=some (.slice AU xs.length cU)from⟨JI.out.1,JI.out.2⟩) ?_
    simp only[df,b8,zT]
    iterate 16 (apply aU rfl;(intro W hW;(obtain⟨k0,k1⟩:=hW);go_simp;with_reducible rfl);simp only[zA])
    obtain⟨W,bB⟩:∃W,W=World.drew w7:=⟨_,rfl⟩
    rw[<- bB];have hW:=(show(World.drew w7).cell? ⟨pb,0,none⟩=some (.slice (some ⟨g,0,none⟩) n.ends.length e1)/\(World.drew w7).cell? ⟨g,v,none⟩=some (.slice AU xs.length cU)from⟨JI.out.1,JI.out.2⟩);rw[<- bB]at hW;have dX:=zh bB;clear bB
    refine bD (v:=?_) (ob:=?_) rfl ?_ ?_ ?_;rotate_left 2
    (go_simp;first | with_reducible rfl | (refine⟨?_,?_⟩ <;> with_reducible rfl))
    exact⟨bc (aj _ _) hW.1,bc (aj _ _) hW.2⟩;intro w8 f6 gP
    replace hW:=gP
    clear gP
    have tI:Hid (w8=(World.drew w7).alloc (.cells #[.int .i64 (v:Int),.int .i64 (xs.length:Int)] 36)):=by show _=_;rw[f6,dX.out]
    have iz:Hid (aa w7 w8):=by show aa _ _;rw[tI.out];exact ae _ (ah (ab _))
    have pg:Hid (co w8 w.heap.size (.slice AU xs.length cU) xs T2):=fm.aab wb.out iz.out.below
    have ql:Hid (w8.cell? ⟨w7.heap.size,0,none⟩=some (.int .i64 (v:Int))/\w8.cell? ⟨w7.heap.size,1,none⟩=some (.int .i64 (xs.length:Int))):=by show _/\_;rw[tI.out];exact eP (World.drew w7) _ _ _
    rw[show W.heap.size=w7.heap.size from by rw[dX.out];rfl]
    clear f6 dX
    (try simp only[zA])
    refine ci (fun Q' HQ=>?_)
    (refine gS (base:=w.heap.size) (v:=.slice AU xs.length cU) (xs:=xs) rfl _ _ rfl rfl pg.out w7.heap.size ((v:Int),(xs.length:Int)) rfl ql.out.1 ql.out.2 Ju.out (Nat.le_trans px.out iz.out.below.size) ?_);intro g9 rf w9 fg mc qk;have ee:=aL.aaf mc;have pz:(Value.slice AU xs.length cU).ownBlock.toList=T2:=(wb.out.2).symm;have jz:(⟨pb,0,none⟩:Addr).block∉(Value.slice AU xs.length cU).ownBlock.toList:=(by rw[pz];exact wj.out);have lW:(⟨g,v,none⟩:Addr).block∉(Value.slice AU xs.length cU).ownBlock.toList:=(by rw[pz];exact wd.out);have ld:=ee.cell jz hW.1;have nT:=ee.cell lW hW.2;have yr:=ee.fz lW hW.2 (bf iz.out.below JI.out.2 Hw.out);refine HQ _ _ ⟨ld,nT⟩ ?_;have qm:=zh (kr k9.out wb.out iz.out fg mc qk wh.out wg.out);clear fg mc qk jz lW ee pz hW
    (try simp only[zA])
    simp only[aQ];obtain⟨S5,cj,cX,o_⟩:=qm.out;have sq:=zh (iW.out.own cj cX o_)
    have J0:(N.ends.set v (xs++[((v:Int),(xs.length:Int))]))[v]?=some (xs++[((v:Int),(xs.length:Int))]):=by rw[List.getElem?_set_self (by have:=ei.out;omega)]
    have Zx:=zh J0
    have Zy:=zh (show kt ((w9.setCell ⟨g,v,none⟩ (.slice (some ⟨g9,0,none⟩) (xs.length+1) rf)).cell? ⟨g,v,none⟩)=xs.length+1 from by
     obtain⟨u9,T9,Zz,-,ZA,-,-,-⟩:=sq.out.mb.own.aah J0;obtain⟨A9,c9',rfl,-,-,-⟩:=id ZA.read;rw[Zz]
     simp[kt])
    clear cj cX o_ J0 qm;go_wp2;go_roundw
    case rel=>exact⟨_,S5,_,sq.out.up (by simp;omega),by show(List.set _ _ _).length=_;rw[List.length_set];exact ei.out,Zx.out,F7.out.setRow v (by simp;omega),by simp;omega⟩
    case measure=>rw[Zy.out];have h7:=RR.out;simp only[h7,kt];omega
   ·have e0:((xs.length:Int)<6+(b:Int))=False:=by simp;omega
    go_upto_region 29 with(fail);clear e0;obtain⟨k0,k1,k2,-,-,-⟩:=(iW.out).mb.box.cells;obtain⟨e0,za,e2,f0,f1,f2⟩:=(iW.out).rb.box.cells;have cw:=zh (iW.out).ret;go_wp2;refine bodyPost_ret (v:=.agg #[.slice (some ⟨g,0,none⟩) n.ends.length e1,.slice EI n.ids.length eI,.slice (some ⟨gN,0,none⟩) n.aaa.length eN]) (by simp[results,Tryz.results117,go_sem, *]) rfl ?_;obtain⟨r1,r2,r3⟩:=cw.out;exact⟨_,_,_,_,_,rfl,r1,F7.out,r2.mono (by omega),r3⟩
 ·obtain⟨k0,k1,k2,-,-,-⟩:=gM.out.mb.box.cells;go_wp2_with fail;refine(rj cb A L c (P+4) R M _ _ _ n w4 gM.out.mb.cur (by omega) gM.out.mb.own.read Hg.out hR Oj).mono ?_;rintro e w5 ⟨ve5,vi5,vn5,N5,S5,rfl,Eo,⟨lQ,xF,JH⟩,rY,zM⟩;obtain⟨D0,d0,rfl,-,-,-⟩:=id Eo.read.1;obtain⟨D1,d1,rfl,-,-,-⟩:=id Eo.read.2.1;obtain⟨D2,d2,rfl,-,-,-⟩:=id Eo.read.2.2;have rX:=gM.out.assign zM rY Eo;have dx:=gM.out.seen zM rY;have RS:0<N5.ids.length:=by omega
  have bh:=rX.mb.aal.1.1
  obtain⟨gI,rfl⟩:∃gI,D1=some ⟨gI,0,none⟩:=by
   rcases bh.cases with⟨h1,h2⟩ | ⟨gq,cq,h1,-,-⟩
   ·rw[h2]at RS;simp at RS
   ·cases h1;exact⟨gq,rfl⟩
  clear k0 k1 k2;obtain⟨k0,k1,k2,f0,f1,f2⟩:=dx.mb.box.cells;have MM:=zh rX;have Hq:=zh (And.intro lQ (And.intro xF JH));clear rX dx Eo rY zM bh lQ xF JH;go_upto_region 19 with(fail);obtain⟨w6,Er⟩:∃z,z=((w5.setCell ⟨pb,0,none⟩ (.slice D0 N5.ends.length d0)).setCell ⟨pb,1,none⟩ (.slice (some ⟨gI,0,none⟩) N5.ids.length d1)).setCell ⟨pb,2,none⟩ (.slice D2 N5.aaa.length d2):=⟨_,rfl⟩
  rw[<- Er]
  have zN:Hid (Br cb pb A L c (P+4+1000) w w6 (.slice D0 N5.ends.length d0) (.slice (some ⟨gI,0,none⟩) N5.ids.length d1) (.slice D2 N5.aaa.length d2) N5 S5):=by show Br _ _ _ _ _ _ _ _ _ _ _ _ _;rw[Er];exact MM.out
  clear Er MM k0 k1 k2 f0 f1 f2;obtain⟨z0,eS⟩:=ax N5.ids 0 RS
  have ZB:v<N5.ids.length:=by have:=Hq.out.2.2;omega
  have Vp:=zN.out.mb.aal.1.1.cell eS
  have IE:gI≠cb:=fun e=>by
   have h1:=(World.ownsRow.lt zN.out.mb.aal.1.1 gI (by simp[Value.ownBlock])).1;have h2:=cA.out;omega
  go_upto_region 19 with(fail);refine ar (fun W=>W.cell? ⟨pb,1,none⟩=some (.slice (some ⟨gI,0,none⟩) N5.ids.length d1)/\W.cell? ⟨gI,0,none⟩=some (.int .i64 z0)) 10 [false,false,false,false,false,false,false,false,true,true] (by kernel_rfl) (by kernel_rfl) (show(World.drew w6).cell? ⟨pb,1,none⟩=some (.slice (some ⟨gI,0,none⟩) N5.ids.length d1)/\(World.drew w6).cell? ⟨gI,0,none⟩=some (.int .i64 z0)from⟨zN.out.mb.box.cells.2.1,Vp⟩) ?_
  simp only[df,b8,zT]
  iterate 8 (apply aU rfl;(intro W hW;(obtain⟨k0,k1⟩:=hW);go_simp;with_reducible rfl);simp only[zA])
  obtain⟨W,bB⟩:∃W,W=World.drew w6:=⟨_,rfl⟩
  rw[<- bB];have hW:=(show(World.drew w6).cell? ⟨pb,1,none⟩=some (.slice (some ⟨gI,0,none⟩) N5.ids.length d1)/\(World.drew w6).cell? ⟨gI,0,none⟩=some (.int .i64 z0)from⟨zN.out.mb.box.cells.2.1,Vp⟩);rw[<- bB]at hW;have dX:=zh bB;clear bB
  refine bD (v:=?_) (ob:=?_) rfl ?_ ?_ ?_;rotate_left 2
  (go_simp;first | with_reducible rfl | (refine⟨?_,?_⟩ <;> with_reducible rfl))
  exact⟨bc (aj _ _) hW.1,bc (aj _ _) hW.2⟩;intro w7 IF MN
  replace hW:=MN
  clear MN
  have EF:aa w6 w7:=(by rw[IF,dX.out];exact ae _ (ah (ab _)))
  have iW:=zh ((zN.out).since EF)
  have Ro:Hid (Own w7 w6.heap.size (.slice (some ⟨w6.heap.size,0,none⟩) 5 5) [0,1,999999,1000000,z0]):=(by show Own _ _ _ _;rw[IF,dX.out];exact l8 [0,1,999999,1000000,z0] rfl rfl (by simp) (Nat.le_refl _))
  have IC:cb<w6.heap.size:=(zN.out).mb.cur.lt
  rw[show W.heap.size=w6.heap.size from by rw[dX.out];rfl]
  clear IF EF
  (try simp only[zA])
  refine Or.inl ⟨rfl,?_⟩
  go_simp
  (with_reducible refine(oa cb A L c (P+4+1000) w6.heap.size w6.heap.size 5 5 [0,1,999999,1000000,z0] _ rfl iW.out.mb.cur (by omega) Ro.out IC (by simp) (by simp)).mono ?_)
  rintro e W' ⟨a,rfl,ha,gW,hC⟩;refine⟨_,rfl,And.intro (ap hW.1 gz _ hC) (ap hW.2 IE _ hC),?_⟩
  replace hW:=And.intro (ap hW.1 gz _ hC) (ap hW.2 IE _ hC)
  have JJ:=zh (iW.out.seen hC gW);clear gW hC ha
  (try simp only[zA])
  simp only[aQ]
  obtain⟨f9,⟨z9,c9⟩,S9,j5⟩:=JJ.out.aaJ (k:=v) a (by have:=Hq.out.2.2;omega)
  have sq:=zh j5;clear j5;go_upto_region 29 with(fail);obtain⟨w9,CU⟩:∃z,z=W'.setCell ⟨gI,v,none⟩ (.int .i64 a):=⟨_,rfl⟩
  rw[<- CU];rw[<- CU]at sq;clear CU hW c9 f9;obtain⟨k0,k1,k2,-,-,-⟩:=(sq.out).mb.box.cells;obtain⟨e0,za,e2,f0,f1,f2⟩:=(sq.out).rb.box.cells;have cw:=zh (sq.out).ret;go_wp2;refine bodyPost_ret (v:=.agg #[.slice D0 N5.ends.length d0,.slice (some ⟨gI,0,none⟩) N5.ids.length d1,.slice D2 N5.aaa.length d2]) (by simp[results,Tryz.results117,go_sem, *]) rfl ?_;obtain⟨r1,r2,r3⟩:=cw.out
  exact⟨_,_,_,_,_,rfl,r1,⟨by show N5.ends.length<=_;rw[Hq.out.1];exact fI.out.ends,fun k es he=>fI.out.row k es (by rw[<- Hq.out.1];exact he),by show(List.set _ _ _).length<=_;rw[List.length_set];have:=Hq.out.2.2;omega,by show N5.aaa.length<=_;rw[Hq.out.2.1];exact fI.out.aaa⟩,r2.mono (by omega),r3⟩
 ·obtain⟨Kl,S5,nC⟩:=gM.out.aas (W':=w4.alloc (.cells #[.int .i64 5] 3)) (v':=.slice (some ⟨w4.heap.size,0,none⟩) 1 1) (ids':=[5]) ⟨l8 [5] rfl rfl (by simp) gM.out.sz,rfl⟩ ((aL.refl _ _).alloc _) (fun j hj=>.inr (by simp[Value.ownBlock]at hj;omega))
  obtain⟨k0,k1,k2,f0,f1,f2⟩:=Kl.cells;have iW:=zh nC;clear Kl nC;go_upto_region 29 with(fail);obtain⟨w7,nz⟩:∃z,z=(w4.alloc (.cells #[.int .i64 5] 3)).setCell ⟨pb,1,none⟩ (.slice (some ⟨w4.heap.size,0,none⟩) 1 1):=⟨_,rfl⟩
  rw[<- nz];rw[<- nz]at iW;clear nz k0 k1 k2 f0 f1 f2;obtain⟨k0,k1,k2,-,-,-⟩:=(iW.out).mb.box.cells;obtain⟨e0,za,e2,f0,f1,f2⟩:=(iW.out).rb.box.cells;have cw:=zh (iW.out).ret;go_wp2;refine bodyPost_ret (v:=.agg #[.slice (some ⟨g,0,none⟩) n.ends.length e1,.slice (some ⟨w4.heap.size,0,none⟩) 1 1,.slice (some ⟨gN,0,none⟩) n.aaa.length eN]) (by simp[results,Tryz.results117,go_sem, *]) rfl ?_;obtain⟨r1,r2,r3⟩:=cw.out;exact⟨_,_,_,_,_,rfl,r1,⟨fI.out.ends,fI.out.row,by simp,fI.out.aaa⟩,r2.mono (by omega),r3⟩
 ·go_upto_region 23 with(fail)
  go_loopw [131] (fun _ wr=>∃(ve vn:Value) (N:am) (S:List Nat),Br cb pb A L c (P+4+2*N.ends.length) w wr ve (.slice EI n.ids.length eI) vn N S/\N.ends.length<=41/\N.aaa.length=N.ends.length/\N.ids=n.ids/\Bd N) (fun _ wr=>42-kt (wr.cell? ⟨pb,0,none⟩))
  case atStart=>exact⟨_,_,n,_,gM.out.up (by omega),by omega,vw.out,rfl,fI.out⟩
  case round=>
   obtain⟨ve,vn,N,S,hb,jG,Mm,hid,ML⟩:=hrel;obtain⟨wo,rfl⟩:∃z,z=wr:=⟨_,rfl⟩
   obtain⟨Q0,q0,rfl,-,-,-⟩:=id hb.mb.own.read.1;obtain⟨Q2,q2,rfl,-,-,-⟩:=id hb.mb.own.read.2.2;have qv:=zh hb;have F7:=zh ML;have RT:=zh hid;have NI:=zh Mm;clear hb ML hid Mm;go_upto_region 23 with(fail);refine ar (fun W=>W.cell? ⟨pb,0,none⟩=some (.slice Q0 N.ends.length q0)) 7 [false,false,false,false,true,true,true] (by kernel_rfl) (by kernel_rfl) (show(World.drew wo).cell? ⟨pb,0,none⟩=some (.slice Q0 N.ends.length q0)from qv.out.mb.box.cells.1) ?_
   simp only[df,b8,zT]
   iterate 4 (apply aU rfl;(intro W hW;(have k0:=hW);go_simp;with_reducible rfl);simp only[zA])
   obtain⟨W,bB⟩:∃W,W=World.drew wo:=⟨_,rfl⟩
   rw[<- bB];have hW:=(show(World.drew wo).cell? ⟨pb,0,none⟩=some (.slice Q0 N.ends.length q0)from qv.out.mb.box.cells.1);rw[<- bB]at hW;have dX:=zh bB;clear bB;refine Or.inl ⟨rfl,?_⟩
   go_simp
   (with_reducible refine(dG cb A L c (P+4+2*N.ends.length) 2 W (by rw[dX.out];exact qv.out.mb.cur.since (ah (ab _))) (by omega) (by omega)).mono ?_)
   rintro e W' ⟨b,rfl,hb,gW,hC⟩;refine⟨_,rfl,ap hW gz _ hC,?_⟩
   replace hW:=ap hW gz _ hC
   have jA:aa wo W:=(by rw[dX.out];exact ah (ab _))
   have iW:=zh (qv.out.seen (((fR.refl cb wo).after jA).trans hC) gW);have hb2:b<2:=(by omega);have m1:IntKind.i64.wrap (40+(b:Int))=40+(b:Int):=aR _ (by omega) (by omega);clear hC gW jA hb
   (try simp only[zA])
   refine fP (v:=?_) rfl ?_ hW ?_;rotate_left;(go_simp;with_reducible rfl)
   simp only[zA]
   refine fP (v:=?_) rfl ?_ hW ?_;rotate_left;(go_simp;with_reducible rfl)
   simp only[zA];simp only[aQ];obtain⟨w7,rfl⟩:∃z,z=W':=⟨_,rfl⟩
   clear hW
   by_cases aH:N.ends.length<40+b
   ·have e0:((N.ends.length:Int)<40+(b:Int))=True:=by simp;omega
    have pH:aa w7 (w7.alloc (.cells #[.slice none 0 0] 34)):=ae _ (ab _);have JJ:=zh (iW.out.since pH);obtain⟨k0,k1,k2,f0,f1,f2⟩:=iW.out.mb.box.cells
    have Rp:Hid (N.ends.length+1<=1000000):=by show _<=_;omega
    have NJ:Hid (∀q,(Value.slice Q0 N.ends.length q0).ownBlock=some q->(iL w7 w.heap.size).heap.size<=q):=fun q hq=>by
     obtain⟨S1,S2,S3,⟨vs,Ss,h1,-⟩,-,-,-,-⟩:=id JJ.out.mb.own;have h9:=(World.ownsRow.lt h1 q hq).1;simp[iL]
     omega
    have ZC:Hid (aa (iL w7 w.heap.size) (w7.alloc (.cells #[.slice none 0 0] 34))):=aa.after (mY w7 iW.out.sz) pH;clear pH
    go_upto_region 25 with(at_builtin;refine oR (wT:=iL w7 w.heap.size) (base:=w.heap.size) (v:=.slice Q0 N.ends.length q0) (u:=.slice none 0 0) (T:=[]) (es:=[]) rfl _ _ rfl rfl JJ.out.mb.own w7.heap.size rfl (by simp) (oD _ _) (fun j hj=>by simp at hj) Rp.out ZC.out JJ.out.sz NJ.out ?_;intro v8 w8 S8 Q6 Ir L8 Cv la;obtain⟨A8,c8,Vq,-,-,-⟩:=id Ir.read.1;have ZD:v8=.slice A8 (N.ends.length+1) c8:=(by rw[Vq];simp);clear Vq;subst ZD;obtain⟨y_,j5⟩:=JJ.out.aat Ir (fun j hj=>by rcases L8 j hj with h | h | h;exact .inl h;simp at h;right;omega) Cv;clear k0 k1 k2 f0 f1 f2 Q6 L8 Cv la;obtain⟨k0,k1,k2,f0,f1,f2⟩:=y_.cells;have sq:=zh j5;clear y_ j5 Ir)
    obtain⟨w9,CU⟩:∃z,z=w8.setCell ⟨pb,0,none⟩ (.slice A8 (N.ends.length+1) c8):=⟨_,rfl⟩
    rw[<- CU];rw[<- CU]at sq;clear CU k0 k1 k2 f0 f1 f2;have pH:aa w9 (w9.alloc (.cells #[.int .i64 0] 3)):=ae _ (ab _);have IG:=zh (sq.out.since pH)
    have RU:Hid (N.aaa.length+[(0:Int)].length<=17592186044416):=by show _<=_;have:=F7.out.aaa;simp;omega
    clear pH;obtain⟨k0,k1,k2,f0,f1,f2⟩:=sq.out.mb.box.cells
    go_wp2_with (at_builtin;refine fd (base:=w.heap.size) rfl _ _ rfl rfl IG.out.mb.aaC.1.1 rfl (n_ _ _) RU.out IG.out.sz ?_;intro v' w11 T eu tl MJ;obtain⟨V,mV,cV,rfl⟩:=dF.one eu;obtain⟨rX,S6,nC⟩:=IG.out.aaG eu tl MJ;clear k0 k1 k2 f0 f1 f2 eu tl MJ;obtain⟨k0,k1,k2,f0,f1,f2⟩:=rX.cells;have MO:=zh nC;clear rX nC)
    go_roundw
    case rel=>exact⟨_,_,_,S6,MO.out.up (by simp;omega),by simp;omega,by have:=NI.out;simp;omega,RT.out,F7.out.more (by omega) (by have:=NI.out;omega)⟩
    case measure=>rw[MO.out.mb.box.cells.1,qv.out.mb.box.cells.1];simp[kt];omega
   ·have e0:((N.ends.length:Int)<40+(b:Int))=False:=by simp;omega
    have k0:=iW.out.mb.box.cells.1;obtain⟨y_,S8,j5⟩:=iW.out.aas (v':=.slice none 0 0) (ids':=[]) (gH _ _) (aL.refl _ _) (fun j hj=>by simp at hj)
    clear k0;obtain⟨k0,k1,k2,f0,f1,f2⟩:=y_.cells;have sq:=zh j5;clear y_ j5;go_upto_region 29 with(fail);obtain⟨w9,CU⟩:∃z,z=w7.setCell ⟨pb,1,none⟩ (.slice none 0 0):=⟨_,rfl⟩
    rw[<- CU];rw[<- CU]at sq;clear CU e0 k0 k1 k2 f0 f1 f2;obtain⟨k0,k1,k2,-,-,-⟩:=(sq.out).mb.box.cells;obtain⟨e0,za,e2,f0,f1,f2⟩:=(sq.out).rb.box.cells;have cw:=zh (sq.out).ret;go_wp2;refine bodyPost_ret (v:=.agg #[.slice Q0 N.ends.length q0,.slice none 0 0,.slice Q2 N.aaa.length q2]) (by simp[results,Tryz.results117,go_sem, *]) rfl ?_;obtain⟨r1,r2,r3⟩:=cw.out;exact⟨_,_,_,_,_,rfl,r1,⟨F7.out.ends,F7.out.row,by simp,F7.out.aaa⟩,r2.mono (by omega),r3⟩
 ·obtain⟨e0,za,e2,f0,f1,f2⟩:=gM.out.rb.box.cells;go_wp2;refine bodyPost_ret (v:=.agg #[.slice none 0 0,.slice none 0 0,.slice none 0 0]) (by simp[results,Tryz.results117,go_sem, *]) rfl ?_;have hpp:=cA.out;refine⟨_,_,_,⟨[],[],[]⟩,[],rfl,uX _ _,⟨by simp,fun k es he=>by simp at he,by simp,by simp⟩,(gM.out.mb.cur.aab (fun k hk=>bU w4 (pb+1) _ _ _ (by omega))).mono (by omega),?_⟩
  exact((gM.out.mb.far.setCell (p:=⟨pb+1,0,none⟩) (.inl (by show _<=pb+1;omega)) _).setCell (p:=⟨pb+1,1,none⟩) (.inl (by show _<=pb+1;omega)) _).setCell (p:=⟨pb+1,2,none⟩) (.inl (by show _<=pb+1;omega)) _
 ·have t0:((x:Int)==0)=false:=by simp;omega
  have t1:((x:Int)==1)=false:=by simp;omega
  have t2:((x:Int)==2)=false:=by simp;omega
  have t3:((x:Int)==3)=false:=by simp;omega
  have t4:((x:Int)==4)=false:=by simp;omega
  have t5:((x:Int)==5)=false:=by simp;omega
  have t6:((x:Int)==6)=false:=by simp;omega
  have t7:((x:Int)==7)=false:=by simp;omega
  have t8:((x:Int)==8)=false:=by simp;omega
  go_upto_region 29 with(fail);clear t0 t1 t2 t3 t4 t5 t6 t7 t8;obtain⟨k0,k1,k2,-,-,-⟩:=(gM.out).mb.box.cells;obtain⟨e0,za,e2,f0,f1,f2⟩:=(gM.out).rb.box.cells;have cw:=zh (gM.out).ret;go_wp2;refine bodyPost_ret (v:=.agg #[.slice (some ⟨g,0,none⟩) n.ends.length e1,.slice EI n.ids.length eI,.slice (some ⟨gN,0,none⟩) n.aaa.length eN]) (by simp[results,Tryz.results117,go_sem, *]) rfl ?_;obtain⟨r1,r2,r3⟩:=cw.out;exact⟨_,_,_,_,_,rfl,r1,fI.out,r2.mono (by omega),r3⟩
theorem Gd.aaI {R M:Nat} {n N:am} (h:Gd R M n) (he:N.ends=n.ends) (hi:N.aaa=n.aaa) (hl:N.ids.length=n.ends.length):Gd R M N:=
 ⟨by rw[he];exact h.ends,by rw[he];exact h.row,by rw[hl];exact h.ends,by rw[hi,he];exact h.aaa,fun k es hk e hm=>by
  obtain⟨a,b,fs,h1,h2,h3⟩:=h.wf k es (by rw[<- he];exact hk) e hm
  exact⟨a,b,fs,h1,by rw[he];exact h2,h3⟩⟩
theorem CV (cb:Nat) (A:Option Addr) (L c P most M:Nat) (w:World) (hc:cW w cb A L c P) (hP:P<=3900000000000000000) (zv:1<=most) (qn:most<=M) (hM:M<=38):
  Calls Tryz.prog 70 #[.pointer (some ⟨cb,0,none⟩),.int .i64 most] w (tO cb w.heap.size A L c (P+210000000000000000) w Bd):=by
 have jw:=hc.lt;obtain⟨B,rT⟩:∃z,z=w.heap.size+1:=⟨_,rfl⟩
 obtain⟨w0,au⟩:∃z,z=w.alloc (.cells #[.slice none 0 0,.slice none 0 0,.slice none 0 0] 27):=⟨_,rfl⟩
 have aX:aa w w0:=by rw[au];exact ae _ (ab _)
 have eS:w0.heap.size=B:=by rw[au,rT];simp
 have j1:aT w0 w.heap.size (.slice none 0 0) (.slice none 0 0) (.slice none 0 0):=by
  rw[au];show(w.heap.push _)[w.heap.size]?=_
  rw[Array.getElem?_push_size]
 have mI:=zh j1;have mJ:=zh aX;have bM:=zh au;have fI:=zh rT;have pV:=zh eS;have y5:=zh (hc.since aX);clear j1 aX au hc rT eS
 go_enter Tryz.func70,Tryz.ntmps70
 go_upto_region 1 with(fail);rw[<- bM.out];go_wp2_with fail;refine(L_ cb A L c P most M w0 y5.out (by omega) zv qn hM).mono ?_;rintro e w1 ⟨NX,NY,N1,N0,S0,rfl,ho,⟨MP,rU⟩,l4,kw⟩;have wK:Gd 100 40 N0:=MP.mono (Nat.le_refl _) (by omega);obtain⟨A1,c1,rfl,-,tb,-⟩:=id ho.read.1;obtain⟨AI,cI,rfl,-,-,-⟩:=id ho.read.2.1;obtain⟨AN,cN,rfl,-,-,-⟩:=id ho.read.2.2;obtain⟨m,jG⟩:∃m,N0.ends.length=m:=⟨_,rfl⟩
 obtain⟨w2,eY⟩:∃z,z=w1.alloc (.cells #[.slice A1 N0.ends.length c1,.slice AI N0.ids.length cI,.slice AN N0.aaa.length cN] 27):=⟨_,rfl⟩
 obtain⟨pb,dy⟩:∃z,z=w1.heap.size:=⟨_,rfl⟩
 have iK:aa w1 w2:=by rw[eY];exact ae _ (ab _)
 have iU:B<=w1.heap.size:=by rw[<- pV.out];exact kw.size
 have nO:cb<B:=by have:=fI.out;omega
 have pC:Mb cb B pb A L c (P+200000000000000000) w0 w2 (.slice A1 N0.ends.length c1) (.slice AI N0.ids.length cI) (.slice AN N0.aaa.length cN) N0 S0:=
  ⟨(ho.aab iK.below).mono (by rw[pV.out];exact Nat.le_refl _),by rw[eY,dy];exact aS.new _ _ _ _ _,fun hj=>by have:=(ho.range _ hj).2;omega,l4.since iK,(kw.mono (by rw[pV.out];exact Nat.le_refl _)).trans (CB.of (iK.below.mono iU))⟩
 have rg:=zh pC
 have cA:Hid (B<=pb/\pb<w2.heap.size):=⟨by rw[dy];exact iU,by rw[eY,dy];simp⟩
 have MQ:Hid (B<=w2.heap.size):=Nat.le_trans iU iK.below.size;have tk:=zh eY;have rV:=zh dy;have zI:=zh (And.intro wK rU);have ei:=zh jG;have dx:=pC.box.cells.1;clear pC eY dy wK MP rU ho l4 kw iK iU dx;rw[jG]at rg tk;clear jG;go_upto_region 2 with(fail);rw[ei.out,<- tk.out,<- rV.out];go_wp2_with fail;refine(re cb A L c _ 3 w2 rg.out.cur (by omega) (by omega)).mono ?_;rintro e w3 ⟨bb,rfl,xi,kW⟩;have wQ:=zh (rg.out.seen kW xi nO cA.out.1 MQ.out);have EG:Hid (B<=w3.heap.size):=Nat.le_trans MQ.out kW.size;clear xi kW;cases bb
 ·clear rg;have Vr:=zI;obtain⟨k0,k1,k2,-,-,-⟩:=wQ.out.box.cells;have CW:=wQ.out.cur;have IH:=zh CW;have RX:=zh wQ.out.own.read;clear CW;go_wp2_with fail;refine(um cb A L c (P+200000000000000000+2) 100 40 _ _ _ N0 w3 IH.out (by omega) RX.out Vr.out.1 Vr.out.2 (by omega) (by omega)).mono ?_;rintro e w9 ⟨UW,UX,UY,N9,S9,rfl,fg,CX,CY,qw⟩;obtain⟨X0,x0,rfl,-,-,-⟩:=id fg.read.1;obtain⟨X1,x1,rfl,-,-,-⟩:=id fg.read.2.1;obtain⟨X2,x2,rfl,-,-,-⟩:=id fg.read.2.2;have bK:=wQ.out.far.trans (qw.mono EG.out)
  have fH:=bK.aap mI.out (by have:=fI.out;omega) (by omega)
  obtain⟨e0,e1,e2,f0,f1,f2⟩:=fH.box.cells;have bh:=fg.mono EG.out;rw[fI.out]at bh bK;have cw:=zh (eV mJ.out bh CY bK jw);have II:=zh CX;clear bK fH bh CX CY qw fg k0 k1 k2;go_wp2;refine bodyPost_ret (v:=.agg #[.slice X0 N9.ends.length x0,.slice X1 N9.ids.length x1,.slice X2 N9.aaa.length x2]) (by simp[results,Tryz.results70,go_sem, *]) rfl ?_;obtain⟨r1,r2,r3⟩:=cw.out;exact⟨_,_,_,N9,S9,rfl,r1,II.out,r2.mono (by omega),r3⟩
 ·obtain⟨k0,k1,k2,-,-,-⟩:=wQ.out.box.cells;have Nx:=zh wQ.out.own.read;go_wp2_with fail;refine(rj cb A L c _ 100 40 _ _ _ N0 w3 wQ.out.cur (by omega) Nx.out zI.out.1 (by omega) (by omega)).mono ?_;rintro e w4 ⟨ve4,vi4,vn4,N4,S4,rfl,lh,⟨RY,OP,Vs⟩,pG,np⟩;obtain⟨D0,d0,rfl,-,-,-⟩:=id lh.read.1;obtain⟨D1,d1,rfl,-,-,-⟩:=id lh.read.2.1;obtain⟨D2,d2,rfl,-,-,-⟩:=id lh.read.2.2;have Vt:=wQ.out.assign np pG lh wQ.out.box.lt nO cA.out.1 EG.out
  obtain⟨f0,f1,f2,g0,g1,g2⟩:=(wQ.out.box.blk (np.block pb wQ.out.box.lt (by have:=cA.out;omega))).cells
  have gh:=zh Vt
  have IJ:Hid (B<=(aag w4 pb (.slice D0 N4.ends.length d0) (.slice D1 N4.ids.length d1) (.slice D2 N4.aaa.length d2)).heap.size):=by show _<=_;rw[ep];exact Nat.le_trans EG.out np.size
  have Vu:Hid (Gd 100 40 N4/\0<N4.ends.length):=⟨zI.out.1.aaI RY OP Vs,by rw[RY];exact zI.out.2⟩
  clear Vt lh RY OP Vs pG np k0 k1 k2;go_upto_region 4 with(fail);obtain⟨w5,nM⟩:∃z,z=aag w4 pb (.slice D0 N4.ends.length d0) (.slice D1 N4.ids.length d1) (.slice D2 N4.aaa.length d2):=⟨_,rfl⟩
  have MR:((w4.setCell ⟨pb,0,none⟩ (.slice D0 N4.ends.length d0)).setCell ⟨pb,1,none⟩ (.slice D1 N4.ids.length d1)).setCell ⟨pb,2,none⟩ (.slice D2 N4.aaa.length d2)=w5:=nM.symm;rw[MR];rw[<- nM]at gh IJ;clear nM MR f0 f1 f2 g0 g1 g2;obtain⟨k0,k1,k2,-,-,-⟩:=gh.out.box.cells;have CW:=gh.out.cur;have IH:=zh CW;have RX:=zh gh.out.own.read;clear CW;go_wp2_with fail;refine(um cb A L c (P+200000000000000000+2+1000) 100 40 _ _ _ N4 w5 IH.out (by omega) RX.out Vu.out.1 Vu.out.2 (by omega) (by omega)).mono ?_;rintro e w9 ⟨UW,UX,UY,N9,S9,rfl,fg,CX,CY,qw⟩;obtain⟨X0,x0,rfl,-,-,-⟩:=id fg.read.1;obtain⟨X1,x1,rfl,-,-,-⟩:=id fg.read.2.1;obtain⟨X2,x2,rfl,-,-,-⟩:=id fg.read.2.2;have bK:=gh.out.far.trans (qw.mono IJ.out)
  have fH:=bK.aap mI.out (by have:=fI.out;omega) (by omega)
  obtain⟨e0,e1,e2,f0,f1,f2⟩:=fH.box.cells;have bh:=fg.mono IJ.out;rw[fI.out]at bh bK;have cw:=zh (eV mJ.out bh CY bK jw);have II:=zh CX;clear bK fH bh CX CY qw fg k0 k1 k2;go_wp2;refine bodyPost_ret (v:=.agg #[.slice X0 N9.ends.length x0,.slice X1 N9.ids.length x1,.slice X2 N9.aaa.length x2]) (by simp[results,Tryz.results70,go_sem, *]) rfl ?_;obtain⟨r1,r2,r3⟩:=cw.out;exact⟨_,_,_,N9,S9,rfl,r1,II.out,r2.mono (by omega),r3⟩
section
variable {P : Program} {ops : Array Oper}
end
structure Ob (bo:Nat) (wa W:World) (ve vi vn:Value) (N:am) (S:List Nat):Prop where
 own:ao W wa.heap.size ve vi vn N S
 box:aS W bo ve vi vn
 nb:bo∉S
 bb:wa.heap.size<=bo
 since:aa wa W
section
variable {bo : Nat} {wa W : World} {ve vi vn : Value} {N : am} {S : List Nat}
end
structure Vv (n:am) (t:Nat) (N:am):Prop where
 ends:N.ends.length=2*n.ends.length
 aaa:N.aaa.length=2*n.ends.length
 ids:N.ids.length=0
 row:∀(j:Nat) (fs:List (Int×Int)),N.ends[j]?=some fs->fs.length<=100/\(j<t->fs.length=(bg n (j/2)).length)
def EH (w:World) (v:Value) (L:Nat):Prop:=∃A c,v=.slice A L c/\L<=c/\c<=maxLen/\∀k,k<L->∃b off x,A=some ⟨b,off,none⟩/\w.cell? ⟨b,off+k,none⟩=some (.int .u8 x)/\0<=x/\x<256
theorem EH.aab {w w':World} {v:Value} {L:Nat} (h:EH w v L) (hb:Below w.heap.size w w'):EH w' v L:=by
 obtain⟨A,c,h1,h2,h3,h4⟩:=h;refine⟨A,c,h1,h2,h3,fun k hk=>?_⟩
 obtain⟨b,off,x,e1,e2,e3,e4⟩:=h4 k hk;exact⟨b,off,x,e1,bc hb e2,e3,e4⟩
theorem EJ {w w2:World} {A:Option Addr} {L c cb:Nat} {t:TypeId} (hb:∀k,k<L->∃b off x,A=some ⟨b,off,none⟩/\w.cell? ⟨b,off+k,none⟩=some (.int .u8 x)/\0<=x/\x<256) (hs:aa w w2) (jw:w.heap.size<=cb) (hc:w2.heap[cb]?=some (.cells #[.slice A L c,.int .i64 0,.int .u64 0] t)) (hL:L<=1048576) (RZ:L<=c):cW w2 cb A L c 0:=by
 refine⟨0,0,⟨⟨_,hc⟩,fun k hk=>?_,hL,RZ,by omega⟩,Nat.le_refl _⟩
 obtain⟨b,off,x,e1,e2,e3,e4⟩:=hb k hk
 have:=xT e2
 exact⟨b,off,x,e1,by simp at this;omega,bc hs e2,e3,e4⟩
def F8 (w:World) (e:Ending) (w':World):Prop:=
 ∃ve vi vn N S,e=.returned (.agg #[ve,vi,vn])/\ao w' w.heap.size ve vi vn N S/\Bd N/\Below w.heap.size w w'
theorem l_ (v:Value) (L:Nat) (w:World) (h:EH w v L) (hL:L<=1048576):
  Calls Tryz.prog 29 #[v] w (F8 w):=by
 obtain⟨A,c,rfl,RZ,vK,Vw⟩:=h;obtain⟨w0,au⟩:∃z,z=w.alloc (.cells #[.slice none 0 0,.slice none 0 0,.slice none 0 0] 27):=⟨_,rfl⟩
 have aX:aa w w0:=by rw[au];exact ae _ (ab _)
 have eS:w0.heap.size=w.heap.size+1:=by rw[au];simp
 have j1:aT w0 w.heap.size (.slice none 0 0) (.slice none 0 0) (.slice none 0 0):=by
  rw[au];show(w.heap.push _)[w.heap.size]?=_
  rw[Array.getElem?_push_size]
 obtain⟨w1,pS⟩:∃z,z=w0.alloc (.cells #[.slice A L c,.int .i64 0,.int .u64 0] 81):=⟨_,rfl⟩
 obtain⟨cb,IK⟩:∃z,z=w0.heap.size:=⟨_,rfl⟩
 have bu:aa w0 w1:=by rw[pS];exact ae _ (ab _)
 have Vx:w1.heap[cb]?=some (.cells #[.slice A L c,.int .i64 0,.int .u64 0] 81):=by
  rw[pS,IK];show(w0.heap.push _)[w0.heap.size]?=_
  rw[Array.getElem?_push_size]
 have Ig:=zh (EJ Vw (aX.after bu) (by omega) Vx hL RZ);have mI:=zh (j1.since bu);have iu:=zh (aX.after bu);have bM:=zh au;have GC:=zh pS;have ZE:Hid (cb=w0.heap.size):=IK
 have Hz:Hid (w0.heap.size=w.heap.size+1/\w1.heap.size=w.heap.size+1+1/\cb=w.heap.size+1):=⟨eS,by rw[pS];simp;omega,by omega⟩
 clear Vw aX j1 bu Vx au pS IK eS
 go_enter Tryz.func29,Tryz.ntmps29
 go_upto_region 1 with(fail);rw[<- bM.out];go_upto_region 2 with(fail);rw[<- GC.out,<- ZE.out];go_wp2_with fail;refine(CV cb A L c 0 9 38 w1 Ig.out (by omega) (by omega) (by omega) (by omega)).mono ?_;rintro e w3 ⟨ve,vi,vn,N,S,rfl,ho,EK,xi,kW⟩;obtain⟨D0,d0,rfl,-,tb,-⟩:=id ho.read.1;obtain⟨D1,d1,rfl,-,-,-⟩:=id ho.read.2.1;obtain⟨D2,d2,rfl,-,-,-⟩:=id ho.read.2.2;have IL:CB cb w1.heap.size w1 w3:=kW
 have fH:aT w3 w.heap.size (.slice none 0 0) (.slice none 0 0) (.slice none 0 0):=(IL.block _ (by have:=Hz.out;omega) (by have:=Hz.out;omega)).trans mI.out
 obtain⟨e0,e1,e2,f0,f1,f2⟩:=fH.box.cells;have Ho:=zh ho;have R0:=zh EK;have R1:=zh IL;clear ho EK xi kW IL fH;go_wp2;refine bodyPost_ret (v:=.agg #[.slice D0 N.ends.length d0,.slice D1 N.ids.length d1,.slice D2 N.aaa.length d2]) (by simp[results,Tryz.results29,go_sem, *]) rfl ?_;have hz:=Hz.out
 refine⟨_,_,_,N,S,rfl,(Ho.out.aac (fun j hj=>bU _ _ _ _ _ (by have:=(Ho.out.range j hj).1;omega))).mono (by omega),R0.out,?_⟩
 have h1:Below w.heap.size w w3:=Below.trans iu.out.below ((R1.out.mono (by omega)).below (by omega));exact((h1.setCell (by simp) _).setCell (by simp) _).setCell (by simp) _
theorem js (v:Value) (L:Nat) (w:World) (h:EH w v L) (hL:L<=1048576):
  Calls Tryz.prog 6 #[v] w (F8 w):=by
 obtain⟨w0,au⟩:∃z,z=w.alloc (.cells #[.slice none 0 0,.slice none 0 0,.slice none 0 0] 27):=⟨_,rfl⟩
 have aX:aa w w0:=by rw[au];exact ae _ (ab _)
 have eS:w0.heap.size=w.heap.size+1:=by rw[au];simp
 have j1:aT w0 w.heap.size (.slice none 0 0) (.slice none 0 0) (.slice none 0 0):=by
  rw[au];show(w.heap.push _)[w.heap.size]?=_
  rw[Array.getElem?_push_size]
 have H0:=zh (h.aab aX.below);have mJ:=zh aX;have pV:=zh eS;have mI:=zh j1;have bM:=zh au;obtain⟨A,c,rfl,-,-,-⟩:=h;clear aX eS j1 au
 go_enter Tryz.func6,Tryz.ntmps6
 go_upto_region 1 with(fail);rw[<- bM.out];go_wp2_with fail;refine(l_ _ L w0 H0.out hL).mono ?_;rintro e w3 ⟨ve,vi,vn,N,S,rfl,ho,EK,aZ⟩;obtain⟨D0,d0,rfl,-,tb,-⟩:=id ho.read.1;obtain⟨D1,d1,rfl,-,-,-⟩:=id ho.read.2.1;obtain⟨D2,d2,rfl,-,-,-⟩:=id ho.read.2.2
 have fH:aT w3 w.heap.size (.slice none 0 0) (.slice none 0 0) (.slice none 0 0):=(aZ.block _ (by have:=pV.out;omega)).trans mI.out
 obtain⟨e0,e1,e2,f0,f1,f2⟩:=fH.box.cells;have Ho:=zh ho;have R0:=zh EK;have uB:=zh aZ;clear ho EK aZ fH;go_wp2;refine bodyPost_ret (v:=.agg #[.slice D0 N.ends.length d0,.slice D1 N.ids.length d1,.slice D2 N.aaa.length d2]) (by simp[results,Tryz.results6,go_sem, *]) rfl ?_;have hz:=pV.out
 refine⟨_,_,_,N,S,rfl,(Ho.out.aac (fun j hj=>bU _ _ _ _ _ (by have:=(Ho.out.range j hj).1;omega))).mono (by omega),R0.out,?_⟩
 have h1:Below w.heap.size w w3:=Below.trans mJ.out.below (uB.out.mono (by omega));exact((h1.setCell (by simp) _).setCell (by simp) _).setCell (by simp) _
section
variable {P : Program} {ops : Array Oper}
end
section
variable {P : Program} {ops : Array Oper}
end
structure C2 (cb rb:Nat) (W W':World):Prop where
 os:W'.os=W.os
 tape:W'.tape=W.tape
 output:W'.output=W.output
 size:W.heap.size<=W'.heap.size
 block:∀k,k<W.heap.size->k≠cb->k≠rb->W'.heap[k]?=W.heap[k]?
structure ZF (cb rb:Nat) (A:Option Addr) (L c P0 K nc:Nat) (wS:World) (T:World->Prop) (q:Nat) (W:World):Prop where
 cur:q<=nc->cW W cb A L c (P0+K*q)
 rel:C2 cb rb wS W
 box:q<=nc->aT W rb (.slice none 0 0) (.slice none 0 0) (.slice none 0 0)
 done:nc<q->T W
section
variable {cb rb : Nat} {A : Option Addr} {L c P0 K nc : Nat} {wS W W' : World} {T : World → Prop} {q : Nat}
end
structure ZG (n:am) (acc:List Int->Nat->Bool) (most:Int) (l:List Int) (v:Nat):Prop where
 st:St n.ends.length most l v
 Bq:∀a,a<n.ends.length->a<v->(∀e∈n.ends.getD a [],e.1.toNat<v)->acc l a=true
def IM (n:am) (s:Int) (ls:List Int):Prop:=∀v,v<n.ends.length->xL n s ls v=true
structure R2 (n:am) (I D:Nat->Int):Prop where
 same:∀v w:Nat,v<n.ends.length->(w:Int)∈rK n (v:Int)->I w=I v
 zero:∀v,v<n.ends.length->D v=0->n.ids.getD v 0=I v
 aaQ:∀v,v<n.ends.length->0<D v->∃w:Nat,(w:Int)∈rK n (v:Int)/\D w=D v-1
 bv:∀v,v<n.ends.length->0<=D v
structure Vy (n:am) (ls:List Int) (v:Nat):Prop where
 ids:n.ids.length≠0
 same:∀w:Nat,(w:Int)∈rK n (v:Int)->Jl (ls.getD w 0)=Jl (ls.getD v 0)
 sum:KV (ls.getD v 0)=Bb ls (ls.getD v 0) (n.ends.getD v []) (n.ends.getD v []).length%2
 aaL:(Dg (ls.getD v 0)=0/\KU (ls.getD v 0)=9/\n.ids.getD v 0=Jl (ls.getD v 0)/\KV (ls.getD v 0)=0)\/(0<Dg (ls.getD v 0)/\∃(i:Nat),i<(n.ends.getD v []).length/\(i:Int)=KU (ls.getD v 0)/\Dg (zy ls ((n.ends.getD v []).getD i (0,0)))=Dg (ls.getD v 0)-1)
def j_ (n:am) (v i:Nat):Nat:=((n.ends.getD v []).getD i (0,0)).1.toNat
structure Vz (n:am) (ls:List Int) (v:Nat):Prop where
 zero:ls.getD v 0=0->∀i,i<(n.ends.getD v []).length->ls.getD (j_ n v i) 0=1
 one:ls.getD v 0≠0->∃i,i<(n.ends.getD v []).length/\ls.getD (j_ n v i) 0=ls.getD v 0-1/\∀j,j<(n.ends.getD v []).length->j≠i->ls.getD (j_ n v j) 0=ls.getD v 0+1
def IN (n:am) (ls:List Int) (v i:Nat):Prop:=i<(n.ends.getD v []).length/\ls.getD (j_ n v i) 0=ls.getD v 0-1
inductive R3 (n:am) (ls:List Int) (w:Nat):Nat->Prop
 | self:R3 n ls w w
 | up {x i:Nat}:R3 n ls w (j_ n x i)->x<n.ends.length->IN n ls x i->R3 n ls w x
end Go.Proofs.YtgjggeapebbcbaaGreat
