/- Parts of the proof: walks of functions and plain laws. -/
import Derived.Test.YtnioemnkfojmkaaGreatP0
import Derived.Test.YtnioemnkfojmkaaGreatP16
set_option maxRecDepth 100000
set_option maxHeartbeats 16000000
namespace Go.Proofs.YtnioemnkfojmkaaGreat
open Go Go.RowKit
theorem vq (cb:Nat) (A:Option Addr) (L c P:Nat) (B g q m:Nat) (xs:List Int) (w:World) (hm:xs.length=m) (h:bB w cb A L c P) (hP:P<=4611686018427387000) (ho:Own w B (.slice (some ⟨g,0,none⟩) m q) xs) (hB:cb<B) (hx:1<=xs.length) (sq:xs.length<=1048576):
  Calls Tryz.prog 46 #[.pointer (some ⟨cb,0,none⟩),.slice (some ⟨g,0,none⟩) m q] w fun e w'=>∃x,e=.returned (.int .i64 x)/\x∈xs/\bB w' cb A L c (P+2)/\CB cb w.heap.size w w':=by
 subst hm;exact kz cb A L c P B g q xs w h hP ho hB hx sq
section
variable {cb pb : Nat} {A : Option Addr} {L c P : Nat} {w W : World} {ve vi vn : Value} {N : aw} {S : List Nat}
theorem Br.adp {g m d k:Nat} (h:Br cb pb A L c P w W ve vi (.slice (some ⟨g,0,none⟩) m d) N S) (x:Int) (hk:k<N.ac1.length):
  W.frozen? ⟨g,k,none⟩=false/\(∃z,W.cell? ⟨g,k,none⟩=some z)/\Br cb pb A L c P w (W.setCell ⟨g,k,none⟩ (.int .i64 x)) ve vi (.slice (some ⟨g,0,none⟩) m d) { N with ac1:=N.ac1.set k x } S:=by
 obtain⟨h1,h2,h3⟩:=h.mb.own.adp x hk;exact⟨h2,h.mb.own.adu hk,h.own h3 (fun j hj=>.inl hj) ((aR.refl _ _).setCell (.inl h1) _)⟩
theorem Br.adK {g m d k:Nat} (h:Br cb pb A L c P w W ve (.slice (some ⟨g,0,none⟩) m d) vn N S) (x:Int) (hk:k<N.ids.length):
  W.frozen? ⟨g,k,none⟩=false/\(∃z,W.cell? ⟨g,k,none⟩=some z)/\∃S',Br cb pb A L c P w (W.setCell ⟨g,k,none⟩ (.int .i64 x)) ve (.slice (some ⟨g,0,none⟩) m d) vn { N with ids:=N.ids.set k x } S':=by
 obtain⟨⟨ho,-⟩,hs⟩:=h.mb.adj;obtain⟨y,hy⟩:=ay N.ids k hk;have ey:aR (Value.slice (some ⟨g,0,none⟩) m d).ownBlock.toList W (W.setCell ⟨g,k,none⟩ (.int .i64 x)):=(aR.refl _ _).setCell (.inl (by simp[Value.ownBlock])) _;obtain⟨S',h1,h2⟩:=h.mb.own.adm (vi':=.slice (some ⟨g,0,none⟩) m d) ⟨ho.set (k:=k) x,rfl⟩ ey (fun j hj=>.inl hj)
 exact⟨ho.free k,⟨_,ho.cell hy⟩,S',h.own h1 h2 (ey.mono hs)⟩
theorem Br.ada {g m d k:Nat} {xs:List (Int×Int)} (h:Br cb pb A L c P w W (.slice (some ⟨g,0,none⟩) m d) vi vn N S) (hx:N.ends[k]?=some xs) (h0:0<xs.length):
  ∃gr cr,W.cell? ⟨g,k,none⟩=some (.slice (some ⟨gr,0,none⟩) xs.length cr)/\W.frozen? ⟨gr,0,none⟩=false/\W.frozen? ⟨gr,1,none⟩=false/\(∃z,W.cell? ⟨gr,0,none⟩=some z)/\(∃z,W.cell? ⟨gr,1,none⟩=some z) /\
   (∀x:Int,∃y,Br cb pb A L c P w (W.setCell ⟨gr,0,none⟩ (.int .i64 x)) (.slice (some ⟨g,0,none⟩) m d) vi vn { N with ends:=N.ends.set k (xs.set 0 y) } S) /\
   (∀x:Int,∃y,Br cb pb A L c P w (W.setCell ⟨gr,1,none⟩ (.int .i64 x)) (.slice (some ⟨g,0,none⟩) m d) vi vn { N with ends:=N.ends.set k (xs.set 0 y) } S):=by
 obtain⟨gr,cr,h1,h2,f0,f1,c0,c1,a,b⟩:=h.mb.own.setPort hx h0;refine⟨gr,cr,h1,f0,f1,c0,c1,fun x=>?_,fun x=>?_⟩
 ·obtain⟨y,hy⟩:=a x;exact⟨y,h.own hy (fun j hj=>.inl hj) ((aR.refl _ _).setCell (.inl h2) _)⟩
 ·obtain⟨y,hy⟩:=b x;exact⟨y,h.own hy (fun j hj=>.inl hj) ((aR.refl _ _).setCell (.inl h2) _)⟩
end
theorem Bd.more {n:aw} (h:Bd n) (h1:n.ends.length<=60) (h2:n.ac1.length<=60):Bd { n with ends:=n.ends++[[]],ac1:=n.ac1++[0] }:=by
 refine⟨by simp;omega,fun k es he=>?_,h.ids,by simp;omega⟩
 have he:(n.ends++[[]])[k]?=some es:=he;rw[List.getElem?_append]at he
 split at he
 ·exact h.row k es he
 ·have:es=[]:=by
   have h3:=List.mem_of_getElem? he;simpa using h3
  rw[this];simp
def lH:Option Value->Nat
 | some (.slice _ n _)=>n
 | _=>0
theorem sf {w:World} {B:Nat} (xs:List Int) {v:Value} {o:Obj} (ho:o=.cells (xs.map (Value.int .i64)).toArray 3) (hv:v=.slice (some ⟨w.heap.size,0,none⟩) xs.length xs.length) (hl:xs.length<=1000) (hB:B<=w.heap.size):Own (w.alloc o) B v xs:=by
 subst ho hv
 exact(dv w xs (by unfold maxLen;omega)).mono hB
theorem Dj (cb:Nat) (A:Option Addr) (L c P R M:Nat) (ve vi vn:Value) (n:aw) (w:World) (hc:bB w cb A L c P) (hP:P<=4400000000000000000) (h:aU w ve vi vn n) (hg:Gd R M n) (xU:0<n.ends.length) (hR:R<=100) (hM:M<=40):
  Calls Tryz.prog 170 #[.pointer (some ⟨cb,0,none⟩),.agg #[ve,vi,vn]] w (yt cb w.heap.size A L c (P+3000) w Bd):=by
 have acx:n.ends.length<=40:=Nat.le_trans hg.ends hM;have kp:Hid (n.ac1.length=n.ends.length):=hg.ac1
 have GF:∀(k:Nat) (es:List (Int×Int)),n.ends[k]?=some es->es.length<=100:=fun k es he=>by have:=hg.row k es he;omega
 have Pc:=zh GF;have HM:=zh hM;have fL:=zh (hg.bd (by omega) (by omega));have Yu:M<=100:=by omega
 clear GF hM;have ia:=hc.lt;obtain⟨A1,c1,rfl,-,vN,-⟩:=id h.1;obtain⟨AI,cI,rfl,-,-,-⟩:=id h.2.1;obtain⟨AN,cN,rfl,-,-,-⟩:=id h.2.2;obtain⟨pb,da⟩:∃z,z=w.heap.size:=⟨_,rfl⟩
 obtain⟨w0,ar⟩:∃z,z=w.alloc (.cells #[.slice A1 n.ends.length c1,.slice AI n.ids.length cI,.slice AN n.ac1.length cN] 30):=⟨_,rfl⟩
 obtain⟨wa,iY⟩:∃z,z=w0.alloc (.cells #[.slice none 0 0,.slice none 0 0,.slice none 0 0] 30):=⟨_,rfl⟩
 have bu:aa w w0:=by rw[ar];exact ae _ (ad _)
 have dw:aa w0 wa:=by rw[iY];exact ae _ (ad _)
 have ll:w0.heap.size=w.heap.size+1:=by rw[ar];simp
 have bG:aZ w0 pb (.slice A1 n.ends.length c1) (.slice AI n.ids.length cI) (.slice AN n.ac1.length cN):=by rw[ar,da];exact aZ.new _ _ _ _ _
 have OY:=bG.below dw (by rw[ll,da];omega)
 have fG:bA wa (pb+1) (.slice none 0 0) (.slice none 0 0) (.slice none 0 0):=by
  rw[iY,da,<- ll];show(w0.heap.push _)[w0.heap.size]?=_
  rw[Array.getElem?_push_size]
 have uJ:aa w wa:=bu.after dw
 have cB:Hid (cb<pb/\pb+2=wa.heap.size/\pb=w.heap.size):=⟨by omega,by rw[da,iY];simp;omega,da⟩
 have Lk:=zh uJ;have eY:=zh fG;have XY:=zh OY;have XZ:=zh (hc.since uJ);have HNa:=zh (h.ac2 uJ.below);have Hg:=zh hg;have cS:=zh ar;have Al:=zh iY;have dj:=OY.cells
 have SY:n.ends.length<=100:=by have:=hg.ends;omega
 clear hc h bu dw bG fG uJ OY hg ar iY da ll
 go_enter Tryz.func170,Tryz.ntmps170
 go_upto_region 1 with(fail);rw[<- cS.out,<- Al.out,<- cB.out.2.2];obtain⟨x0,x1,x2,f0,f1,f2⟩:=dj;go_wp2_with fail
 refine(kF _ _ _ n wa HNa.out (by omega) (fun k es he=>by have:=Hg.out.row k es he;omega) (Hg.out.small hR Yu).sz).mono ?_
 rintro e w1 ⟨ue,ui,un,S0,rfl,ho,aX⟩;have dw:aa wa w1:=aX;obtain⟨E1,e1,rfl,-,-,-⟩:=id ho.read.1;obtain⟨EI,eI,rfl,-,-,-⟩:=id ho.read.2.1;obtain⟨EN,eN,rfl,-,-,-⟩:=id ho.read.2.2;clear x0 x1 x2 f0 f1 f2;have Fj:=XY.out.below dw XY.out.lt;obtain⟨x0,x1,x2,f0,f1,f2⟩:=Fj.cells
 have kV:pb∉S0:=fun hj=>by have h1:=(ho.range _ hj).1;have h2:=cB.out;omega
 have jh:Mb cb w.heap.size pb A L c P w (ac5 w1 pb (.slice E1 n.ends.length e1) (.slice EI n.ids.length eI) (.slice EN n.ac1.length eN)) (.slice E1 n.ends.length e1) (.slice EI n.ids.length eI) (.slice EN n.ac1.length eN) n S0:=by
  have h0:=cB.out
  refine⟨(ho.ac4 (fun k hk=>co _ _ _ _ _ (fun e=>kV (by have e':k=pb:=e;exact e' ▸ hk)))).mono (by omega),Fj.ac5 _ _ _,kV,((XZ.out.since dw).ac2 (fun k hk=>co _ _ _ _ _ (by omega))),?_⟩
  exact((((CB.of (Lk.out.after dw).below).mono (Nat.le_refl _)).setCell (p:=⟨pb,0,none⟩) (.inl (by show _<=pb;omega)) _).setCell (p:=⟨pb,1,none⟩) (.inl (by show _<=pb;omega)) _).setCell (p:=⟨pb,2,none⟩) (.inl (by show _<=pb;omega)) _
 have lY:bA (ac5 w1 pb (.slice E1 n.ends.length e1) (.slice EI n.ids.length eI) (.slice EN n.ac1.length eN)) (pb+1) (.slice none 0 0) (.slice none 0 0) (.slice none 0 0):=(co _ _ _ _ _ (by omega)).trans (eY.out.since dw)
 have dP:wa.heap.size<=(ac5 w1 pb (.slice E1 n.ends.length e1) (.slice EI n.ids.length eI) (.slice EN n.ac1.length eN)).heap.size:=by rw[dV];exact dw.below.size
 have jN:pb+1∉S0:=fun hj=>by have h1:=(ho.range _ hj).1;have h2:=cB.out;omega
 have Fk:=zh jh;have CE:=zh lY;have uZ:=zh dP;have Ly:=zh jN;have Hfz:=zh (And.intro f0 (And.intro f1 f2));clear jh lY dP jN ho aX dw Fj kV;go_upto_region 2 with(fail);obtain⟨w2,eH⟩:∃z,z=((w1.setCell ⟨pb,0,none⟩ (.slice E1 n.ends.length e1)).setCell ⟨pb,1,none⟩ (.slice EI n.ids.length eI)).setCell ⟨pb,2,none⟩ (.slice EN n.ac1.length eN):=⟨_,rfl⟩
 rw[<- eH]
 have gK:Hid (Mb cb w.heap.size pb A L c P w w2 (.slice E1 n.ends.length e1) (.slice EI n.ids.length eI) (.slice EN n.ac1.length eN) n S0):=by show Mb _ _ _ _ _ _ _ _ _ _ _ _ _ _;rw[eH];exact Fk.out
 have DD:Hid (bA w2 (pb+1) (.slice none 0 0) (.slice none 0 0) (.slice none 0 0)):=by show bA _ _ _ _ _;rw[eH];exact CE.out
 have l3:Hid (wa.heap.size<=w2.heap.size):=by show _<=_;rw[eH];exact uZ.out
 have kP:Hid (Br cb pb A L c P w w2 (.slice E1 n.ends.length e1) (.slice EI n.ids.length eI) (.slice EN n.ac1.length eN) n S0):=by show Br _ _ _ _ _ _ _ _ _ _ _ _ _;exact⟨gK.out,DD.out,Ly.out,cB.out.2.2,cB.out.1⟩
 clear eH Fk CE uZ Hfz x0 x1 x2 f0 f1 f2 gK DD l3;obtain⟨g,rfl,-⟩:=kP.out.mb.own.head xU
 obtain⟨gN,rfl⟩:=kP.out.mb.own.adt (by have:=kp.out;omega)
 have iM:pb≠cb:=by have:=cB.out;omega
 obtain⟨k0,-,-,-,-,-⟩:=kP.out.mb.box.cells;go_wp2_with fail;refine(db cb A L c P (n.ends.length:Int) w2 kP.out.mb.cur (by omega) (by omega)).mono ?_;rintro e w3 ⟨v,rfl,hv,xy,mB⟩;have lW:v<n.ends.length:=by omega
 have hvi:v<n.ac1.length:=by have:=kp.out;omega
 have pP:=zh (kP.out.seen mB xy);clear xy mB hv k0;go_wp2_with fail;refine(db cb A L c (P+2) 40 w3 pP.out.mb.cur (by omega) (by omega)).mono ?_;rintro e w4 ⟨x,rfl,hx,jd,j_⟩;have iu:=zh (pP.out.seen j_ jd);clear jd j_ hx;obtain⟨xv,gb⟩:∃x,x=be n v:=⟨_,rfl⟩
 have qS:=bK lW;rw[<- gb]at qS;have Hxv:=zh qS;have mw:=zh (Pc.out _ _ qS)
 have Gp:g≠cb:=fun e=>by
  obtain⟨gr,Tr,-,-,-,-,-,uI,-⟩:=iu.out.mb.own.ade qS;have h1:=(iu.out.mb.own.range _ uI).1;have h2:=cB.out;omega
 clear qS gb;rcases(show x=0\/x=1\/x=2\/x=3\/x=4\/x=5\/x=6\/x=7\/x=8\/9<=x by omega)with rfl | rfl | rfl | rfl | rfl | rfl | rfl | rfl | rfl | h9
 ·go_upto_region 5 with(fail);refine av (fun W=>W.cell? ⟨pb,2,none⟩=some (.slice (some ⟨gN,0,none⟩) n.ac1.length eN)) 6 [false,false,false,false,true,true] (by kernel_rfl) (by kernel_rfl) (show(World.drew w4).cell? ⟨pb,2,none⟩=some (.slice (some ⟨gN,0,none⟩) n.ac1.length eN)from iu.out.mb.box.cells.2.2.1) ?_
  simp only[ek,dD,zT]
  iterate 4 (apply bh rfl;(intro W hW;(have k0:=hW);go_simp;with_reducible rfl);simp only[zA])
  obtain⟨W,cA⟩:∃W,W=World.drew w4:=⟨_,rfl⟩
  rw[<- cA];have hW:=(show(World.drew w4).cell? ⟨pb,2,none⟩=some (.slice (some ⟨gN,0,none⟩) n.ac1.length eN)from iu.out.mb.box.cells.2.2.1);rw[<- cA]at hW;have eU:=zh cA;clear cA
  refine bC (v:=?_) (ob:=?_) rfl ?_ ?_ ?_;rotate_left 2
  (go_simp;first | with_reducible rfl | (refine⟨?_,?_⟩ <;> with_reducible rfl))
  exact bc (ao _ _) hW;intro w5 kx oA
  replace hW:=oA
  clear oA
  have AD:aa w4 w5:=(by rw[kx,eU.out];exact ae _ (ag (ad _)))
  have Am:=zh ((iu.out).since AD)
  have uA:Hid (Own w5 w4.heap.size (.slice (some ⟨w4.heap.size,0,none⟩) 3 3) [-1,9,10]):=(by show Own _ _ _ _;rw[kx,eU.out];exact sf [-1,9,10] rfl rfl (by simp) (Nat.le_refl _))
  have JC:cb<w4.heap.size:=(iu.out).mb.cur.lt
  rw[show W.heap.size=w4.heap.size from by rw[eU.out];rfl]
  clear kx AD
  (try simp only[zA])
  refine Or.inl ⟨rfl,?_⟩
  go_simp
  (with_reducible refine(vq cb A L c (P+4) w4.heap.size w4.heap.size 3 3 [-1,9,10] _ rfl Am.out.mb.cur (by omega) uA.out JC (by simp) (by simp)).mono ?_)
  rintro e W' ⟨a,rfl,ha,df,hC⟩;refine⟨_,rfl,aq hW iM _ hC,?_⟩
  replace hW:=aq hW iM _ hC
  have vo:=zh (Am.out.seen hC df);clear df hC ha
  (try simp only[zA])
  simp only[bj]
  obtain⟨f9,⟨z9,c9⟩,sA⟩:=vo.out.adp (k:=v) a (by have:=kp.out;omega)
  have mx:=zh sA;clear sA;go_upto_region 29 with(fail);obtain⟨w7,pB⟩:∃z,z=W'.setCell ⟨gN,v,none⟩ (.int .i64 a):=⟨_,rfl⟩
  rw[<- pB];rw[<- pB]at mx;clear pB hW c9 f9;obtain⟨k0,k1,k2,-,-,-⟩:=(mx.out).mb.box.cells;obtain⟨e0,Fh,e2,f0,f1,f2⟩:=(mx.out).rb.box.cells;have cK:=zh (mx.out).ret;go_wp2;refine bodyPost_ret (v:=.agg #[.slice (some ⟨g,0,none⟩) n.ends.length e1,.slice EI n.ids.length eI,.slice (some ⟨gN,0,none⟩) n.ac1.length eN]) (by simp[results,Tryz.results170,go_sem, *]) rfl ?_;obtain⟨r1,r2,r3⟩:=cK.out
  exact⟨_,_,_,_,_,rfl,r1,⟨fL.out.ends,fL.out.row,fL.out.ids,by show(List.set _ _ _).length<=_;rw[List.length_set];exact fL.out.ac1⟩,r2.mono (by omega),r3⟩
 ·have ik:aa w4 (w4.alloc (.cells #[.int .i64 0] 3)):=ae _ (ad _);have Am:=zh (iu.out.since ik);clear ik;obtain⟨k0,k1,k2,f0,f1,f2⟩:=iu.out.mb.box.cells
  go_upto_region 29 with(at_builtin;refine jE (base:=w.heap.size) rfl _ _ rfl rfl Am.out.mb.adq.1.1 rfl (sa _ _) (by have:=fL.out.ac1;simp;omega) Am.out.sz ?_;intro v' w6 T cJ wP QY;obtain⟨V,mV,cV,rfl⟩:=er.one cJ;obtain⟨th,S6,sA⟩:=Am.out.adx cJ wP QY;clear k0 k1 k2 f0 f1 f2 cJ wP QY;obtain⟨k0,k1,k2,f0,f1,f2⟩:=th.cells;have mx:=zh sA;clear th sA)
  obtain⟨w7,pB⟩:∃z,z=w6.setCell ⟨pb,2,none⟩ (.slice V mV cV):=⟨_,rfl⟩
  rw[<- pB];rw[<- pB]at mx;clear pB k0 k1 k2 f0 f1 f2;obtain⟨k0,k1,k2,-,-,-⟩:=(mx.out).mb.box.cells;obtain⟨e0,Fh,e2,f0,f1,f2⟩:=(mx.out).rb.box.cells;have cK:=zh (mx.out).ret;go_wp2;refine bodyPost_ret (v:=.agg #[.slice (some ⟨g,0,none⟩) n.ends.length e1,.slice EI n.ids.length eI,.slice V mV cV]) (by simp[results,Tryz.results170,go_sem, *]) rfl ?_;obtain⟨r1,r2,r3⟩:=cK.out
  exact⟨_,_,_,_,_,rfl,r1,⟨fL.out.ends,fL.out.row,fL.out.ids,by have:=kp.out;simp;omega⟩,r2.mono (by omega),r3⟩
 ·have hx:=Hxv.out
  by_cases qz:0<xv.length
  ·obtain⟨gr,cr,pZ,-,-,-,-,-,-⟩:=iu.out.ada hx qz
   have e0:((0:Int)<(xv.length:Int))=True:=by simp;omega
   obtain⟨k0,-,-,-,-,-⟩:=iu.out.mb.box.cells;go_upto_region 10 with(fail);refine av (fun W=>W.cell? ⟨pb,0,none⟩=some (.slice (some ⟨g,0,none⟩) n.ends.length e1)/\W.cell? ⟨g,v,none⟩=some (.slice (some ⟨gr,0,none⟩) xv.length cr)) 8 [false,false,false,false,false,false,true,true] (by kernel_rfl) (by kernel_rfl) (show(World.drew w4).cell? ⟨pb,0,none⟩=some (.slice (some ⟨g,0,none⟩) n.ends.length e1)/\(World.drew w4).cell? ⟨g,v,none⟩=some (.slice (some ⟨gr,0,none⟩) xv.length cr)from⟨iu.out.mb.box.cells.1,pZ⟩) ?_
   simp only[ek,dD,zT]
   iterate 6 (apply bh rfl;(intro W hW;(obtain⟨k0,k1⟩:=hW);go_simp;with_reducible rfl);simp only[zA])
   obtain⟨W,cA⟩:∃W,W=World.drew w4:=⟨_,rfl⟩
   rw[<- cA];have hW:=(show(World.drew w4).cell? ⟨pb,0,none⟩=some (.slice (some ⟨g,0,none⟩) n.ends.length e1)/\(World.drew w4).cell? ⟨g,v,none⟩=some (.slice (some ⟨gr,0,none⟩) xv.length cr)from⟨iu.out.mb.box.cells.1,pZ⟩);rw[<- cA]at hW;have eU:=zh cA;clear cA
   refine bC (v:=?_) (ob:=?_) rfl ?_ ?_ ?_;rotate_left 2
   (go_simp;first | with_reducible rfl | (refine⟨?_,?_⟩ <;> with_reducible rfl))
   exact⟨bc (ao _ _) hW.1,bc (ao _ _) hW.2⟩;intro w5 kx oA
   replace hW:=oA
   clear oA
   have AD:aa w4 w5:=(by rw[kx,eU.out];exact ae _ (ag (ad _)))
   have Am:=zh ((iu.out).since AD)
   have uA:Hid (Own w5 w4.heap.size (.slice (some ⟨w4.heap.size,0,none⟩) 4 4) [-1,0,1,6]):=(by show Own _ _ _ _;rw[kx,eU.out];exact sf [-1,0,1,6] rfl rfl (by simp) (Nat.le_refl _))
   have JC:cb<w4.heap.size:=(iu.out).mb.cur.lt
   rw[show W.heap.size=w4.heap.size from by rw[eU.out];rfl]
   clear kx AD
   (try simp only[zA])
   refine Or.inl ⟨rfl,?_⟩
   go_simp
   (with_reducible refine(vq cb A L c (P+4) w4.heap.size w4.heap.size 4 4 [-1,0,1,6] _ rfl Am.out.mb.cur (by omega) uA.out JC (by simp) (by simp)).mono ?_)
   rintro e W' ⟨a,rfl,ha,df,hC⟩;refine⟨_,rfl,And.intro (aq hW.1 iM _ hC) (aq hW.2 Gp _ hC),?_⟩
   replace hW:=And.intro (aq hW.1 iM _ hC) (aq hW.2 Gp _ hC)
   have vo:=zh (Am.out.seen hC df);clear df hC ha
   (try simp only[zA])
   simp only[bj];obtain⟨VH,VI,h1,f0,f1,⟨z0,c0⟩,⟨z1,c1⟩,hA,hB⟩:=vo.out.ada hx qz;rw[hW.2]at h1
   injection h1 with h1
   injection h1 with h1 h2 h3
   injection h1 with h1
   injection h1 with h1
   subst h1;obtain⟨y,sA⟩:=hB a;have mx:=zh sA;clear hA hB sA k0;go_upto_region 29 with(fail);obtain⟨w7,pB⟩:∃z,z=W'.setCell ⟨gr,1,none⟩ (.int .i64 a):=⟨_,rfl⟩
   rw[<- pB];rw[<- pB]at mx;clear pB hW c0 c1 f0 f1 e0 pZ;obtain⟨k0,k1,k2,-,-,-⟩:=(mx.out).mb.box.cells;obtain⟨e0,Fh,e2,f0,f1,f2⟩:=(mx.out).rb.box.cells;have cK:=zh (mx.out).ret;go_wp2;refine bodyPost_ret (v:=.agg #[.slice (some ⟨g,0,none⟩) n.ends.length e1,.slice EI n.ids.length eI,.slice (some ⟨gN,0,none⟩) n.ac1.length eN]) (by simp[results,Tryz.results170,go_sem, *]) rfl ?_;obtain⟨r1,r2,r3⟩:=cK.out
   exact⟨_,_,_,_,_,rfl,r1,fL.out.setRow v (by rw[List.length_set];have:=mw.out;omega),r2.mono (by omega),r3⟩
  ·have Yv:xv.length=0:=by omega
   obtain⟨u0,T0,DG,-,GG,-,-,-⟩:=iu.out.mb.own.ac_ hx;obtain⟨AU,cU,rfl,-,-,-⟩:=id GG.read;have gb:xv=[]:=List.eq_nil_of_length_eq_zero Yv;rw[Yv]at DG;clear GG;obtain⟨k0,-,-,-,-,-⟩:=iu.out.mb.box.cells;go_upto_region 29 with(fail);clear k0 DG;obtain⟨k0,k1,k2,-,-,-⟩:=(iu.out).mb.box.cells;obtain⟨e0,Fh,e2,f0,f1,f2⟩:=(iu.out).rb.box.cells;have cK:=zh (iu.out).ret;go_wp2;refine bodyPost_ret (v:=.agg #[.slice (some ⟨g,0,none⟩) n.ends.length e1,.slice EI n.ids.length eI,.slice (some ⟨gN,0,none⟩) n.ac1.length eN]) (by simp[results,Tryz.results170,go_sem, *]) rfl ?_;obtain⟨r1,r2,r3⟩:=cK.out;exact⟨_,_,_,_,_,rfl,r1,fL.out,r2.mono (by omega),r3⟩
 ·have hx:=Hxv.out
  by_cases qz:0<xv.length
  ·obtain⟨gr,cr,pZ,-,-,-,-,-,-⟩:=iu.out.ada hx qz
   have e0:((0:Int)<(xv.length:Int))=True:=by simp;omega
   obtain⟨k0,-,-,-,-,-⟩:=iu.out.mb.box.cells;go_upto_region 13 with(fail);refine av (fun W=>W.cell? ⟨pb,0,none⟩=some (.slice (some ⟨g,0,none⟩) n.ends.length e1)/\W.cell? ⟨g,v,none⟩=some (.slice (some ⟨gr,0,none⟩) xv.length cr)) 11 [false,false,false,false,false,false,false,false,false,true,true] (by kernel_rfl) (by kernel_rfl) (show(World.drew w4).cell? ⟨pb,0,none⟩=some (.slice (some ⟨g,0,none⟩) n.ends.length e1)/\(World.drew w4).cell? ⟨g,v,none⟩=some (.slice (some ⟨gr,0,none⟩) xv.length cr)from⟨iu.out.mb.box.cells.1,pZ⟩) ?_
   simp only[ek,dD,zT]
   iterate 9 (apply bh rfl;(intro W hW;(obtain⟨k0,k1⟩:=hW);go_simp;with_reducible rfl);simp only[zA])
   obtain⟨W,cA⟩:∃W,W=World.drew w4:=⟨_,rfl⟩
   rw[<- cA];have hW:=(show(World.drew w4).cell? ⟨pb,0,none⟩=some (.slice (some ⟨g,0,none⟩) n.ends.length e1)/\(World.drew w4).cell? ⟨g,v,none⟩=some (.slice (some ⟨gr,0,none⟩) xv.length cr)from⟨iu.out.mb.box.cells.1,pZ⟩);rw[<- cA]at hW;have eU:=zh cA;clear cA
   refine bC (v:=?_) (ob:=?_) rfl ?_ ?_ ?_;rotate_left 2
   (go_simp;first | with_reducible rfl | (refine⟨?_,?_⟩ <;> with_reducible rfl))
   exact⟨bc (ao _ _) hW.1,bc (ao _ _) hW.2⟩;intro w5 kx oA
   replace hW:=oA
   clear oA
   have AD:aa w4 w5:=(by rw[kx,eU.out];exact ae _ (ag (ad _)))
   have Am:=zh ((iu.out).since AD)
   have uA:Hid (Own w5 w4.heap.size (.slice (some ⟨w4.heap.size,0,none⟩) 3 3) [-1,0,(n.ends.length:Int)]):=(by show Own _ _ _ _;rw[kx,eU.out];exact sf [-1,0,(n.ends.length:Int)] rfl rfl (by simp) (Nat.le_refl _))
   have JC:cb<w4.heap.size:=(iu.out).mb.cur.lt
   rw[show W.heap.size=w4.heap.size from by rw[eU.out];rfl]
   clear kx AD
   (try simp only[zA])
   refine Or.inl ⟨rfl,?_⟩
   go_simp
   (with_reducible refine(vq cb A L c (P+4) w4.heap.size w4.heap.size 3 3 [-1,0,(n.ends.length:Int)] _ rfl Am.out.mb.cur (by omega) uA.out JC (by simp) (by simp)).mono ?_)
   rintro e W' ⟨a,rfl,ha,df,hC⟩;refine⟨_,rfl,And.intro (aq hW.1 iM _ hC) (aq hW.2 Gp _ hC),?_⟩
   replace hW:=And.intro (aq hW.1 iM _ hC) (aq hW.2 Gp _ hC)
   have vo:=zh (Am.out.seen hC df);clear df hC ha
   (try simp only[zA])
   simp only[bj];obtain⟨VH,VI,h1,f0,f1,⟨z0,c0⟩,⟨z1,c1⟩,hA,hB⟩:=vo.out.ada hx qz;rw[hW.2]at h1
   injection h1 with h1
   injection h1 with h1 h2 h3
   injection h1 with h1
   injection h1 with h1
   subst h1;obtain⟨y,sA⟩:=hA a;have mx:=zh sA;clear hA hB sA k0;go_upto_region 29 with(fail);obtain⟨w7,pB⟩:∃z,z=W'.setCell ⟨gr,0,none⟩ (.int .i64 a):=⟨_,rfl⟩
   rw[<- pB];rw[<- pB]at mx;clear pB hW c0 c1 f0 f1 e0 pZ;obtain⟨k0,k1,k2,-,-,-⟩:=(mx.out).mb.box.cells;obtain⟨e0,Fh,e2,f0,f1,f2⟩:=(mx.out).rb.box.cells;have cK:=zh (mx.out).ret;go_wp2;refine bodyPost_ret (v:=.agg #[.slice (some ⟨g,0,none⟩) n.ends.length e1,.slice EI n.ids.length eI,.slice (some ⟨gN,0,none⟩) n.ac1.length eN]) (by simp[results,Tryz.results170,go_sem, *]) rfl ?_;obtain⟨r1,r2,r3⟩:=cK.out
   exact⟨_,_,_,_,_,rfl,r1,fL.out.setRow v (by rw[List.length_set];have:=mw.out;omega),r2.mono (by omega),r3⟩
  ·have Yv:xv.length=0:=by omega
   obtain⟨u0,T0,DG,-,GG,-,-,-⟩:=iu.out.mb.own.ac_ hx;obtain⟨AU,cU,rfl,-,-,-⟩:=id GG.read;have gb:xv=[]:=List.eq_nil_of_length_eq_zero Yv;rw[Yv]at DG;clear GG;obtain⟨k0,-,-,-,-,-⟩:=iu.out.mb.box.cells;go_upto_region 29 with(fail);clear k0 DG;obtain⟨k0,k1,k2,-,-,-⟩:=(iu.out).mb.box.cells;obtain⟨e0,Fh,e2,f0,f1,f2⟩:=(iu.out).rb.box.cells;have cK:=zh (iu.out).ret;go_wp2;refine bodyPost_ret (v:=.agg #[.slice (some ⟨g,0,none⟩) n.ends.length e1,.slice EI n.ids.length eI,.slice (some ⟨gN,0,none⟩) n.ac1.length eN]) (by simp[results,Tryz.results170,go_sem, *]) rfl ?_;obtain⟨r1,r2,r3⟩:=cK.out;exact⟨_,_,_,_,_,rfl,r1,fL.out,r2.mono (by omega),r3⟩
 ·go_upto_region 15 with(fail)
  go_loopw [83] (fun _ wr=>∃(N:aw) (S:List Nat) (xs:List (Int×Int)),Br cb pb A L c (P+4+2*xs.length) w wr (.slice (some ⟨g,0,none⟩) n.ends.length e1) (.slice EI n.ids.length eI) (.slice (some ⟨gN,0,none⟩) n.ac1.length eN) N S/\N.ends.length=n.ends.length/\N.ends[v]?=some xs/\Bd N/\xs.length<=200) (fun _ wr=>8-lH (wr.cell? ⟨g,v,none⟩))
  case atStart=>exact⟨n,_,xv,iu.out.up (by omega),rfl,Hxv.out,fL.out,by have:=mw.out;omega⟩
  case round=>
   obtain⟨N,S,xs,hb,kA,j6,Yw,sx⟩:=hrel;obtain⟨wo,rfl⟩:∃z,z=wr:=⟨_,rfl⟩
   obtain⟨u0,T0,DG,-,GG,-,-,-⟩:=hb.mb.own.ac_ j6;obtain⟨AU,cU,rfl,-,-,-⟩:=id GG.read;have yA:=zh hb;have Bq:=zh j6;have QZ:=zh Yw;have f8:=zh kA;have Hu0:=zh DG;clear hb j6 Yw kA GG DG;go_upto_region 15 with(fail);refine av (fun W=>W.cell? ⟨pb,0,none⟩=some (.slice (some ⟨g,0,none⟩) n.ends.length e1)/\W.cell? ⟨g,v,none⟩=some (.slice AU xs.length cU)) 10 [false,false,false,false,false,false,false,true,true,true] (by kernel_rfl) (by kernel_rfl) (show(World.drew wo).cell? ⟨pb,0,none⟩=some (.slice (some ⟨g,0,none⟩) n.ends.length e1)/\(World.drew wo).cell? ⟨g,v,none⟩=some (.slice AU xs.length cU)from⟨yA.out.mb.box.cells.1,Hu0.out⟩) ?_
   simp only[ek,dD,zT]
   iterate 7 (apply bh rfl;(intro W hW;(obtain⟨k0,k1⟩:=hW);go_simp;with_reducible rfl);simp only[zA])
   obtain⟨W,cA⟩:∃W,W=World.drew wo:=⟨_,rfl⟩
   rw[<- cA];have hW:=(show(World.drew wo).cell? ⟨pb,0,none⟩=some (.slice (some ⟨g,0,none⟩) n.ends.length e1)/\(World.drew wo).cell? ⟨g,v,none⟩=some (.slice AU xs.length cU)from⟨yA.out.mb.box.cells.1,Hu0.out⟩);rw[<- cA]at hW;have eU:=zh cA;clear cA;refine Or.inl ⟨rfl,?_⟩
   go_simp
   (with_reducible refine(db cb A L c (P+4+2*xs.length) 2 W (by rw[eU.out];exact yA.out.mb.cur.since (ag (ad _))) (by omega) (by omega)).mono ?_)
   rintro e W' ⟨b,rfl,hb,df,hC⟩;refine⟨_,rfl,And.intro (aq hW.1 iM _ hC) (aq hW.2 Gp _ hC),?_⟩
   replace hW:=And.intro (aq hW.1 iM _ hC) (aq hW.2 Gp _ hC)
   have kh:aa wo W:=(by rw[eU.out];exact ag (ad _))
   have mx:=zh (yA.out.seen (((aY.refl cb wo).after kh).trans hC) df);have bJ:b<2:=(by omega);have m1:IntKind.i64.wrap (6+(b:Int))=6+(b:Int):=aE _ (by omega) (by omega);clear hC df kh hb
   (try simp only[zA])
   refine gF (v:=?_) rfl ?_ hW ?_;rotate_left;(go_simp;with_reducible rfl)
   simp only[zA]
   refine gF (v:=?_) rfl ?_ hW ?_;rotate_left;(go_simp;with_reducible rfl)
   simp only[zA];simp only[bj];obtain⟨w7,rfl⟩:∃z,z=W':=⟨_,rfl⟩
   have Nl:=zh hW;clear hW
   by_cases aH:xs.length<6+b
   ·have e0:((xs.length:Int)<6+(b:Int))=True:=by simp;omega
    obtain⟨u2,T2,zM,Bu,pY,na,rV,nJ,i9⟩:=mx.out.mb.own.ade Bq.out;have Pd:=zM;rw[Nl.out.2]at Pd;have Pd:=Option.some.inj Pd;subst Pd;have sT:=zh pY;have nd:=zh i9;have Ax:=zh rV;have Ay:=zh nJ;have Az:=zh na;have OI:=zh Bu;have AA:Hid (pb∉T2):=fun h=>mx.out.mb.nb (na _ h)
    have Qx:Hid (xs.length+1<=1000000):=by show _<=_;omega
    have tb:Hid (w.heap.size<=w7.heap.size):=mx.out.sz;clear zM Bu pY na rV nJ i9;go_upto_region 16 with(fail);refine av (fun W=>W.cell? ⟨pb,0,none⟩=some (.slice (some ⟨g,0,none⟩) n.ends.length e1)/\W.cell? ⟨g,v,none⟩=some (.slice AU xs.length cU)) 18 [false,false,false,false,false,false,false,false,false,false,false,false,false,false,false,false,true,true] (by kernel_rfl) (by kernel_rfl) (show(World.drew w7).cell? ⟨pb,0,none⟩=some (.slice (some ⟨g,0,none⟩) n.ends.length e1)/\(World.drew w7).cell? ⟨g,v,none⟩=some (.slice AU xs.length cU)from⟨Nl.out.1,Nl.out.2⟩) ?_
    simp only[ek,dD,zT]
    iterate 16 (apply bh rfl;(intro W hW;(obtain⟨k0,k1⟩:=hW);go_simp;with_reducible rfl);simp only[zA])
    obtain⟨W,cA⟩:∃W,W=World.drew w7:=⟨_,rfl⟩
    rw[<- cA];have hW:=(show(World.drew w7).cell? ⟨pb,0,none⟩=some (.slice (some ⟨g,0,none⟩) n.ends.length e1)/\(World.drew w7).cell? ⟨g,v,none⟩=some (.slice AU xs.length cU)from⟨Nl.out.1,Nl.out.2⟩);rw[<- cA]at hW;have eU:=zh cA;clear cA
    refine bC (v:=?_) (ob:=?_) rfl ?_ ?_ ?_;rotate_left 2
    (go_simp;first | with_reducible rfl | (refine⟨?_,?_⟩ <;> with_reducible rfl))
    exact⟨bc (ao _ _) hW.1,bc (ao _ _) hW.2⟩;intro w8 gJ iX
    replace hW:=iX
    clear iX
    have zr:Hid (w8=(World.drew w7).alloc (.cells #[.int .i64 (v:Int),.int .i64 (xs.length:Int)] 104)):=by show _=_;rw[gJ,eU.out]
    have kD:Hid (aa w7 w8):=by show aa _ _;rw[zr.out];exact ae _ (ag (ad _))
    have uy:Hid (eq w8 w.heap.size (.slice AU xs.length cU) xs T2):=fY.ac2 sT.out kD.out.below
    have vd:Hid (w8.cell? ⟨w7.heap.size,0,none⟩=some (.int .i64 (v:Int))/\w8.cell? ⟨w7.heap.size,1,none⟩=some (.int .i64 (xs.length:Int))):=by show _/\_;rw[zr.out];exact ld (World.drew w7) _ _ _
    rw[show W.heap.size=w7.heap.size from by rw[eU.out];rfl]
    clear gJ eU
    (try simp only[zA])
    refine c_ (fun Q' HQ=>?_)
    (refine jV (base:=w.heap.size) (v:=.slice AU xs.length cU) (xs:=xs) rfl _ _ rfl rfl uy.out w7.heap.size ((v:Int),(xs.length:Int)) rfl vd.out.1 vd.out.2 Qx.out (Nat.le_trans tb.out kD.out.below.size) ?_);intro g9 E6 w9 fV ql u_;have fI:=aR.ac9 ql;have tc:(Value.slice AU xs.length cU).ownBlock.toList=T2:=(sT.out.2).symm;have jN:(⟨pb,0,none⟩:Addr).block∉(Value.slice AU xs.length cU).ownBlock.toList:=(by rw[tc];exact AA.out);have nR:(⟨g,v,none⟩:Addr).block∉(Value.slice AU xs.length cU).ownBlock.toList:=(by rw[tc];exact Ax.out);have pM:=fI.cell jN hW.1;have nP:=fI.cell nR hW.2;have If:=fI.fz nR hW.2 (bf kD.out.below Nl.out.2 OI.out);refine HQ _ _ ⟨pM,nP⟩ ?_;have qT:=zh (m_ nd.out sT.out kD.out fV ql u_ Az.out Ay.out);clear fV ql u_ jN nR fI tc hW
    (try simp only[zA])
    simp only[bj];obtain⟨S5,dP,eO,qj⟩:=qT.out;have q8:=zh (mx.out.own dP eO qj)
    have V7:(N.ends.set v (xs++[((v:Int),(xs.length:Int))]))[v]?=some (xs++[((v:Int),(xs.length:Int))]):=by rw[List.getElem?_set_self (by have:=f8.out;omega)]
    have Hro:=zh V7
    have Hcm:=zh (show lH ((w9.setCell ⟨g,v,none⟩ (.slice (some ⟨g9,0,none⟩) (xs.length+1) E6)).cell? ⟨g,v,none⟩)=xs.length+1 from by
     obtain⟨u9,T9,hu9,-,hR9,-,-,-⟩:=q8.out.mb.own.ac_ V7;obtain⟨A9,c9',rfl,-,-,-⟩:=id hR9.read;rw[hu9]
     simp[lH])
    clear dP eO qj V7 qT;go_wp2;go_roundw
    case rel=>exact⟨_,S5,_,q8.out.up (by simp;omega),by show(List.set _ _ _).length=_;rw[List.length_set];exact f8.out,Hro.out,QZ.out.setRow v (by simp;omega),by simp;omega⟩
    case measure=>rw[Hcm.out];have h7:=Hu0.out;simp only[h7,lH];omega
   ·have e0:((xs.length:Int)<6+(b:Int))=False:=by simp;omega
    go_upto_region 29 with(fail);clear e0;obtain⟨k0,k1,k2,-,-,-⟩:=(mx.out).mb.box.cells;obtain⟨e0,Fh,e2,f0,f1,f2⟩:=(mx.out).rb.box.cells;have cK:=zh (mx.out).ret;go_wp2;refine bodyPost_ret (v:=.agg #[.slice (some ⟨g,0,none⟩) n.ends.length e1,.slice EI n.ids.length eI,.slice (some ⟨gN,0,none⟩) n.ac1.length eN]) (by simp[results,Tryz.results170,go_sem, *]) rfl ?_;obtain⟨r1,r2,r3⟩:=cK.out;exact⟨_,_,_,_,_,rfl,r1,QZ.out,r2.mono (by omega),r3⟩
 ·obtain⟨k0,k1,k2,-,-,-⟩:=iu.out.mb.box.cells;go_wp2_with fail;refine(zw cb A L c (P+4) R M _ _ _ n w4 iu.out.mb.cur (by omega) iu.out.mb.own.read Hg.out hR Yu).mono ?_;rintro e w5 ⟨ve5,vi5,vn5,N5,S5,rfl,qo,⟨iT,lX,Q5⟩,km,pC⟩;obtain⟨D0,d0,rfl,-,-,-⟩:=id qo.read.1;obtain⟨D1,d1,rfl,-,-,-⟩:=id qo.read.2.1;obtain⟨D2,d2,rfl,-,-,-⟩:=id qo.read.2.2;have th:=iu.out.assign pC km qo;have dj:=iu.out.seen pC km;have h0i:0<N5.ids.length:=by omega
  have aC:=th.mb.adj.1.1
  obtain⟨gI,rfl⟩:∃gI,D1=some ⟨gI,0,none⟩:=by
   rcases aC.cases with⟨h1,h2⟩ | ⟨gq,cq,h1,-,-⟩
   ·rw[h2]at h0i;simp at h0i
   ·cases h1;exact⟨gq,rfl⟩
  clear k0 k1 k2;obtain⟨k0,k1,k2,f0,f1,f2⟩:=dj.mb.box.cells;have Yx:=zh th;have Hq:=zh (And.intro iT (And.intro lX Q5));clear th dj qo km pC aC iT lX Q5;go_upto_region 19 with(fail);obtain⟨w6,OV⟩:∃z,z=((w5.setCell ⟨pb,0,none⟩ (.slice D0 N5.ends.length d0)).setCell ⟨pb,1,none⟩ (.slice (some ⟨gI,0,none⟩) N5.ids.length d1)).setCell ⟨pb,2,none⟩ (.slice D2 N5.ac1.length d2):=⟨_,rfl⟩
  rw[<- OV]
  have vo:Hid (Br cb pb A L c (P+4+1000) w w6 (.slice D0 N5.ends.length d0) (.slice (some ⟨gI,0,none⟩) N5.ids.length d1) (.slice D2 N5.ac1.length d2) N5 S5):=by show Br _ _ _ _ _ _ _ _ _ _ _ _ _;rw[OV];exact Yx.out
  clear OV Yx k0 k1 k2 f0 f1 f2;obtain⟨z0,eu⟩:=ay N5.ids 0 h0i
  have acy:v<N5.ids.length:=by have:=Hq.out.2.2;omega
  have Yy:=vo.out.mb.adj.1.1.cell eu
  have hgi:gI≠cb:=fun e=>by
   have h1:=(World.ownsRow.lt vo.out.mb.adj.1.1 gI (by simp[Value.ownBlock])).1;have h2:=cB.out;omega
  go_upto_region 19 with(fail);refine av (fun W=>W.cell? ⟨pb,1,none⟩=some (.slice (some ⟨gI,0,none⟩) N5.ids.length d1)/\W.cell? ⟨gI,0,none⟩=some (.int .i64 z0)) 10 [false,false,false,false,false,false,false,false,true,true] (by kernel_rfl) (by kernel_rfl) (show(World.drew w6).cell? ⟨pb,1,none⟩=some (.slice (some ⟨gI,0,none⟩) N5.ids.length d1)/\(World.drew w6).cell? ⟨gI,0,none⟩=some (.int .i64 z0)from⟨vo.out.mb.box.cells.2.1,Yy⟩) ?_
  simp only[ek,dD,zT]
  iterate 8 (apply bh rfl;(intro W hW;(obtain⟨k0,k1⟩:=hW);go_simp;with_reducible rfl);simp only[zA])
  obtain⟨W,cA⟩:∃W,W=World.drew w6:=⟨_,rfl⟩
  rw[<- cA];have hW:=(show(World.drew w6).cell? ⟨pb,1,none⟩=some (.slice (some ⟨gI,0,none⟩) N5.ids.length d1)/\(World.drew w6).cell? ⟨gI,0,none⟩=some (.int .i64 z0)from⟨vo.out.mb.box.cells.2.1,Yy⟩);rw[<- cA]at hW;have eU:=zh cA;clear cA
  refine bC (v:=?_) (ob:=?_) rfl ?_ ?_ ?_;rotate_left 2
  (go_simp;first | with_reducible rfl | (refine⟨?_,?_⟩ <;> with_reducible rfl))
  exact⟨bc (ao _ _) hW.1,bc (ao _ _) hW.2⟩;intro w7 TG Yz
  replace hW:=Yz
  clear Yz
  have hs7:aa w6 w7:=(by rw[TG,eU.out];exact ae _ (ag (ad _)))
  have mx:=zh ((vo.out).since hs7)
  have Ho7:Hid (Own w7 w6.heap.size (.slice (some ⟨w6.heap.size,0,none⟩) 5 5) [0,1,999999,1000000,z0]):=(by show Own _ _ _ _;rw[TG,eU.out];exact sf [0,1,999999,1000000,z0] rfl rfl (by simp) (Nat.le_refl _))
  have JC:cb<w6.heap.size:=(vo.out).mb.cur.lt
  rw[show W.heap.size=w6.heap.size from by rw[eU.out];rfl]
  clear TG hs7
  (try simp only[zA])
  refine Or.inl ⟨rfl,?_⟩
  go_simp
  (with_reducible refine(vq cb A L c (P+4+1000) w6.heap.size w6.heap.size 5 5 [0,1,999999,1000000,z0] _ rfl mx.out.mb.cur (by omega) Ho7.out JC (by simp) (by simp)).mono ?_)
  rintro e W' ⟨a,rfl,ha,df,hC⟩;refine⟨_,rfl,And.intro (aq hW.1 iM _ hC) (aq hW.2 hgi _ hC),?_⟩
  replace hW:=And.intro (aq hW.1 iM _ hC) (aq hW.2 hgi _ hC)
  have VJ:=zh (mx.out.seen hC df);clear df hC ha
  (try simp only[zA])
  simp only[bj]
  obtain⟨f9,⟨z9,c9⟩,S9,ka⟩:=VJ.out.adK (k:=v) a (by have:=Hq.out.2.2;omega)
  have q8:=zh ka;clear ka;go_upto_region 29 with(fail);obtain⟨w9,tK⟩:∃z,z=W'.setCell ⟨gI,v,none⟩ (.int .i64 a):=⟨_,rfl⟩
  rw[<- tK];rw[<- tK]at q8;clear tK hW c9 f9;obtain⟨k0,k1,k2,-,-,-⟩:=(q8.out).mb.box.cells;obtain⟨e0,Fh,e2,f0,f1,f2⟩:=(q8.out).rb.box.cells;have cK:=zh (q8.out).ret;go_wp2;refine bodyPost_ret (v:=.agg #[.slice D0 N5.ends.length d0,.slice (some ⟨gI,0,none⟩) N5.ids.length d1,.slice D2 N5.ac1.length d2]) (by simp[results,Tryz.results170,go_sem, *]) rfl ?_;obtain⟨r1,r2,r3⟩:=cK.out
  exact⟨_,_,_,_,_,rfl,r1,⟨by show N5.ends.length<=_;rw[Hq.out.1];exact fL.out.ends,fun k es he=>fL.out.row k es (by rw[<- Hq.out.1];exact he),by show(List.set _ _ _).length<=_;rw[List.length_set];have:=Hq.out.2.2;omega,by show N5.ac1.length<=_;rw[Hq.out.2.1];exact fL.out.ac1⟩,r2.mono (by omega),r3⟩
 ·obtain⟨mP,S5,sA⟩:=iu.out.ado (W':=w4.alloc (.cells #[.int .i64 5] 3)) (v':=.slice (some ⟨w4.heap.size,0,none⟩) 1 1) (ids':=[5]) ⟨sf [5] rfl rfl (by simp) iu.out.sz,rfl⟩ ((aR.refl _ _).alloc _) (fun j hj=>.inr (by simp[Value.ownBlock]at hj;omega))
  obtain⟨k0,k1,k2,f0,f1,f2⟩:=mP.cells;have mx:=zh sA;clear mP sA;go_upto_region 29 with(fail);obtain⟨w7,pB⟩:∃z,z=(w4.alloc (.cells #[.int .i64 5] 3)).setCell ⟨pb,1,none⟩ (.slice (some ⟨w4.heap.size,0,none⟩) 1 1):=⟨_,rfl⟩
  rw[<- pB];rw[<- pB]at mx;clear pB k0 k1 k2 f0 f1 f2;obtain⟨k0,k1,k2,-,-,-⟩:=(mx.out).mb.box.cells;obtain⟨e0,Fh,e2,f0,f1,f2⟩:=(mx.out).rb.box.cells;have cK:=zh (mx.out).ret;go_wp2;refine bodyPost_ret (v:=.agg #[.slice (some ⟨g,0,none⟩) n.ends.length e1,.slice (some ⟨w4.heap.size,0,none⟩) 1 1,.slice (some ⟨gN,0,none⟩) n.ac1.length eN]) (by simp[results,Tryz.results170,go_sem, *]) rfl ?_;obtain⟨r1,r2,r3⟩:=cK.out;exact⟨_,_,_,_,_,rfl,r1,⟨fL.out.ends,fL.out.row,by simp,fL.out.ac1⟩,r2.mono (by omega),r3⟩
 ·go_upto_region 23 with(fail)
  go_loopw [131] (fun _ wr=>∃(ve vn:Value) (N:aw) (S:List Nat),Br cb pb A L c (P+4+2*N.ends.length) w wr ve (.slice EI n.ids.length eI) vn N S/\N.ends.length<=41/\N.ac1.length=N.ends.length/\N.ids=n.ids/\Bd N) (fun _ wr=>42-lH (wr.cell? ⟨pb,0,none⟩))
  case atStart=>exact⟨_,_,n,_,iu.out.up (by omega),by omega,kp.out,rfl,fL.out⟩
  case round=>
   obtain⟨ve,vn,N,S,hb,kA,X4,hid,Yw⟩:=hrel;obtain⟨wo,rfl⟩:∃z,z=wr:=⟨_,rfl⟩
   obtain⟨Q0,q0,rfl,-,-,-⟩:=id hb.mb.own.read.1;obtain⟨Q2,q2,rfl,-,-,-⟩:=id hb.mb.own.read.2.2;have yA:=zh hb;have QZ:=zh Yw;have abf:=zh hid;have HNi:=zh X4;clear hb Yw hid X4;go_upto_region 23 with(fail);refine av (fun W=>W.cell? ⟨pb,0,none⟩=some (.slice Q0 N.ends.length q0)) 7 [false,false,false,false,true,true,true] (by kernel_rfl) (by kernel_rfl) (show(World.drew wo).cell? ⟨pb,0,none⟩=some (.slice Q0 N.ends.length q0)from yA.out.mb.box.cells.1) ?_
   simp only[ek,dD,zT]
   iterate 4 (apply bh rfl;(intro W hW;(have k0:=hW);go_simp;with_reducible rfl);simp only[zA])
   obtain⟨W,cA⟩:∃W,W=World.drew wo:=⟨_,rfl⟩
   rw[<- cA];have hW:=(show(World.drew wo).cell? ⟨pb,0,none⟩=some (.slice Q0 N.ends.length q0)from yA.out.mb.box.cells.1);rw[<- cA]at hW;have eU:=zh cA;clear cA;refine Or.inl ⟨rfl,?_⟩
   go_simp
   (with_reducible refine(db cb A L c (P+4+2*N.ends.length) 2 W (by rw[eU.out];exact yA.out.mb.cur.since (ag (ad _))) (by omega) (by omega)).mono ?_)
   rintro e W' ⟨b,rfl,hb,df,hC⟩;refine⟨_,rfl,aq hW iM _ hC,?_⟩
   replace hW:=aq hW iM _ hC
   have kh:aa wo W:=(by rw[eU.out];exact ag (ad _))
   have mx:=zh (yA.out.seen (((aY.refl cb wo).after kh).trans hC) df);have bJ:b<2:=(by omega);have m1:IntKind.i64.wrap (40+(b:Int))=40+(b:Int):=aE _ (by omega) (by omega);clear hC df kh hb
   (try simp only[zA])
   refine gF (v:=?_) rfl ?_ hW ?_;rotate_left;(go_simp;with_reducible rfl)
   simp only[zA]
   refine gF (v:=?_) rfl ?_ hW ?_;rotate_left;(go_simp;with_reducible rfl)
   simp only[zA];simp only[bj];obtain⟨w7,rfl⟩:∃z,z=W':=⟨_,rfl⟩
   clear hW
   by_cases aH:N.ends.length<40+b
   ·have e0:((N.ends.length:Int)<40+(b:Int))=True:=by simp;omega
    have ik:aa w7 (w7.alloc (.cells #[.slice none 0 0] 59)):=ae _ (ad _);have VJ:=zh (mx.out.since ik);obtain⟨k0,k1,k2,f0,f1,f2⟩:=mx.out.mb.box.cells
    have Vu:Hid (N.ends.length+1<=1000000):=by show _<=_;omega
    have Sv:Hid (∀q,(Value.slice Q0 N.ends.length q0).ownBlock=some q->(jO w7 w.heap.size).heap.size<=q):=fun q hq=>by
     obtain⟨S1,S2,S3,⟨vs,Ss,h1,-⟩,-,-,-,-⟩:=id VJ.out.mb.own;have h9:=(World.ownsRow.lt h1 q hq).1;simp[jO]
     omega
    have Hwq:Hid (aa (jO w7 w.heap.size) (w7.alloc (.cells #[.slice none 0 0] 59))):=aa.after (oi w7 mx.out.sz) ik;clear ik
    go_upto_region 25 with(at_builtin;refine rG (wT:=jO w7 w.heap.size) (base:=w.heap.size) (v:=.slice Q0 N.ends.length q0) (u:=.slice none 0 0) (T:=[]) (es:=[]) rfl _ _ rfl rfl VJ.out.mb.own w7.heap.size rfl (by simp) (rq _ _) (fun j hj=>by simp at hj) Vu.out Hwq.out VJ.out.sz Sv.out ?_;intro v8 w8 S8 XO Lu QP C9 lG;obtain⟨A8,c8,YA,-,-,-⟩:=id Lu.read.1;have hq9:v8=.slice A8 (N.ends.length+1) c8:=(by rw[YA];simp);clear YA;subst hq9;obtain⟨uz,ka⟩:=VJ.out.adl Lu (fun j hj=>by rcases QP j hj with h | h | h;exact .inl h;simp at h;right;omega) C9;clear k0 k1 k2 f0 f1 f2 XO QP C9 lG;obtain⟨k0,k1,k2,f0,f1,f2⟩:=uz.cells;have q8:=zh ka;clear uz ka Lu)
    obtain⟨w9,tK⟩:∃z,z=w8.setCell ⟨pb,0,none⟩ (.slice A8 (N.ends.length+1) c8):=⟨_,rfl⟩
    rw[<- tK];rw[<- tK]at q8;clear tK k0 k1 k2 f0 f1 f2;have ik:aa w9 (w9.alloc (.cells #[.int .i64 0] 3)):=ae _ (ad _);have Dk:=zh (q8.out.since ik)
    have Pe:Hid (N.ac1.length+[(0:Int)].length<=17592186044416):=by show _<=_;have:=QZ.out.ac1;simp;omega
    clear ik;obtain⟨k0,k1,k2,f0,f1,f2⟩:=q8.out.mb.box.cells
    go_wp2_with (at_builtin;refine jE (base:=w.heap.size) rfl _ _ rfl rfl Dk.out.mb.adq.1.1 rfl (sa _ _) Pe.out Dk.out.sz ?_;intro v' TF T cJ wP QY;obtain⟨V,mV,cV,rfl⟩:=er.one cJ;obtain⟨th,S6,sA⟩:=Dk.out.adx cJ wP QY;clear k0 k1 k2 f0 f1 f2 cJ wP QY;obtain⟨k0,k1,k2,f0,f1,f2⟩:=th.cells;have IW:=zh sA;clear th sA)
    go_roundw
    case rel=>exact⟨_,_,_,S6,IW.out.up (by simp;omega),by simp;omega,by have:=HNi.out;simp;omega,abf.out,QZ.out.more (by omega) (by have:=HNi.out;omega)⟩
    case measure=>rw[IW.out.mb.box.cells.1,yA.out.mb.box.cells.1];simp[lH];omega
   ·have e0:((N.ends.length:Int)<40+(b:Int))=False:=by simp;omega
    have k0:=mx.out.mb.box.cells.1;obtain⟨uz,S8,ka⟩:=mx.out.ado (v':=.slice none 0 0) (ids':=[]) (kS _ _) (aR.refl _ _) (fun j hj=>by simp at hj)
    clear k0;obtain⟨k0,k1,k2,f0,f1,f2⟩:=uz.cells;have q8:=zh ka;clear uz ka;go_upto_region 29 with(fail);obtain⟨w9,tK⟩:∃z,z=w7.setCell ⟨pb,1,none⟩ (.slice none 0 0):=⟨_,rfl⟩
    rw[<- tK];rw[<- tK]at q8;clear tK e0 k0 k1 k2 f0 f1 f2;obtain⟨k0,k1,k2,-,-,-⟩:=(q8.out).mb.box.cells;obtain⟨e0,Fh,e2,f0,f1,f2⟩:=(q8.out).rb.box.cells;have cK:=zh (q8.out).ret;go_wp2;refine bodyPost_ret (v:=.agg #[.slice Q0 N.ends.length q0,.slice none 0 0,.slice Q2 N.ac1.length q2]) (by simp[results,Tryz.results170,go_sem, *]) rfl ?_;obtain⟨r1,r2,r3⟩:=cK.out;exact⟨_,_,_,_,_,rfl,r1,⟨QZ.out.ends,QZ.out.row,by simp,QZ.out.ac1⟩,r2.mono (by omega),r3⟩
 ·obtain⟨e0,Fh,e2,f0,f1,f2⟩:=iu.out.rb.box.cells;go_wp2;refine bodyPost_ret (v:=.agg #[.slice none 0 0,.slice none 0 0,.slice none 0 0]) (by simp[results,Tryz.results170,go_sem, *]) rfl ?_;have hpp:=cB.out;refine⟨_,_,_,⟨[],[],[]⟩,[],rfl,vF _ _,⟨by simp,fun k es he=>by simp at he,by simp,by simp⟩,(iu.out.mb.cur.ac2 (fun k hk=>co w4 (pb+1) _ _ _ (by omega))).mono (by omega),?_⟩
  exact((iu.out.mb.far.setCell (p:=⟨pb+1,0,none⟩) (.inl (by show _<=pb+1;omega)) _).setCell (p:=⟨pb+1,1,none⟩) (.inl (by show _<=pb+1;omega)) _).setCell (p:=⟨pb+1,2,none⟩) (.inl (by show _<=pb+1;omega)) _
 ·have t0:((x:Int)==0)=false:=by simp;omega
  have t1:((x:Int)==1)=false:=by simp;omega
  have t2:((x:Int)==2)=false:=by simp;omega
  have t3:((x:Int)==3)=false:=by simp;omega
  have t4:((x:Int)==4)=false:=by simp;omega
  have t5:((x:Int)==5)=false:=by simp;omega
  have t6:((x:Int)==6)=false:=by simp;omega
  have t7:((x:Int)==7)=false:=by simp;omega
  have t8:((x:Int)==8)=false:=by simp;omega
  go_upto_region 29 with(fail);clear t0 t1 t2 t3 t4 t5 t6 t7 t8;obtain⟨k0,k1,k2,-,-,-⟩:=(iu.out).mb.box.cells;obtain⟨e0,Fh,e2,f0,f1,f2⟩:=(iu.out).rb.box.cells;have cK:=zh (iu.out).ret;go_wp2;refine bodyPost_ret (v:=.agg #[.slice (some ⟨g,0,none⟩) n.ends.length e1,.slice EI n.ids.length eI,.slice (some ⟨gN,0,none⟩) n.ac1.length eN]) (by simp[results,Tryz.results170,go_sem, *]) rfl ?_;obtain⟨r1,r2,r3⟩:=cK.out;exact⟨_,_,_,_,_,rfl,r1,fL.out,r2.mono (by omega),r3⟩
theorem Gd.adG {R M:Nat} {n N:aw} (h:Gd R M n) (he:N.ends=n.ends) (hi:N.ac1=n.ac1) (hl:N.ids.length=n.ends.length):Gd R M N:=
 ⟨by rw[he];exact h.ends,by rw[he];exact h.row,by rw[hl];exact h.ends,by rw[hi,he];exact h.ac1,fun k es hk e hm=>by
  obtain⟨a,b,fs,h1,h2,h3⟩:=h.wf k es (by rw[<- he];exact hk) e hm
  exact⟨a,b,fs,h1,by rw[he];exact h2,h3⟩⟩
theorem LQ (cb:Nat) (A:Option Addr) (L c P most M:Nat) (w:World) (hc:bB w cb A L c P) (hP:P<=3900000000000000000) (pT:1<=most) (nh:most<=M) (hM:M<=38):
  Calls Tryz.prog 124 #[.pointer (some ⟨cb,0,none⟩),.int .i64 most] w (yt cb w.heap.size A L c (P+210000000000000000) w Bd):=by
 have ia:=hc.lt;obtain⟨B,te⟩:∃z,z=w.heap.size+1:=⟨_,rfl⟩
 obtain⟨w0,ar⟩:∃z,z=w.alloc (.cells #[.slice none 0 0,.slice none 0 0,.slice none 0 0] 30):=⟨_,rfl⟩
 have bu:aa w w0:=by rw[ar];exact ae _ (ad _)
 have eu:w0.heap.size=B:=by rw[ar,te];simp
 have fG:bA w0 w.heap.size (.slice none 0 0) (.slice none 0 0) (.slice none 0 0):=by
  rw[ar];show(w.heap.push _)[w.heap.size]?=_
  rw[Array.getElem?_push_size]
 have eY:=zh fG;have f6:=zh bu;have cS:=zh ar;have fL:=zh te;have gh:=zh eu;have xi:=zh (hc.since bu);clear fG bu ar hc te eu
 go_enter Tryz.func124,Tryz.ntmps124
 go_upto_region 1 with(fail);rw[<- cS.out];go_wp2_with fail;refine(Gv cb A L c P most M w0 xi.out (by omega) pT nh hM).mono ?_;rintro e w1 ⟨QD,QE,QF,N0,S0,rfl,ho,⟨YB,nK⟩,jc,ky⟩;have yu:Gd 100 40 N0:=YB.mono (Nat.le_refl _) (by omega);obtain⟨A1,c1,rfl,-,vN,-⟩:=id ho.read.1;obtain⟨AI,cI,rfl,-,-,-⟩:=id ho.read.2.1;obtain⟨AN,cN,rfl,-,-,-⟩:=id ho.read.2.2;obtain⟨m,kA⟩:∃m,N0.ends.length=m:=⟨_,rfl⟩
 obtain⟨w2,eH⟩:∃z,z=w1.alloc (.cells #[.slice A1 N0.ends.length c1,.slice AI N0.ids.length cI,.slice AN N0.ac1.length cN] 30):=⟨_,rfl⟩
 obtain⟨pb,da⟩:∃z,z=w1.heap.size:=⟨_,rfl⟩
 have ko:aa w1 w2:=by rw[eH];exact ae _ (ad _)
 have eA:B<=w1.heap.size:=by rw[<- gh.out];exact ky.size
 have kC:cb<B:=by have:=fL.out;omega
 have qm:Mb cb B pb A L c (P+200000000000000000) w0 w2 (.slice A1 N0.ends.length c1) (.slice AI N0.ids.length cI) (.slice AN N0.ac1.length cN) N0 S0:=
  ⟨(ho.ac2 ko.below).mono (by rw[gh.out];exact Nat.le_refl _),by rw[eH,da];exact aZ.new _ _ _ _ _,fun hj=>by have:=(ho.range _ hj).2;omega,jc.since ko,(ky.mono (by rw[gh.out];exact Nat.le_refl _)).trans (CB.of (ko.below.mono eA))⟩
 have tT:=zh qm
 have cB:Hid (B<=pb/\pb<w2.heap.size):=⟨by rw[da];exact eA,by rw[eH,da];simp⟩
 have YC:Hid (B<=w2.heap.size):=Nat.le_trans eA ko.below.size;have py:=zh eH;have tf:=zh da;have Jw:=zh (And.intro yu nK);have f8:=zh kA;have dj:=qm.box.cells.1;clear qm eH da yu YB nK ho jc ky ko eA dj;rw[kA]at tT py;clear kA;go_upto_region 2 with(fail);rw[f8.out,<- py.out,<- tf.out];go_wp2_with fail;refine(lF cb A L c _ 3 w2 tT.out.cur (by omega) (by omega)).mono ?_;rintro e w3 ⟨bb,rfl,xy,mB⟩;have vj:=zh (tT.out.seen mB xy kC cB.out.1 YC.out);have Pf:Hid (B<=w3.heap.size):=Nat.le_trans YC.out mB.size;clear xy mB;cases bb
 ·clear tT;have Ve:=Jw;obtain⟨k0,k1,k2,-,-,-⟩:=vj.out.box.cells;have LR:=vj.out.cur;have TH:=zh LR;have HNT:=zh vj.out.own.read;clear LR;go_wp2_with fail;refine(Dj cb A L c (P+200000000000000000+2) 100 40 _ _ _ N0 w3 TH.out (by omega) HNT.out Ve.out.1 Ve.out.2 (by omega) (by omega)).mono ?_;rintro e w9 ⟨ve9,vi9,vn9,N9,S9,rfl,fV,LS,xA,Fx⟩;obtain⟨X0,x0,rfl,-,-,-⟩:=id fV.read.1;obtain⟨X1,x1,rfl,-,-,-⟩:=id fV.read.2.1;obtain⟨X2,x2,rfl,-,-,-⟩:=id fV.read.2.2;have bi:=vj.out.far.trans (Fx.mono Pf.out)
  have eK:=bi.adb eY.out (by have:=fL.out;omega) (by omega)
  obtain⟨e0,e1,e2,f0,f1,f2⟩:=eK.box.cells;have aC:=fV.mono Pf.out;rw[fL.out]at aC bi;have cK:=zh (d_ f6.out aC xA bi ia);have TI:=zh LS;clear bi eK aC LS xA Fx fV k0 k1 k2;go_wp2;refine bodyPost_ret (v:=.agg #[.slice X0 N9.ends.length x0,.slice X1 N9.ids.length x1,.slice X2 N9.ac1.length x2]) (by simp[results,Tryz.results124,go_sem, *]) rfl ?_;obtain⟨r1,r2,r3⟩:=cK.out;exact⟨_,_,_,N9,S9,rfl,r1,TI.out,r2.mono (by omega),r3⟩
 ·obtain⟨k0,k1,k2,-,-,-⟩:=vj.out.box.cells;have R9:=zh vj.out.own.read;go_wp2_with fail;refine(zw cb A L c _ 100 40 _ _ _ N0 w3 vj.out.cur (by omega) R9.out Jw.out.1 (by omega) (by omega)).mono ?_;rintro e w4 ⟨ve4,vi4,vn4,N4,S4,rfl,xS,⟨he4,hi4,hl4⟩,jd,j_⟩;obtain⟨D0,d0,rfl,-,-,-⟩:=id xS.read.1;obtain⟨D1,d1,rfl,-,-,-⟩:=id xS.read.2.1;obtain⟨D2,d2,rfl,-,-,-⟩:=id xS.read.2.2;have hm5:=vj.out.assign j_ jd xS vj.out.box.lt kC cB.out.1 Pf.out
  obtain⟨f0,f1,f2,g0,g1,g2⟩:=(vj.out.box.blk (j_.block pb vj.out.box.lt (by have:=cB.out;omega))).cells
  have iO:=zh hm5
  have TJ:Hid (B<=(ac5 w4 pb (.slice D0 N4.ends.length d0) (.slice D1 N4.ids.length d1) (.slice D2 N4.ac1.length d2)).heap.size):=by show _<=_;rw[dV];exact Nat.le_trans Pf.out j_.size
  have VK:Hid (Gd 100 40 N4/\0<N4.ends.length):=⟨Jw.out.1.adG he4 hi4 hl4,by rw[he4];exact Jw.out.2⟩
  clear hm5 xS he4 hi4 hl4 jd j_ k0 k1 k2;go_upto_region 4 with(fail);obtain⟨w5,yr⟩:∃z,z=ac5 w4 pb (.slice D0 N4.ends.length d0) (.slice D1 N4.ids.length d1) (.slice D2 N4.ac1.length d2):=⟨_,rfl⟩
  have YD:((w4.setCell ⟨pb,0,none⟩ (.slice D0 N4.ends.length d0)).setCell ⟨pb,1,none⟩ (.slice D1 N4.ids.length d1)).setCell ⟨pb,2,none⟩ (.slice D2 N4.ac1.length d2)=w5:=yr.symm;rw[YD];rw[<- yr]at iO TJ;clear yr YD f0 f1 f2 g0 g1 g2;obtain⟨k0,k1,k2,-,-,-⟩:=iO.out.box.cells;have LR:=iO.out.cur;have TH:=zh LR;have HNT:=zh iO.out.own.read;clear LR;go_wp2_with fail;refine(Dj cb A L c (P+200000000000000000+2+1000) 100 40 _ _ _ N4 w5 TH.out (by omega) HNT.out VK.out.1 VK.out.2 (by omega) (by omega)).mono ?_;rintro e w9 ⟨ve9,vi9,vn9,N9,S9,rfl,fV,LS,xA,Fx⟩;obtain⟨X0,x0,rfl,-,-,-⟩:=id fV.read.1;obtain⟨X1,x1,rfl,-,-,-⟩:=id fV.read.2.1;obtain⟨X2,x2,rfl,-,-,-⟩:=id fV.read.2.2;have bi:=iO.out.far.trans (Fx.mono TJ.out)
  have eK:=bi.adb eY.out (by have:=fL.out;omega) (by omega)
  obtain⟨e0,e1,e2,f0,f1,f2⟩:=eK.box.cells;have aC:=fV.mono TJ.out;rw[fL.out]at aC bi;have cK:=zh (d_ f6.out aC xA bi ia);have TI:=zh LS;clear bi eK aC LS xA Fx fV k0 k1 k2;go_wp2;refine bodyPost_ret (v:=.agg #[.slice X0 N9.ends.length x0,.slice X1 N9.ids.length x1,.slice X2 N9.ac1.length x2]) (by simp[results,Tryz.results124,go_sem, *]) rfl ?_;obtain⟨r1,r2,r3⟩:=cK.out;exact⟨_,_,_,N9,S9,rfl,r1,TI.out,r2.mono (by omega),r3⟩
def iy (k v:Nat):List (Int×Int):=[((((v+1)%k:Nat):Int),1),((((v+k-1)%k:Nat):Int),0)]
def il (k:Nat):List (List (Int×Int)):=(List.range k).map (iy k)
def fe (k:Nat):aw:={ ends:=il k,ids:=[],ac1:=List.replicate k 0 }
def oU (k v:Nat):aw:={ ends:=(il k).take v++List.replicate (k-v) [],ids:=[],ac1:=List.replicate k 0 }
theorem sg {k v:Nat} (h:v<k):(il k)[v]?=some (iy k v):=by simp[il,h]
theorem pI (k:Nat):(il k).length=k:=by simp[il]
theorem IX {k v:Nat} (h:v<k) : { oU k v with ends:=(oU k v).ends.set v (iy k v) }=oU k (v+1):=by
 simp only[oU];congr 1
 have:=vu [] (il k) v (iy k v) (sg h)
 rwa [pI]at this
theorem IY {k v:Nat} (h:v<k):(oU k v).ends[v]?=some []:=by
 simp only[oU]
 rw[List.getElem?_append_right (by simp[pI];omega)]
 rw[List.getElem?_replicate,if_pos (by simp[pI];omega)]
theorem IZ (k:Nat):oU k k=fe k:=by
 have:(il k).take k=il k:=List.take_of_length_le (by rw[pI];exact Nat.le_refl _)
 simp[oU,fe,this]
theorem tY (k:Nat) (M7:1<=k) (hk:k<=1000000) (w:World):Calls Tryz.prog 75 #[.int .i64 k] w (qu w (fe k)):=by
 go_enter Tryz.func75,Tryz.ntmps75
 go_wp2_with fail;refine(fK k hk _).mono ?_;rintro e w1 ⟨ve,vi,vn,S,rfl,ho,hb⟩;have zR:=((aZ.new w (.slice none 0 0) (.slice none 0 0) (.slice none 0 0) 30).below hb (by simp))
 have eR:w.heap.size+1<=w1.heap.size:=by have:=hb.size;simpa using this
 have hr:=ho.read;obtain⟨⟨A1,c1,hve,_,vN,_⟩,⟨A2,c2,hvi,_,fq,_⟩,⟨A3,c3,U_,_,fF,_⟩⟩:=hr
 obtain⟨g,rfl⟩:∃g,A1=some ⟨g,0,none⟩:=by
  obtain⟨S1,S2,S3,⟨vs,Ss,h1,_⟩,_⟩:=ho;rcases dh h1 with⟨rfl,h0⟩ | ⟨g,c,rfl,_⟩
  ·simp[aS]at h0;omega
  ·cases hve;exact⟨g,rfl⟩
 subst hve hvi U_;simp only[aS,List.length_replicate,List.length_nil]at ho ⊢
 unfold maxLen at vN;have bG:Below w1.heap.size w1 (w1.alloc (.cells #[.slice (some ⟨g,0,none⟩) k c1,.slice A2 0 c2,.slice A3 k c3] 30)):=ao _ _;have Ho:=zh (ho.ac2 bG);have Hh:=zh (((ao w _).trans (hb.mono (by simp))).trans (bG.mono (by omega)));have ip:Hid (∀j∈S,j<w1.heap.size):=fun j hj=>(ho.range j hj).2
 have abg:=zh (zR.alloc (.cells #[.slice (some ⟨g,0,none⟩) k c1,.slice A2 0 c2,.slice A3 k c3] 30));clear ho hb bG zR;go_wp2
 go_loopw [10] (fun i wr=>∃v S,v<=k/\i=.int .i64 v/\au wr (w.heap.size+1) (.slice (some ⟨g,0,none⟩) k c1) (.slice A2 0 c2) (.slice A3 k c3) (oU k v) S/\w1.heap.size∉S/\aZ wr w1.heap.size (.slice (some ⟨g,0,none⟩) k c1) (.slice A2 0 c2) (.slice A3 k c3)/\aZ wr w.heap.size (.slice none 0 0) (.slice none 0 0) (.slice none 0 0)/\Below w.heap.size w wr) (fun i _=>k-(intOf i).toNat)
 case atStart=>
  refine⟨0,S,Nat.zero_le _,rfl,?_,fun hj=>by have:=ip.out _ hj;omega,aZ.new _ _ _ _ _,abg.out,Hh.out⟩
  have:=Ho.out
  simpa[oU]using this
 case round=>
  obtain⟨v,S',hv,rfl,ho,hnS,LU,zR,BP⟩:=hrel;obtain⟨XD,dG,lK,_⟩:=LU.cells
  by_cases aH:v<k
  ·obtain⟨u0,T0,DG,hf0,_,FV,Ec,uI⟩:=ho.ac_ (IY aH);have hgb:g≠w1.heap.size:=fun h=>hnS (h ▸ uI)
   have acz:=LU.lt;obtain⟨p,hp⟩:∃p,p=(v+1)%k:=⟨_,rfl⟩
   obtain⟨q,hq⟩:∃q,q=(v+k-1)%k:=⟨_,rfl⟩
   have e1:((v:Int)+1).tmod k=(p:Int):=by rw[hp,Int.tmod_eq_emod_of_nonneg (by omega)];simp
   have e2:((v:Int)+k-1).tmod k=(q:Int):=by
    rw[hq,Int.tmod_eq_emod_of_nonneg (by omega),Int.natCast_emod];congr 1;omega
   have h1:p<k:=hp ▸ Nat.mod_lt _ (by omega);have h2:q<k:=hq ▸ Nat.mod_lt _ (by omega);have aD:iy k v=[((p:Int),1),((q:Int),0)]:=by rw[iy,<- hp,<- hq]
   have iK:Hid (∃VL,au ((wr.setCell ⟨g,v,none⟩ (.slice (some ⟨wr.heap.size,0,none⟩) 2 2)).alloc (.cells #[.int .i64 p,.int .i64 1,.int .i64 q,.int .i64 0] 104)).drew (w.heap.size+1) (.slice (some ⟨g,0,none⟩) k c1) (.slice A2 0 c2) (.slice A3 k c3) (oU k (v+1)) VL/\w1.heap.size∉VL):=by
    have o1:=(ho.ac2 (ao wr (.cells #[.int .i64 p,.int .i64 1,.int .i64 q,.int .i64 0] 104))).ads v (fY.mono (Hv wr p 1 q 0) (by omega)) (fun j hj hS=>by simp at hj;have:=(ho.range j hS).2;omega)
    obtain⟨VL,o2,hs⟩:=o1;rw[World.setCell_alloc_past _ _ _ _ Ec,<- aD,IX aH]at o2;refine⟨VL,o2.drew,fun hj=>?_⟩
    rcases hs _ hj with h | h
    ·exact hnS h
    ·simp at h;omega
   have Hb:=zh ((BP.setCell (p:=⟨g,v,none⟩) (by show _<=g;omega) (.slice (some ⟨wr.heap.size,0,none⟩) 2 2)).alloc (by simpa using BP.size) (.cells #[.int .i64 p,.int .i64 1,.int .i64 q,.int .i64 0] 104))
   have Hx:=zh ((LU.set (a:=⟨g,v,none⟩) (u:=.slice (some ⟨wr.heap.size,0,none⟩) 2 2) hgb).alloc (.cells #[.int .i64 p,.int .i64 1,.int .i64 q,.int .i64 0] 104))
   have Hr:=zh ((zR.set (a:=⟨g,v,none⟩) (u:=.slice (some ⟨wr.heap.size,0,none⟩) 2 2) (by show g≠_;omega)).alloc (.cells #[.int .i64 p,.int .i64 1,.int .i64 q,.int .i64 0] 104))
   clear ho BP zR hnS LU hp hq aD;go_wp2
   go_region
   go_wp2;go_roundw
   case rel=>exact iK.out.elim fun VL h=>⟨v+1,VL,by omega,by simp,h.1,h.2,Hx.out,Hr.out,Hb.out.drew⟩
   case measure=>simp[intOf];omega
  ·obtain rfl:v=k:=by omega
   rw[IZ]at ho;obtain⟨jm,lY,ml,hf0,hf1,Bu⟩:=zR.cells
   have iK:Hid (∀x y z,au (((wr.setCell ⟨w.heap.size,0,none⟩ x).setCell ⟨w.heap.size,1,none⟩ y).setCell ⟨w.heap.size,2,none⟩ z) w.heap.size (.slice (some ⟨g,0,none⟩) v c1) (.slice A2 0 c2) (.slice A3 v c3) (fe v) S'/\Below w.heap.size w (((wr.setCell ⟨w.heap.size,0,none⟩ x).setCell ⟨w.heap.size,1,none⟩ y).setCell ⟨w.heap.size,2,none⟩ z)):=fun x y z=>by
    refine⟨(ho.ac4 fun j hj=>?_).mono (by omega),((BP.setCell (Nat.le_refl _) _).setCell (Nat.le_refl _) _).setCell (Nat.le_refl _) _⟩
    have:=(ho.range j hj).1
    rw[Below.heap_setCell _ _ _ _ (by show j≠w.heap.size;omega),Below.heap_setCell _ _ _ _ (by show j≠w.heap.size;omega),Below.heap_setCell _ _ _ _ (by show j≠w.heap.size;omega)]
   clear ho BP zR LU;go_wp2;refine bodyPost_ret (v:=.agg #[.slice (some ⟨g,0,none⟩) v c1,.slice A2 0 c2,.slice A3 v c3]) (by simp[results,Tryz.results75,go_sem, *]) rfl ?_;exact⟨_,_,_,S',rfl,(iK.out _ _ _).1,(iK.out _ _ _).2⟩
theorem LW (k:Nat) (h1:1<=k) (h2:k<=40):Gd 100 40 (fe k):=by
 have h0:(fe k).ends.length=k:=by simp[fe,pI]
 refine⟨by omega,fun j es he=>?_,by simp[fe],by rw[h0];simp[fe],fun j es he e hm=>?_⟩
 ·have hj:j<k:=by rw[<- h0];exact al he
  have e2:es=iy k j:=by
   have:=sg hj
   rw[show(fe k).ends=il k from rfl,this]at he;exact(Option.some.inj he).symm
  rw[e2];simp[iy]
 ·have hj:j<k:=by rw[<- h0];exact al he
  have e2:es=iy k j:=by
   have:=sg hj
   rw[show(fe k).ends=il k from rfl,this]at he;exact(Option.some.inj he).symm
  have a1:=Nat.mod_lt (j+1) (show 0<k by omega)
  have a2:=Nat.mod_lt (j+k-1) (show 0<k by omega)
  rw[e2]at hm;unfold iy at hm;simp only[List.mem_cons,List.not_mem_nil,or_false]at hm;have row:∀q,q<k->(fe k).ends[q]?=some (iy k q):=fun q hq=>sg hq
  rcases hm with rfl | rfl
  ·exact⟨_,1,_,rfl,row _ a1,by simp[iy]⟩
  ·exact⟨_,0,_,rfl,row _ a2,by simp[iy]⟩
end Go.Proofs.YtnioemnkfojmkaaGreat
