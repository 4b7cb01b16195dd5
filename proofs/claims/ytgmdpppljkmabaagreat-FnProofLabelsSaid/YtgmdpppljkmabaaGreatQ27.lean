/- Parts of the proof: walks of functions and plain laws. -/
import Derived.Test.YtgmdpppljkmabaaGreatQ0
import Derived.Test.YtgmdpppljkmabaaGreatQ25
import Derived.Test.YtgmdpppljkmabaaGreatQ26
import Derived.Test.YtgmdpppljkmabaaGreatQ9
import Derived.Test.YtgmdpppljkmabaaGreatQ1
import Derived.Test.YtgmdpppljkmabaaGreatQ11
import Derived.Test.YtgmdpppljkmabaaGreatQ20
import Derived.Test.YtgmdpppljkmabaaGreatQ22
import Derived.Test.YtgmdpppljkmabaaGreatQ3
import Derived.Test.YtgmdpppljkmabaaGreatQ4
import Derived.Test.YtgmdpppljkmabaaGreatQ17
import Derived.OpenShut
set_option maxRecDepth 100000
set_option maxHeartbeats 16000000
namespace Go.Proofs.YtgmdpppljkmabaaGreat
open Go Go.RowKit
theorem It:∀args w,(callFunc 152 args).run Tryz.prog w=.ok (.enter 152 args) w:=enters_of Tryz.func152 (by kernel_rfl) rfl
theorem Iu:∀args w,(callFunc 153 args).run Tryz.prog w=.ok (.enter 153 args) w:=enters_of Tryz.func153 (by kernel_rfl) rfl
theorem PJ (x:Int) (w:World):Calls Tryz.prog 152 #[.int .i64 x] w fun e w'=>e=.returned (.int .i64 x)/\Below w.heap.size w w':=by
 go_enter Tryz.func152,Tryz.ntmps152
 go_wp2;go_ret;exact⟨rfl,Below.refl _ _⟩
def PK (tw:Int):Int:=if tw<0 then 9 else tw
theorem PM (v r N L bp b0 bs gp cp bI oI cI gs cs:Nat) (d tw nR sz:Int) (w:World) (hv:v<N) (hr:r<L)
  (h1:w.cell? ⟨bp,0,none⟩=some (.slice (some ⟨gp,0,none⟩) N cp)) (h2:w.cell? ⟨gp,v,none⟩=some (.int .i64 tw))
  (h3:w.cell? ⟨b0,1,none⟩=some (.slice (some ⟨bI,oI,none⟩) L cI)) (h4:w.cell? ⟨bI,oI+r,none⟩=some (.int .i64 nR))
  (h5:w.cell? ⟨bs,0,none⟩=some (.slice (some ⟨gs,0,none⟩) N cs)) (h6:w.cell? ⟨gs,v,none⟩=some (.int .i64 sz))
  (hi:1<=nR/\nR<=999999) (hd:0<=d/\d<=100) (ht : -1<=tw/\tw<=10) (hz:0<=sz/\sz<=1000):
  Calls Tryz.prog 153 #[.int .i64 v,.int .i64 r,.int .i64 d,.pointer (some ⟨bp,0,none⟩),.pointer (some ⟨b0,0,none⟩),.pointer (some ⟨bs,0,none⟩)] w fun e w'=>e=.returned (.int .i64 (((nR*100+d)*10+PK tw)*2+sz%2))/\Below w.heap.size w w':=by
 have p1:=ae h1;have p2:=ae h2;have p3:=ae h3;have p4:=ae h4;have p5:=ae h5;have p6:=ae h6;have a1:IntKind.i64.wrap (nR*100)=nR*100:=aF _ (by omega) (by omega);have a2:IntKind.i64.wrap (nR*100+d)=nR*100+d:=aF _ (by omega) (by omega);have a3:IntKind.i64.wrap ((nR*100+d)*10)=(nR*100+d)*10:=aF _ (by omega) (by omega)
 have hq:0<=PK tw/\PK tw<=10:=by unfold PK;split <;> omega
 obtain⟨q,hqe⟩:∃z,z=PK tw:=⟨_,rfl⟩
 rw[<- hqe]at hq ⊢;have a4:IntKind.i64.wrap ((nR*100+d)*10+q)=(nR*100+d)*10+q:=aF _ (by omega) (by omega);have a5:IntKind.i64.wrap (((nR*100+d)*10+q)*2)=((nR*100+d)*10+q)*2:=aF _ (by omega) (by omega);have t1:sz.tmod 2=sz%2:=Int.tmod_eq_emod_of_nonneg hz.1;obtain⟨sm,Fb⟩:∃z,z=sz%2:=⟨_,rfl⟩
 have Gh:0<=sm/\sm<=1:=by omega
 rw[<- Fb]at t1 ⊢;have t2:sz%2=sm:=Fb.symm;have t3:IntKind.i64.wrap sm=sm:=aF _ (by omega) (by omega);have a6:IntKind.i64.wrap (((nR*100+d)*10+q)*2+sm)=((nR*100+d)*10+q)*2+sm:=aF _ (by omega) (by omega);have Hqe:=zh hqe;clear h3 h4 h5 h6 hi hd ht hz hq Gh Fb hqe
 go_enter Tryz.func153,Tryz.ntmps153
 by_cases lP:tw<0
 ·have TH:q=9:=by rw[Hqe.out];exact if_pos lP
  subst TH;go_upto_region 4 with(fail);clear h1 h2;refine ar 18 (aa w) (by kernel_rfl) (by kernel_rfl) (by simp) (aj (ad _)) ?_;simp only[zT]
  refine bU rfl ?_;simp only[zA]
  apply de rfl;(intro W hW;have k1:=p3 W hW;go_simp;with_reducible rfl);simp only[zA]
  iterate 2 (refine bU rfl ?_;simp only[zA])
  apply de rfl;(intro W hW;have k1:=p4 W hW;go_simp;with_reducible rfl);simp only[zA]
  iterate 7 (refine bU rfl ?_;simp only[zA])
  apply de rfl;(intro W hW;have k1:=p5 W hW;go_simp;with_reducible rfl);simp only[zA]
  iterate 2 (refine bU rfl ?_;simp only[zA])
  apply de rfl;(intro W hW;have k1:=p6 W hW;go_simp;with_reducible rfl);simp only[zA]
  iterate 2 (refine bU rfl ?_;simp only[zA])
  intro W hW;have HW:=zh hW;clear hW p1 p2 p3 p4 p5 p6;go_wp2;go_ret;exact⟨rfl,HW.out⟩
 ·have TH:q=tw:=by rw[Hqe.out];exact if_neg lP
  subst TH;go_upto_region 4 with(fail);clear h1 h2;refine ar 18 (aa w) (by kernel_rfl) (by kernel_rfl) (by simp) (aj (ad _)) ?_;simp only[zT]
  refine bU rfl ?_;simp only[zA]
  apply de rfl;(intro W hW;have k1:=p3 W hW;go_simp;with_reducible rfl);simp only[zA]
  iterate 2 (refine bU rfl ?_;simp only[zA])
  apply de rfl;(intro W hW;have k1:=p4 W hW;go_simp;with_reducible rfl);simp only[zA]
  iterate 7 (refine bU rfl ?_;simp only[zA])
  apply de rfl;(intro W hW;have k1:=p5 W hW;go_simp;with_reducible rfl);simp only[zA]
  iterate 2 (refine bU rfl ?_;simp only[zA])
  apply de rfl;(intro W hW;have k1:=p6 W hW;go_simp;with_reducible rfl);simp only[zA]
  iterate 2 (refine bU rfl ?_;simp only[zA])
  intro W hW;have HW:=zh hW;clear hW p1 p2 p3 p4 p5 p6;go_wp2;go_ret;exact⟨rfl,HW.out⟩
theorem Iv {N:Nat} {dep:Nat->Int} {par:Nat->Option Nat} {D:List Nat} {s:List Int} (h:Jt N dep par D s) {x:Nat} (hx:x<N):0<=s.getD x 0/\s.getD x 0<=N:=by
 rw[h.val x hx]
 have:=List.countP_le_length (p:=fun w=>xZ dep par D w x) (l:=List.range N)
 rw[List.length_range]at this;omega
theorem Wp {n:ak} (hn:al n=true) (h0:n.ids.length≠0) {v:Nat} (hv:v<n.ends.length) : -1<=jl n v/\jl n v<=10:=by
 have h6:=(ii hn h0 hv).2.2.2.2.2.2
 have h5 : -1<=jl n v:=by
  unfold jl
  rcases nO n (ai n v) v with⟨h3,-⟩ | ⟨q,h3,-⟩ <;> omega
 by_cases h7:0<=jl n v
 ·have:=h6 h7;omega
 ·omega
theorem PN {N:Nat} {d t z:Int} (hN:N<=40) (hd:d<(N:Int)) (KF:0<=d) (hz:0<=z/\z<=(N:Int)):(0<=d/\d<=100)/\(0<=z/\z<=1000):=by omega
theorem Sv {n:ak} (hn:al n=true) (h0:n.ids.length≠0) (hN:n.ends.length<=40) {ln:List Nat} {s:List Int} (eP:Jt n.ends.length (dt n) (jb n) ln s) (Wq:ln.Perm (List.range n.ends.length))
  {bp b0 bs gp cp gs cs B1 B2:Nat} {vi:Value} {wr:World} (hi:aY wr vi n.ids)
  (Wr:∀W,aa wr W->W.cell? ⟨bp,0,none⟩=some (.slice (some ⟨gp,0,none⟩) n.ends.length cp)) (hP:Own wr B1 (.slice (some ⟨gp,0,none⟩) n.ends.length cp) ((List.range n.ends.length).map (jl n)))
  (h1:∀W,aa wr W->W.cell? ⟨b0,1,none⟩=some vi)
  (CE:∀W,aa wr W->W.cell? ⟨bs,0,none⟩=some (.slice (some ⟨gs,0,none⟩) n.ends.length cs)) (hS:Own wr B2 (.slice (some ⟨gs,0,none⟩) n.ends.length cs) s)
  {v:Nat} (hv:v<n.ends.length) {W:World} (hW:aa wr W):
  Calls Tryz.prog 153 (#[.int .i64 v,.int .i64 (ai n v),.int .i64 (aw n (ai n v) v)]++#[.pointer (some ⟨bp,0,none⟩),.pointer (some ⟨b0,0,none⟩),.pointer (some ⟨bs,0,none⟩)]) W fun e w'=>e=.returned (.int .i64 (fF n v))/\Below W.heap.size W w':=by
 have Ce:=pL hn h0;have hlN:=cM hn hv
 have qT:ai n v<n.ids.length:=by rw[Ce.1];exact hlN
 obtain⟨bI,oI,cI,VO,Qo⟩:=sZ hi qT;subst VO
 have cv:=(Own.since hP hW).cell (k:=v) (x:=jl n v) (by rw[List.getElem?_map,List.getElem?_range hv];rfl)
 have YV:=eP.len
 have cs1:=(Own.since hS hW).cell (k:=v) (x:=s.getD v 0) (by rw[zDd,List.getElem?_eq_getElem (by rw[YV];exact hv)];rfl)
 have bZ:∀c,c<n.ends.length->c∈ln:=fun c hc=>(Wq.mem_iff).2 (List.mem_range.2 hc)
 have jG:∀c∈ln,c<n.ends.length:=fun c hc=>List.mem_range.1 ((Wq.mem_iff).1 hc)
 have aP:=eP.own (Md hn) hv (fun c hc _=>bZ c hc) jG
 have s_:=Iv eP hv;have Je:=Wp hn h0 hv;have hdp:0<=aw n (ai n v) v:=(Md hn).pos v hv;have Me:=(nP hn hlN hv).2;obtain⟨e1,e2⟩:=PN (t:=0) hN Me hdp s_;refine(PM v (ai n v) n.ends.length n.ids.length bp b0 bs gp cp bI oI cI gs cs (aw n (ai n v) v) (jl n v) (n.ids.getD (ai n v) 0) (s.getD v 0) W hv qT (Wr W hW) cv (h1 W hW) (Qo W hW) (CE W hW) cs1 (Ce.2 _ hlN) e1 Je e2).mono ?_;rintro e w' ⟨rfl,hb⟩;refine⟨?_,hb⟩;rw[aP];rfl
def kq (f:Nat->Int) (c:Int) (N k:Nat):List Int:=(List.range k).map f++List.replicate (N-k) c
theorem yz (f:Nat->Int) (c:Int) (N:Nat):kq f c N 0=List.replicate N c:=by simp[kq]
theorem LG (f:Nat->Int) (c:Int) (N:Nat):kq f c N N=(List.range N).map f:=by simp[kq]
theorem A4 (f:Nat->Int) (c:Int) {N k:Nat} (h:k<=N):(kq f c N k).length=N:=by simp[kq];omega
theorem A7 (f:Nat->Int) (c:Int) {N k:Nat} (h:k<N):(kq f c N k).set k (f k)=kq f c N (k+1):=by
 unfold kq;rw[List.set_append_right _ _ (by simp),show N-k=(N-(k+1))+1 by omega,List.replicate_succ,List.range_succ,List.map_append]
 simp
structure Qq (f1 f2:Nat->Int) (N:Nat) (w3 wr:World) (base gp cp gd cd k:Nat):Prop where
 p:Own wr base (.slice (some ⟨gp,0,none⟩) N cp) (kq f1 (-1) N k)
 d:Own wr base (.slice (some ⟨gd,0,none⟩) N cd) (kq f2 0 N k)
 only:bg [gp,gd] w3 wr
theorem Qq.since {f1 f2:Nat->Int} {N:Nat} {w3 wr W:World} {base gp cp gd cd k:Nat} (h:Qq f1 f2 N w3 wr base gp cp gd cd k) (hs:aa wr W):Qq f1 f2 N w3 W base gp cp gd cd k:=⟨Own.since h.p hs,Own.since h.d hs,h.only.trans (bg.aek hs.below)⟩
theorem Qq.put {f1 f2:Nat->Int} {N:Nat} {w3 wr:World} {base gp cp gd cd k:Nat} (h:Qq f1 f2 N w3 wr base gp cp gd cd k) (hk:k<N) (gM:gp≠gd):
  Own (wr.setCell ⟨gp,k,none⟩ (.int .i64 (f1 k))) base (.slice (some ⟨gp,0,none⟩) N cp) (kq f1 (-1) N (k+1))/\Own (wr.setCell ⟨gp,k,none⟩ (.int .i64 (f1 k))) base (.slice (some ⟨gd,0,none⟩) N cd) (kq f2 0 N k)/\bg [gp,gd] w3 (wr.setCell ⟨gp,k,none⟩ (.int .i64 (f1 k))):=by
 refine⟨by rw[<- A7 f1 (-1) hk];exact h.p.set _,?_,h.only.setCell (.inl (by simp)) _⟩
 exact(iy.aeb (⟨h.d,rfl⟩:k9 _ _ _ _ _) (fun j hj=>Below.heap_setCell _ _ _ _ (by simp[Value.ownBlock]at hj;subst hj;exact Ne.symm gM))).1
theorem Qq.next {f1 f2:Nat->Int} {N:Nat} {w3 wr:World} {base gp cp gd cd k:Nat} (h1:Own wr base (.slice (some ⟨gp,0,none⟩) N cp) (kq f1 (-1) N (k+1))) (h2:Own wr base (.slice (some ⟨gd,0,none⟩) N cd) (kq f2 0 N k)) (h3:bg [gp,gd] w3 wr) (hk:k<N) (gM:gp≠gd):
  Qq f1 f2 N w3 (wr.setCell ⟨gd,k,none⟩ (.int .i64 (f2 k))) base gp cp gd cd (k+1):=by
 refine⟨?_,by rw[<- A7 f2 0 hk];exact h2.set _,h3.setCell (.inl (by simp)) _⟩
 exact(iy.aeb (⟨h1,rfl⟩:k9 _ _ _ _ _) (fun j hj=>Below.heap_setCell _ _ _ _ (by simp[Value.ownBlock]at hj;subst hj;exact gM))).1
theorem PO {N:Nat} {l:List Int} (h:l.Perm (gK N)):∃ln:List Nat,l=ln.map (fun k:Nat=>(k:Int))/\ln.Perm (List.range N)/\ln.length=N:=by
 refine⟨l.map Int.toNat,?_,?_,by rw[List.length_map,h.length_eq,fM]⟩
 ·rw[List.map_map]
  have:l.map ((fun k:Nat=>(k:Int))∘Int.toNat)=l.map id:=List.map_congr_left fun x hx=>by
   have:=EU (h.mem_iff.1 hx)
   show((x.toNat:Nat):Int)=x
   omega
  rw[this,List.map_id]
 ·have h2:=h.map Int.toNat
  have:(gK N).map Int.toNat=List.range N:=by
   unfold gK;rw[List.map_map]
   have:(List.range N).map (Int.toNat∘Int.ofNat)=(List.range N).map id:=List.map_congr_left fun x _=>rfl
   rw[this,List.map_id]
  rwa [this]at h2
theorem yA (ve vi vn:Value) (n:ak) (w:World) (h:aQ w ve vi vn n) (hn:al n=true) (hid:n.ids.length≠0):
  Calls Tryz.prog 87 #[.agg #[ve,vi,vn]] w fun e w'=>∃u,e=.returned u/\Own w' w.heap.size u ((List.range n.ends.length).map (fF n))/\Below w.heap.size w w':=by
 have eS:=aE hn;have kz:=eS.1;have np:=eS.2;have Hn:=zh hn;have zr:=zh hid;clear eS hn hid
 obtain⟨w0,A,c,A2,c2,A3,c3,rfl,rfl,rfl,eV,hm,fJ,fB,HA,bK,aT,H,dL,dR,dU⟩:=zB h;clear h
 go_enter Tryz.func87,Tryz.ntmps87
 go_upto_region 1 with(fail);rw[<- bK.out];have bB:aa w0 w0:=ad _;go_wp2_with fail;refine(fV _ _ _ n w0 H.out Hn.out).mono ?_;rintro e w1 ⟨uR,rfl,vE,ay⟩;have cY:aa w0 w1:=ay;obtain⟨AR,cR,rfl,-,-,-⟩:=id vE.ints;have uY:(bn n).length=n.ends.length:=mN n;rw[uY]at vE;obtain⟨bR,oR,rfl,JB⟩:=ik vE.ints uY (by omega);have RY:=zh JB;have dC:=zh cY;have RZ:=zh uY;clear vE JB uY bB ay;rw[RZ.out];go_wp2_with fail;refine(lm _ _ _ n w1 (H.out.keep dC.out.below) (by omega) (by omega)).mono ?_;rintro e w2 ⟨uP,rfl,Mh,bj⟩;have d_:aa w1 w2:=bj;rcases Mh.cases with⟨-,h9⟩ | ⟨gp,cp,hvp,aaZ,aa0⟩
 ·exfalso
  have h8:n.ends.length=0:=by
   have h7:=congrArg List.length h9;rw[List.length_replicate]at h7;exact h7
  omega
 rw[List.length_replicate]at hvp;subst hvp;obtain⟨w3,iR⟩:∃z,z=w2.alloc (.cells #[.slice (some ⟨gp,0,none⟩) n.ends.length cp] 25):=⟨_,rfl⟩
 obtain⟨bp,Wr⟩:∃z,z=w2.heap.size:=⟨_,rfl⟩
 have hZ:aa w2 w3:=by rw[iR];exact ag _ (ad _)
 have cbp:w3.cell? ⟨bp,0,none⟩=some (.slice (some ⟨gp,0,none⟩) n.ends.length cp):=by rw[iR,Wr];simp
 have ac9:=zh (Own.since Mh hZ);have VR:=zh (aa.after d_ hZ);have ac_:=zh cbp
 have Rx:Hid (bp+1=w3.heap.size/\w1.heap.size<=gp/\gp<bp/\w1.heap.size<=w2.heap.size):=⟨by rw[iR,Wr];simp,aaZ,by rw[Wr];exact aa0,d_.below.size⟩
 have xc:=zh iR;have Hbp:=zh Wr;clear Mh bj d_ hZ cbp iR Wr aaZ aa0 cY;go_upto_region 3 with(fail);rw[<- xc.out,<- Hbp.out];obtain⟨gd,iY⟩:∃z,z=w3.heap.size:=⟨_,rfl⟩
 go_upto_region 4 with(at_make;refine jp _ rfl _ _ rfl _ _ n.ends.length rfl rfl rfl rfl (by omega) ?_;intro w4 oH tn hz4)
 rw[<- iY]at oH hz4 ⊢;have nj:aa w3 w4:=tn
 have hE0:Qq (jl n) (dt n) n.ends.length w4 w4 w1.heap.size gp cp gd n.ends.length 0:=⟨by rw[yz];exact Own.since ac9.out nj,by rw[yz];exact oH.mono (by have:=Rx.out;omega),bg.refl _ _⟩
 have TT:=zh hE0;have R5:=zh (aa.after VR.out nj);have ada:=zh (ae ac_.out w4 nj)
 have Qg:Hid (w1.heap.size<=gp/\gp<bp/\bp<gd/\gd<w4.heap.size):=by have:=Rx.out;exact⟨by omega,by omega,by omega,hz4⟩
 clear hE0 oH tn hz4 nj iY;go_upto_region 5 with(fail)
 go_loopw [22] (fun i wr=>∃k:Nat,k<=n.ends.length/\i=.int .i64 k/\Qq (jl n) (dt n) n.ends.length w4 wr w1.heap.size gp cp gd n.ends.length k) (fun i _=>n.ends.length-(intOf i).toNat)
 case atStart=>exact⟨0,Nat.zero_le _,rfl,TT.out⟩
 case round=>
  obtain⟨k,hk,rfl,hE⟩:=hrel
  have gM:gp≠gd:=by have:=Qg.out;omega
  have Ws:aa w1 wr:=bg.since R5.out hE.only (fun j hj=>by have:=Qg.out;simp at hj;omega)
  have kh:aa w0 wr:=aa.after dC.out Ws
  have cb:=hE.only.cell (p:=⟨bp,0,none⟩) (by have:=Qg.out;simp;omega) ada.out
  have HE:=zh hE;have adb:=zh Ws;have lE:=zh kh;have TJ:=zh cb;clear hE Ws cb
  by_cases hlt:k<n.ends.length
  ·have m3:IntKind.i64.wrap ((k:Int)+1)=(k:Int)+1:=aF _ (by omega) (by omega)
   have uy:(bn n)[k]?=some (ai n k:Int):=by unfold bn;rw[List.getElem?_map,List.getElem?_range hlt];rfl
   have c0:=RY.out k _ uy wr adb.out;have TP:=cM Hn.out hlt;obtain⟨p,hp⟩:∃z,z=ai n k:=⟨_,rfl⟩
   rw[<- hp]at c0 TP;have Hp:=zh hp;clear uy hp;go_wp2_with fail;refine(tV _ _ _ n p wr (H.out.keep lE.out.below) Hn.out TP).mono ?_;rintro e w5 ⟨uT,rfl,hoT,kT⟩;have vx:aa wr w5:=kT;obtain⟨AT,cT,rfl,-,-,-⟩:=id hoT.ints;have Wn:(oe n p).length=n.ends.length:=by simp[oe]
   rw[Wn]at hoT;obtain⟨bT,oT,rfl,hcT⟩:=ik hoT.ints Wn (by omega);rw[Wn];have ct:=hcT k _ (sT hlt) w5 (ad _)
   rw[show fX n p k=jl n k by unfold jl;rw[<- Hp.out]]at ct
   have hE5:=HE.out.since vx;have cb5:=ae TJ.out w5 vx;have f5:=hE5.p.free k
   obtain⟨y0,CD⟩:=aM (kq (jl n) (-1) n.ends.length k) k (by rw[A4 _ _ hk];exact hlt)
   have cz:=hE5.p.cell CD;obtain⟨q1,q2,q3⟩:=hE5.put hlt gM;have aa1:=aa.after lE.out vx;obtain⟨w6,CR⟩:∃z,z=w5.setCell ⟨gp,k,none⟩ (.int .i64 (jl n k)):=⟨_,rfl⟩
   rw[<- CR]at q1 q2 q3
   have aa2:aa w0 w6:=by rw[CR];exact Below.setCell aa1 (p:=⟨gp,k,none⟩) (by show _<=gp;have:=Qg.out;have:=dC.out.below.size;omega) _
   have Hq:=zh (And.intro q1 (And.intro q2 (And.intro q3 aa2)));have Hw6:=zh CR;clear hoT kT vx Wn hcT hE5 CD q1 q2 q3 aa1 aa2 CR c0 kh;obtain⟨tk,LW⟩:∃z,z=jl n k:=⟨_,rfl⟩
   have aa3:Hid (w6=w5.setCell ⟨gp,k,none⟩ (.int .i64 tk)):=by show _=_;rw[LW];exact Hw6.out
   rw[<- LW]at ct;clear Hw6 LW;go_upto_region 8 with(fail)
   go_region
   rw[<- aa3.out];obtain⟨w7,pE⟩:∃z,z=World.drew w6:=⟨_,rfl⟩
   rw[<- pE]
   have Q7:aa w6 w7:=by rw[pE];exact aj (ad _)
   have FT:=zh Q7;have aa4:aa w0 w7:=aa.after Hq.out.2.2.2 Q7;have adc:=zh aa4;clear pE Q7 aa3 cb5 ct f5 cz;go_wp2_with fail;refine(fq _ _ _ n p w7 (H.out.keep adc.out.below) Hn.out TP).mono ?_;rintro e w8 ⟨uF,rfl,qd,Ef⟩;obtain⟨AF,cF,rfl,-,-,-⟩:=id qd.ints;rw[fw Hn.out TP]at qd;obtain⟨bF,oF,rfl,EB⟩:=jX Hn.out TP qd.ints;rw[fw Hn.out TP];have cf:=EB k hlt w8 (ad _)
   rw[show aw n p k=dt n k by unfold dt;rw[<- Hp.out]]at cf
   have Sw:aa w6 w8:=aa.after FT.out Ef;have r1:=Own.since Hq.out.1 Sw;have r2:=Own.since Hq.out.2.1 Sw;have r3:=Hq.out.2.2.1.trans (bg.aek Sw.below);have f5:=r2.free k
   obtain⟨y0,CD⟩:=aM (kq (dt n) 0 n.ends.length k) k (by rw[A4 _ _ hk];exact hlt)
   have cz:=r2.cell CD;have Fa:=Qq.next r1 r2 r3 hlt gM;have oy:=zh Fa;obtain⟨dk,hdk⟩:∃z,z=dt n k:=⟨_,rfl⟩
   rw[<- hdk]at cf oy;clear qd Ef EB Sw r1 r2 r3 CD Fa hdk aa4;go_wp2;go_roundw
   case rel=>exact⟨k+1,by omega,by first | rfl | go_num,oy.out⟩
   case measure=>simp[intOf];omega
  ·obtain rfl:k=n.ends.length:=by omega
   clear hk hlt;obtain⟨wq,rfl⟩:∃z,z=wr:=⟨_,rfl⟩
   have hP:=HE.out.p;have hD:=HE.out.d;rw[LG]at hP hD;have HP:=zh hP;have HD:=zh hD;clear hP hD;have aa5:(wq.alloc (.cells #[.int .i64 1] 3)).cell? ⟨wq.heap.size,0,none⟩=some (.int .i64 1):=by simp
   have ade:=zh aa5;clear aa5;go_wp2_with fail;refine(l_ wq.heap.size 1 1 n.ends.length _ (by omega) (by omega) ade.out).mono ?_;rintro e w9 ⟨uS,rfl,hoS,km⟩;rcases hoS.cases with⟨-,h9⟩ | ⟨gs,cs,hvs,adf,aa6⟩
   ·exfalso
    have h8:n.ends.length=0:=by
     have h7:=congrArg List.length h9;rw[List.length_replicate]at h7;exact h7
    omega
   rw[List.length_replicate]at hvs;subst hvs;have TH:aa wq w9:=aa.after (ag _ (ad _)) km;obtain⟨Ar,B8⟩:∃z,z=w9.alloc (.cells #[.slice (some ⟨gs,0,none⟩) n.ends.length cs] 25):=⟨_,rfl⟩
   obtain⟨bs,CE⟩:∃z,z=w9.heap.size:=⟨_,rfl⟩
   have Wt:aa w9 Ar:=by rw[B8];exact ag _ (ad _)
   have Wu:Ar.cell? ⟨bs,0,none⟩=some (.slice (some ⟨gs,0,none⟩) n.ends.length cs):=by rw[B8,CE];simp
   have aa7:aa wq Ar:=aa.after TH Wt;have HoS:=zh (Own.since hoS Wt);have adg:=zh (ae Wu);have aa8:=zh aa7
   have Hzs:Hid (wq.heap.size<=gs/\gs<bs/\bs<Ar.heap.size):=by
    have h7:wq.heap.size+1=(wq.alloc (.cells #[.int .i64 1] 3)).heap.size:=by simp
    refine⟨by omega,by rw[CE];exact aa6,by rw[B8,CE];simp⟩
   have adh:=zh B8;have Y4:=zh CE;clear hoS km adf aa6 TH B8 CE Wt Wu aa7;go_upto_region 12 with(fail);rw[<- adh.out,<- Y4.out]
   have ox:=EV (.slice (some ⟨gd,0,none⟩) n.ends.length n.ends.length) ((List.range n.ends.length).map (dt n)) Ar (Own.since HD.out aa8.out).ints (by simp;omega) (by simp;omega) (fun x hx=>by
    obtain⟨v,hv,rfl⟩:=List.mem_map.1 hx;have my:=List.mem_range.1 hv;have h1:=(Md Hn.out).pos v my;have h2:dt n v<n.ends.length:=(nP Hn.out (cM Hn.out my) my).2
    omega)
   have Fg:=zh ox;clear ox;go_wp2_with fail;refine Fg.out.mono ?_;rintro e RB ⟨uO,l,rfl,Xr,TM,K6,La⟩;rw[List.length_map,List.length_range]at TM;obtain⟨ln,hln,Wq,Jo⟩:=PO TM;subst hln
   have aa9:ln.Pairwise (fun a b=>dt n b<=dt n a):=by
    rw[List.pairwise_map]at K6;refine K6.imp_of_mem (fun {a b} ha hb h9=>?_)
    have Qm:=List.mem_range.1 (Wq.mem_iff.1 ha);have TX:=List.mem_range.1 (Wq.mem_iff.1 hb);rw[Int.toNat_natCast,Int.toNat_natCast,nd Qm,nd TX]at h9;exact h9
   have hlO:(ln.map (fun k:Nat=>(k:Int))).length=n.ends.length:=by rw[List.length_map,Jo]
   obtain⟨AO,cO,rfl,-,-,-⟩:=id Xr.ints;rw[hlO]at Xr;obtain⟨bO,oO,rfl,hcO⟩:=ik Xr.ints hlO (by omega);rw[hlO];have adi:=zh (aa.after aa8.out La);have TY:=zh (show aa Ar RB from La);have adj:=Xr
   have aa_:Hid (bO≠gs/\∀k x,(ln.map (fun k:Nat=>(k:Int)))[k]?=some x->RB.cell? ⟨bO,oO+k,none⟩=some (.int .i64 x)):=by
    refine⟨?_,fun k x hx=>hcO k x hx RB (ad _)⟩
    have h7:=Xr.cases;rcases h7 with⟨h6,-⟩ | ⟨g7,c7,h6,h5,-⟩
    ·cases h6
    ·rw[hlO]at h6;cases h6
     have:=Hzs.out
     omega
   have NE:=zh (And.intro Wq (And.intro Jo aa9));clear Xr adj TM K6 Wq Jo aa9 hlO hcO La;go_upto_region 13 with(fail);have hT:=Md Hn.out;have HT:=zh hT;clear hT
   go_loopw [57] (fun i wr=>∃(k:Nat) (s:List Int),k<=n.ends.length/\i=.int .i64 k/\Jt n.ends.length (dt n) (jb n) (ln.take k) s/\Own wr wq.heap.size (.slice (some ⟨gs,0,none⟩) n.ends.length cs) s/\bg [gs] RB wr) (fun i _=>n.ends.length-(intOf i).toNat)
   case atStart=>exact⟨0,List.replicate n.ends.length 1,Nat.zero_le _,rfl,Jt.start _ _ _,(Own.since HoS.out TY.out).mono (by have:=Hzs.out;simp),bg.refl _ _⟩
   case round=>
    obtain⟨k,s,hk,rfl,eP,hos,eY⟩:=hrel
    have LH:aa wq wr:=bg.since adi.out eY (fun j hj=>by have:=Hzs.out;simp at hj;omega)
    have hz:=Qg.out;have hzs:=Hzs.out;have Z3:w4.heap.size<=wq.heap.size:=HE.out.only.size;have Pu:=Own.since HP.out LH
    have Wu:=eY.cell (p:=⟨bs,0,none⟩) (by simp;omega) (adg.out RB TY.out)
    have cbp:=ae TJ.out wr LH;have jF:=zh eP;have Xs:=zh hos;have s9:=zh eY;have ad9:=zh LH;have Hpr:=zh Pu;have sC:=zh (aa.after lE.out LH);have Dg:gs≠gp:=by omega
    clear eP hos eY Pu hz hzs
    by_cases hlt:k<n.ends.length
    ·have m3:IntKind.i64.wrap ((k:Int)+1)=(k:Int)+1:=aF _ (by omega) (by omega)
     have mh:k<ln.length:=by rw[NE.out.2.1];exact hlt
     obtain⟨Wv,aba,Ww,Wx⟩:=Ev HT.out NE.out.1 NE.out.2.2 mh
     have Rc:(ln.map (fun k:Nat=>(k:Int)))[k]?=some ((ln[k]:Nat):Int):=by rw[List.getElem?_map,List.getElem?_eq_getElem mh];rfl
     have c0:=s9.out.cell (p:=⟨bO,oO+k,none⟩) (by have:=aa_.out.1;simp;omega) (aa_.out.2 k _ Rc)
     obtain⟨v,hv⟩:∃z,z=ln[k]:=⟨_,rfl⟩
     have LW:ln.take (k+1)=ln.take k++[v]:=by rw[List.take_succ_eq_append_getElem mh,<- hv]
     rw[<- hv]at c0 Wv Ww Wx;have Ti:=zh (And.intro Wv (And.intro aba (And.intro Ww LW)));have my:=Wx;clear Wv aba Ww Wx Rc hv LW mh
     have cv:=Hpr.out.cell (k:=v) (x:=jl n v) (by rw[List.getElem?_map,List.getElem?_range my];rfl)
     obtain⟨tv,htv⟩:∃z,z=jl n v:=⟨_,rfl⟩
     rw[<- htv]at cv;have Htv:=zh htv;clear htv
     by_cases lP:tv<0
     ·have x6:jb n v=none:=by unfold jb;rw[<- Htv.out,if_neg (by omega)]
      have Fa:=jF.out.skip x6;rw[<- Ti.out.2.2.2]at Fa;have oy:=zh Fa;have LR:¬(0:Int)<=tv:=by omega
      clear x6 Fa;go_wp2;go_roundw
      case rel=>exact⟨k+1,s,by omega,by first | rfl | go_num,oy.out,Xs.out,s9.out⟩
      case measure=>simp[intOf];omega
     ·obtain⟨q,rfl⟩:=Int.eq_ofNat_of_zero_le (show 0<=tv by omega)
      obtain⟨s1,s2,s3,s4,s5,s6⟩:=fi Hn.out (cM Hn.out my) (r:=ai n v) (v:=v) (by have:=Htv.out;unfold jl at this;omega)
      have zg:fX n (ai n v) v=(q:Int):=Htv.out.symm;rw[zg]at s2 s6;rw[Int.toNat_natCast]at s6;obtain⟨es,bW⟩:=aM n.ends v my;rw[au bW]at s6;obtain⟨e,he⟩:=aM es q s6;have Ql:=(bX Hn.out bW).2 e (List.mem_of_getElem? he);obtain⟨p,hp⟩:=Int.eq_ofNat_of_zero_le Ql.1
      have x8:eB n v (q:Int)=p:=by unfold eB;rw[au bW,Int.toNat_natCast,au he,hp];exact Int.toNat_natCast p
      rw[x8]at s2
      have x6:jb n v=some p:=by unfold jb;rw[<- Htv.out,if_pos (by omega),x8]
      have Fa:=jF.out.step HT.out my Ti.out.2.2.1 x6 Ti.out.1 Ti.out.2.1;rw[<- Ti.out.2.2.2]at Fa;have ay:=Iv jF.out my;have bj:=Iv jF.out s2;have YV:=jF.out.len
      have cp1:=Xs.out.cell (k:=p) (x:=s.getD p 0) (by rw[zDd,List.getElem?_eq_getElem (by omega)];rfl)
      have cp2:=Xs.out.cell (k:=v) (x:=s.getD v 0) (by rw[zDd,List.getElem?_eq_getElem (by omega)];rfl)
      have f1:=Xs.out.free p;obtain⟨zp,hzp⟩:∃z,z=s.getD p 0:=⟨_,rfl⟩
      obtain⟨zv,hzv⟩:∃z,z=s.getD v 0:=⟨_,rfl⟩
      rw[<- hzp]at cp1 Fa bj;rw[<- hzv]at cp2 Fa ay;have m4:IntKind.i64.wrap (zp+zv)=zp+zv:=aF _ (by omega) (by omega);obtain⟨bE,oE,cE,uE,hAE,-,dS,dB⟩:=gy H.out.es bW;obtain⟨A9,y9,rfl,dV,d8,BX⟩:=dB;obtain⟨g1,o1,rfl,t1,t2⟩:=BX q e he;rw[hp]at t1;have d0:=dL wr sC.out;have d1:=ae dS wr sC.out;have d2:=ae t1 wr sC.out;cases hAE;have oy:=zh Fa;have hge:(0:Int)<=(q:Int):=by omega
      unfold maxLen at d8;clear s1 s3 s4 s5 bW he Ql hp x8 x6 Fa dS t1 t2 BX zg ay bj hzp hzv LH;have E0:=ae d0;have E1:=ae d1;have E2:=ae d2;have E3:=ae Wu;have E4:=ae cbp;have E5:=ae cv;have E6:=ae cp1;have E7:=ae cp2;go_upto_region 16 with(fail);clear d0 d1 d2 Wu cbp cv cp1 cp2 f1 c0;refine ar 21 (aa wr) (by kernel_rfl) (by kernel_rfl) (by simp) (aj (ad _)) ?_;simp only[zT]
      apply de rfl;(intro W hW;have k1:=E3 W hW;go_simp;with_reducible rfl);simp only[zA]
      refine bU rfl ?_;simp only[zA]
      apply de rfl;(intro W hW;have k1:=E0 W hW;go_simp;with_reducible rfl);simp only[zA]
      iterate 2 (refine bU rfl ?_;simp only[zA])
      apply de rfl;(intro W hW;have k1:=E1 W hW;go_simp;with_reducible rfl);simp only[zA]
      apply de rfl;(intro W hW;have k1:=E4 W hW;go_simp;with_reducible rfl);simp only[zA]
      iterate 2 (refine bU rfl ?_;simp only[zA])
      apply de rfl;(intro W hW;have k1:=E5 W hW;go_simp;with_reducible rfl);simp only[zA]
      iterate 2 (refine bU rfl ?_;simp only[zA])
      apply de rfl;(intro W hW;have k1:=E2 W hW;go_simp;with_reducible rfl);simp only[zA]
      refine bU rfl ?_;simp only[zA]
      apply de rfl;(intro W hW;have k1:=E6 W hW;go_simp;with_reducible rfl);simp only[zA]
      apply de rfl;(intro W hW;have k1:=E3 W hW;go_simp;with_reducible rfl);simp only[zA]
      iterate 2 (refine bU rfl ?_;simp only[zA])
      apply de rfl;(intro W hW;have k1:=E7 W hW;go_simp;with_reducible rfl);simp only[zA]
      iterate 2 (refine bU rfl ?_;simp only[zA])
      intro W hW;have Ij:=Own.since Xs.out hW;have cW:=E6 W hW;have fW:=Ij.free p;have B3:=zh (Ij.set (k:=p) (zp+zv));have abb:=s9.out.trans (bg.aek hW);have abc:=abb.setCell (p:=⟨gs,p,none⟩) (.inl (by simp)) (.int .i64 (zp+zv));have adk:=zh abc;clear E0 E1 E2 E3 E4 E5 E6 E7 hW Ij abb abc;go_wp2;go_roundw
      case rel=>exact⟨k+1,_,by omega,by first | rfl | go_num,oy.out,B3.out,adk.out⟩
      case measure=>simp[intOf];omega
    ·obtain rfl:k=n.ends.length:=by omega
     have htl:ln.take n.ends.length=ln:=List.take_of_length_le (by rw[NE.out.2.1];exact Nat.le_refl _)
     have eP:=jF.out;rw[htl]at eP;have hwr:aa w wr:=aa.after aT.out sC.out;have Sr:n.ends.length<=40:=by omega
     have Ac:=jc _ _ _ n wr 152 153 #[] #[.pointer (some ⟨bp,0,none⟩),.pointer (some ⟨w.heap.size,0,none⟩),.pointer (some ⟨bs,0,none⟩)] (ai n) (fF n) (H.out.keep sC.out.below) Hn.out It Iu (fun v hv=>⟨cM Hn.out hv,fun W _=>PJ _ W⟩)
      (fun v hv W hW=>Sv Hn.out zr.out Sr eP NE.out.1 (H.out.keep sC.out.below).2.1 (ae cbp) Hpr.out (fun W hW=>dR W (aa.after sC.out hW)) (ae Wu) Xs.out hv hW)
     have Na:=zh Ac;have Hwr:=zh hwr;have adl:=sC.out;clear htl eP Ac hwr Wu cbp LH Sr;go_wp2_with fail;refine Na.out.mono ?_;rintro e Qk ⟨uZ,rfl,hoZ,OW⟩;obtain⟨AZ,cZ,rfl,-,-,-⟩:=id hoZ.ints;have HoZ:=zh hoZ;have abd:=zh (aa.after Hwr.out OW);clear hoZ OW adl;go_wp2;go_ret
     exact⟨_,rfl,by have h7:=HoZ.out.mono Hwr.out.below.size;rw[List.length_map,List.length_range]at h7;exact h7,abd.out⟩
theorem PQ {n:ak} (h:eL n=true) {v:Nat} (hv:v<n.ends.length):cS n (ai n v) n.ends.length=[(gE n v).toNat]:=by
 have h1:=List.all_eq_true.1 h v (List.mem_range.2 hv);unfold jy at h1;have h1:=eq_of_beq h1
 unfold gE jN
 unfold jT at h1
 cases ho:cS n (ai n v) n.ends.length with
 | nil=>rw[ho]at h1;simp at h1
 | cons r l=>
  rw[ho]at h1;have hl:l=[]:=by simpa using h1
  subst hl;simp
theorem Iw:∀args w,(callFunc 83 args).run Tryz.prog w=.ok (.enter 83 args) w:=enters_of Tryz.func83 (by kernel_rfl) rfl
theorem Ix:∀args w,(callFunc 84 args).run Tryz.prog w=.ok (.enter 84 args) w:=enters_of Tryz.func84 (by kernel_rfl) rfl
theorem Iy:∀args w,(callFunc 85 args).run Tryz.prog w=.ok (.enter 85 args) w:=enters_of Tryz.func85 (by kernel_rfl) rfl
theorem Iz:∀args w,(callFunc 86 args).run Tryz.prog w=.ok (.enter 86 args) w:=enters_of Tryz.func86 (by kernel_rfl) rfl
theorem PR (x:Int) (w:World):Calls Tryz.prog 83 #[.int .i64 x] w fun e w'=>e=.returned (.int .i64 x)/\Below w.heap.size w w':=by
 go_enter Tryz.func83,Tryz.ntmps83
 go_wp2;go_ret;exact⟨rfl,Below.refl _ _⟩
theorem PS (x y z:Int) (w:World):Calls Tryz.prog 84 #[.int .i64 x,.int .i64 y,.int .i64 z] w fun e w'=>e=.returned (.int .i64 z)/\Below w.heap.size w w':=by
 go_enter Tryz.func84,Tryz.ntmps84
 go_wp2;go_ret;exact⟨rfl,Below.refl _ _⟩
theorem PT (p r b bl g c N:Nat) (D:DataW Unit) (w:World) (hp:p<=1000000) (h1:w.cell? ⟨bl,0,none⟩=some (.map (some b))) (hm:w.ownsMap Tryz.prog 3 vy b N D)
  (hu:vy (.slice (some ⟨g,0,none⟩) 1 c)=some (D.atKey (kI p) zD,[])) (h2:w.cell? ⟨g,0,none⟩=some (.int .i64 r)):
  Calls Tryz.prog 85 #[.int .i64 p,.pointer (some ⟨bl,0,none⟩)] w fun e w'=>e=.returned (.int .i64 r)/\Below w.heap.size w w':=by
 have Hm:=zh hm;have Hu:=zh hu;clear hm hu
 go_enter Tryz.func85,Tryz.ntmps85
 go_wp2_with (first | (at_lookup;refine xD rfl _ _ rfl b N D rfl Hm.out p hp rfl _ Hu.out ?_))
 go_ret;exact⟨rfl,Below.refl _ _⟩
theorem PU (v r L b0 bI oI cI:Nat) (d nR:Int) (w:World) (hr:r<L)
  (h3:w.cell? ⟨b0,1,none⟩=some (.slice (some ⟨bI,oI,none⟩) L cI)) (h4:w.cell? ⟨bI,oI+r,none⟩=some (.int .i64 nR))
  (hi:1<=nR/\nR<=999999) (hd : -1<=d/\d<=100):
  Calls Tryz.prog 86 #[.int .i64 v,.int .i64 r,.int .i64 d,.pointer (some ⟨b0,0,none⟩)] w fun e w'=>e=.returned (.int .i64 (nR*100+d))/\Below w.heap.size w w':=by
 have a1:IntKind.i64.wrap (nR*100)=nR*100:=aF _ (by omega) (by omega);have a2:IntKind.i64.wrap (nR*100+d)=nR*100+d:=aF _ (by omega) (by omega);clear hi hd
 go_enter Tryz.func86,Tryz.ntmps86
 go_wp2;go_ret;exact⟨rfl,Below.refl _ _⟩
theorem Sx {n:ak} (hn:al n=true) (hl:eL n=true) {b bl B N:Nat} {D:DataW Unit} {U:Nat->Value} {w:World} (hm:w.ownsMap Tryz.prog 3 vy b N D) (Ff:ic n w B n.ends.length n.ends.length D U)
  (hc:w.cell? ⟨bl,0,none⟩=some (.map (some b))) {v:Nat} (hv:v<n.ends.length):
  (gE n v).toNat<n.ends.length/\∀W,aa w W->Calls Tryz.prog 85 (#[.int .i64 (ai n v)]++#[.pointer (some ⟨bl,0,none⟩)]) W fun e w'=>e=.returned (.int .i64 ((gE n v).toNat:Nat))/\Below W.heap.size W w':=by
 obtain⟨r,hr,qT,-,-,-,-⟩:=ne hn hl hv;have dB:=PQ hl hv;rw[hr,Int.toNat_natCast]at dB ⊢;refine⟨qT,fun W hW=>?_⟩
 have aP:=Ff.own (ai n v);have hval:=Ff.val (ai n v);rw[dB]at aP;have hlen:=cM hn hv;have h40:=aE hn;rcases aP.cases with⟨-,h9⟩ | ⟨g,c,hg,iH,lh⟩
 ·cases h9
 have hg:U (ai n v)=.slice (some ⟨g,0,none⟩) 1 c:=hg;rw[hg]at hval aP;have h2:=(Own.since aP hW).cell (k:=0) (x:=(r:Int)) rfl;exact PT _ r b bl g c N D W (by omega) (ae hc W hW) (Below.ownsMap hm hW) hval h2
theorem Sy {n:ak} (hn:al n=true) (h0:n.ids.length≠0) (hl:eL n=true) {b0:Nat} {vi:Value} {w:World} (hi:aY w vi n.ids) (h1:∀W,aa w W->W.cell? ⟨b0,1,none⟩=some vi) {v:Nat} (hv:v<n.ends.length) {W:World} (hW:aa w W):
  Calls Tryz.prog 86 (#[.int .i64 v,.int .i64 ((gE n v).toNat:Nat),.int .i64 (aw n (gE n v).toNat v)]++#[.pointer (some ⟨b0,0,none⟩)]) W fun e w'=>e=.returned (.int .i64 (ko n v))/\Below W.heap.size W w':=by
 obtain⟨r,hr,qT,-,-,-,-⟩:=ne hn hl hv;unfold ko;rw[hr,Int.toNat_natCast];have Ce:=pL hn h0
 have R4:r<n.ids.length:=by rw[Ce.1];exact qT
 have hN:=aE hn;obtain⟨bI,oI,cI,VO,Qo⟩:=sZ hi R4;subst VO;have Me:=pM hn qT hv;exact PU v r n.ids.length b0 bI oI cI (aw n r v) (n.ids.getD r 0) W R4 (h1 W hW) (Qo W hW) (Ce.2 _ qT) (by omega)
theorem qu (ve vi vn:Value) (n:ak) (w:World) (h:aQ w ve vi vn n) (hn:al n=true):
  Calls Tryz.prog 78 #[.agg #[ve,vi,vn]] w fun e w'=>∃U,e=.returned (.tuple #[U,.bool (fE n).isSome])/\(∀l,fE n=some (some l)->Own w' w.heap.size U l)/\Below w.heap.size w w':=by
 have lN:=aE hn;have kz:=lN.1;have np:=lN.2;clear lN;have yZ:Hid (∀(k:Nat) (es:List (Int×Int)),n.ends[k]?=some es->es.length<=6/\∀e∈es,0<=e.1/\e.1<n.ends.length):=fun (k:Nat) (es:List (Int×Int)) he=>bX hn he
 clear hn;obtain⟨R,hR⟩:∃R,R=fE n:=⟨_,rfl⟩
 rw[<- hR];have HR:=zh hR;clear hR
 obtain⟨w0,A,c,A2,c2,A3,c3,rfl,rfl,rfl,eV,hm,fJ,fB,HA,bK,aT,H,dL,dR,dU⟩:=zB h;clear h
 have bB:aa w0 w0:=ad _
 go_enter Tryz.func78,Tryz.ntmps78
 go_upto_region 1 with(fail);rw[<- bK.out];go_wp2_with fail;refine(lm _ _ _ n w0 H.out kz (by omega)).mono ?_;rintro e w1 ⟨u,rfl,ho,ay⟩
 obtain⟨g,cU,rfl,hUl,hUm⟩:∃g cU,u=.slice (some ⟨g,0,none⟩) n.ends.length cU/\n.ends.length<=cU/\cU<=maxLen:=by
  rcases dz ho with⟨h0,WF⟩ | ⟨g,cc,h0,_,_,h3,h4⟩
  ·rw[List.length_replicate]at WF;omega
  ·rw[List.length_replicate]at h0 h3;exact⟨g,cc,h0,h3,h4⟩
 unfold maxLen at hUm;have rP:=zh ho;have SW:=zh (World.ownsRow.lt ho g (by simp[Value.ownBlock])).1;have HS1:=zh (bB.trans ay);clear ho ay bB;go_wp2
 go_loopw [5,6] (fun us uv wr=>∃(l:List Int) (v:Int) (s f:Nat),us=.int .i64 (s:Int)/\uv=.int .i64 v/\Own wr w0.heap.size (.slice (some ⟨g,0,none⟩) n.ends.length cU) l/\vo n l v s f/\gh n f l v s=R/\aa w0 wr) (fun us uv _=>oB (intOf uv) (intOf us).toNat)
 case atStart=>exact⟨_,0,0,400002,rfl,rfl,rP.out,xn,HR.out.symm,HS1.out⟩
 case round=>
  obtain⟨l,v,s,f,rfl,rfl,ho,jd,dH,bA⟩:=hrel;have Ho:=zh ho;have mn:=zh jd;have mM:=zh dH;have hlen:=jd.len;have Ny:=jd.lo;have Af:=jd.hi;have I3:=jd.st;clear ho dH jd
  by_cases hv:(n.ends.length:Int)<=v
  ·have hr:Hid (R=some (some l)):=by show _=_;rw[<- mM.out];exact BC mn.out hv
   have HS:=zh bA;obtain rfl:v=(n.ends.length:Int):=by omega
   clear bA hv Ny Af I3;go_wp2
   go_ret2
   exact⟨_,by rw[hr.out];rfl,fun l2 lL=>by
    rw[hr.out]at lL
    injection lL with lL
    injection lL with lL
    subst lL
    exact Ho.out.mono aT.out.size,aa.after aT.out HS.out⟩
  ·by_cases C3:v<0
   ·have hr:Hid (R=some none):=by show _=_;rw[<- mM.out];exact BE mn.out (by omega) C3
    have HS:=zh bA;have hvl:v<(n.ends.length:Int):=by omega
    clear bA hv Ny Af I3;go_wp2
    go_ret2
    exact⟨_,by rw[hr.out];rfl,fun l2 lL=>(by rw[hr.out]at lL;cases lL),aa.after aT.out HS.out⟩
   ·obtain⟨k,rfl⟩:=Int.eq_ofNat_of_zero_le (show 0<=v by omega)
    have hk:k<n.ends.length:=by omega
    obtain⟨x,hx⟩:=aM l k (by omega);have sk:=mn.out.rng x (List.mem_of_getElem? hx);obtain⟨f',rfl⟩:=BH mn.out;have cz:=Ho.out.cell hx;have fz:=Ho.out.free k;have Hx:=zh hx;have m1:IntKind.i64.wrap ((k:Int)-1)=(k:Int)-1:=aF _ (by omega) (by omega);have m2:IntKind.i64.wrap (x+1)=x+1:=aF _ (by omega) (by omega);have m3:IntKind.i64.wrap ((s:Int)+1)=(s:Int)+1:=aF _ (by omega) (by omega);have m4:IntKind.i64.wrap ((k:Int)+1)=(k:Int)+1:=aF _ (by omega) (by omega);clear hx hv C3 Ny Af
    by_cases h2:x=2
    ·subst h2;have Hb:=zh (BF mn.out hk Hx.out);clear m2 m3 m4 sk;go_wp2;go_roundw
     case rel=>exact⟨l.set k (-1),(k:Int)-1,s,f',rfl,by first | rfl | go_num,Ho.out.set (k:=k) (-1),Hb.out.2,by rw[<- Hb.out.1];exact mM.out,bA.setCell SW.out _⟩
     case measure=>(simp[intOf,oB];try omega)
    ·have h2':(x=2)=False:=by simp[h2]
     have h2b:(x==2)=false:=by simp[h2]
     by_cases hs:s=200000
     ·have hr:Hid (R=none):=by show _=_;rw[<- mM.out];subst hs;exact BG mn.out hk Hx.out h2
      have HS:=zh bA
      have cY:((s:Int)=200000)=True:=by simp;omega
      have d_:(s=200000)=True:=by simp[hs]
      have hZ:((s:Int)==200000)=true:=by simp;omega
      clear bA m1 m2 m3 m4 sk h2 hs I3;go_wp2
      go_ret2
      exact⟨_,by rw[hr.out];rfl,fun l2 lL=>(by rw[hr.out]at lL;cases lL),aa.after aT.out HS.out⟩
     ·have MZ:((s:Int)=200000)=False:=by simp;omega
      have d_:(s=200000)=False:=by simp[hs]
      have hZ:((s:Int)==200000)=false:=by simp;omega
      have Hg:=zh (Nd mn.out hk Hx.out h2 hs);have Hs:=zh hs;clear h2 hs sk;obtain⟨es,bW⟩:=aM n.ends k hk;obtain⟨r1,r2⟩:=yZ.out k es bW;have kw:=zh bW;have qL:=zh r1;have yJ:=zh r2;clear bW r1 r2;go_upto_region 14 with(fail);obtain⟨l2,lL⟩:∃l2,l2=l.set k (x+1):=⟨_,rfl⟩
      rw[<- lL]at Hg;obtain⟨W0,CH⟩:∃W0,W0=wr.setCell ⟨g,k,none⟩ (.int .i64 (x+1)):=⟨_,rfl⟩
      rw[<- CH]
      have eX:Hid (Own W0 w0.heap.size (.slice (some ⟨g,0,none⟩) n.ends.length cU) l2):=by show Own _ _ _ _;rw[CH,lL];exact Ho.out.set (k:=k) (x+1)
      have DE:l2.length=n.ends.length:=by rw[lL,List.length_set];exact hlen
      have oQ:l2[k]?=some (x+1):=by rw[lL,List.getElem?_set_self (by omega)]
      have lp:Hid (aa w0 W0):=by show aa _ _;rw[CH];exact bA.setCell SW.out _
      have c2:=ae (eX.out.cell oQ)
      have YF:=zh (show ∀X,aa W0 X->aY X (.slice (some ⟨g,0,none⟩) n.ends.length cU) l2 from fun X hX=>by have:=(Own.since eX.out hX).ints;exact this)
      have t0:=ah dL lp.out;have t1:=ah dR lp.out;have t2:=ah dU lp.out;have hz:aa W0 W0:=ad _;have Nz:=zh DE;have Hx2:=zh oQ
      have iL:=zh (show fQ n l2 k = !(iB (bt l2 es) (x+1))by unfold fQ iB;rw[au kw.out,au oQ])
      have HP:=zh (And.intro dL (And.intro dR dU));clear CH lL DE oQ bA cz fz dL dR dU;refine cH (w0:=W0) 9 [false,false,false,true,false,false,false,false,true] (by kernel_rfl) (by kernel_rfl) (hz) ?_;simp only[eE,ea,zT]
      iterate 7 (apply aR rfl;(intro W hW;go_simp;with_reducible rfl);simp only[zA])
      intro W hW;refine Or.inl ⟨rfl,?_⟩
      go_simp
      (with_reducible refine(sf _ _ _ _ n l2 k es W (H.out.keep (lp.out.after hW).below) (YF.out W hW) kw.out (by have:=qL.out;omega) (by rw[Nz.out];exact yJ.out)).mono ?_)
      rintro e W' ⟨un,rfl,eY,hbn⟩;refine⟨_,rfl,hW.trans hbn,?_⟩
      replace hW:=hW.trans hbn
      have s9:=zh eY.ints;clear eY hbn
      (try simp only[zA])
      refine Or.inl ⟨rfl,?_⟩
      go_simp
      (with_reducible refine(mm _ (bt l2 es) (x+1) _ s9.out).mono ?_)
      rintro e W' ⟨rfl,rfl⟩;refine⟨_,rfl,hW,?_⟩
      replace hW:=hW
      skip
      (try simp only[zA])
      simp only[bz];have i8:=zh (Own.since eX.out hW);have NA:=zh (lp.out.after hW);obtain⟨dL,dR,dU⟩:=HP.out;cases hb:iB (bt l2 es) (x+1)
      ·have Kv:fQ n l2 k=true:=by rw[iL.out,hb];rfl
       rw[Kv]at Hg;clear hW hz t0 t1 t2 c2 hb m1 m2 m3;go_wp2;go_roundw
       case rel=>exact⟨l2,(k:Int)+1,s+1,f',by go_num,by first | rfl | go_num,i8.out,by have:=Hg.out.2;simpa using this,by have:=Hg.out.1;simp at this;rw[<- this];exact mM.out,NA.out⟩
       case measure=>(have:=Hs.out;have:=mn.out.st;simp[intOf,oB];try omega)
      ·have Kv:fQ n l2 k=false:=by rw[iL.out,hb];rfl
       rw[Kv]at Hg;clear hW hz t0 t1 t2 c2 hb m1 m2 m3;go_wp2;go_roundw
       case rel=>exact⟨l2,(k:Int),s+1,f',by go_num,by first | rfl | go_num,i8.out,by have:=Hg.out.2;simpa using this,by have:=Hg.out.1;simp at this;rw[<- this];exact mM.out,NA.out⟩
       case measure=>(have:=Hs.out;have:=mn.out.st;simp[intOf,oB];try omega)
theorem lS (ve vi vn:Value) (n:ak) (s:Int) (w:World) (h:aQ w ve vi vn n) (hs : -9223372036854775808<=s/\s<=9223372036854775807) (eP:iK n<=1048576):
  Calls Tryz.prog 25 #[.agg #[ve,vi,vn],.int .i64 s] w fun e w'=>∃u,e=.returned (.tuple #[u,.bool (aJ n s)])/\Own w' w.heap.size u (aD n s)/\Below w.heap.size w w':=by
 have jF:=zh eP;have K3:=zh hs;clear eP hs
 obtain⟨w0,A,c,A2,c2,A3,c3,rfl,rfl,rfl,eV,hm,fJ,fB,HA,bK,aT,H,dL,dR,dU⟩:=zB h;clear h
 obtain⟨r0,vr⟩:∃r,aB n s=r:=⟨_,rfl⟩
 obtain⟨r1,oD⟩:∃r,aC n s=r:=⟨_,rfl⟩
 obtain⟨q1,oC⟩:∃r,aJ n s=r:=⟨_,rfl⟩
 have ht:=Ch n s;rw[vr,oD,oC]at ht;have EL:=zh vr;have qL:=zh oD;have Pn:=zh oC;have Ht:=zh ht;rw[oC];clear vr oD oC ht
 go_enter Tryz.func25,Tryz.ntmps25
 go_upto_region 1 with(fail);rw[<- bK.out];have bB:aa w0 w0:=ad _;go_wp2_with fail;refine(fY _ _ _ n s w0 H.out K3.out jF.out).mono ?_;rintro e w1 ⟨rfl,ay⟩;rw[EL.out,qL.out];have cY:aa w0 w1:=ay;have dC:=zh cY;clear ay bB;cases q1
 ·have hd:aD n s=[]:=by unfold aD;rw[Pn.out];rfl
  have Hd:=zh hd;clear hd
  have hr:r1=false\/(r1=true/\r0=false):=by have:=Ht.out;revert this;cases r0 <;> cases r1 <;> simp
  rcases hr with rfl | ⟨rfl,rfl⟩
  ·go_wp2
   go_ret2
   rw[Hd.out];exact⟨_,rfl,bH _ _,aa.trans aT.out dC.out⟩
  ·go_wp2
   go_ret2
   rw[Hd.out];exact⟨_,rfl,bH _ _,aa.trans aT.out dC.out⟩
 ·have hd:aD n s=oh n s:=by unfold aD;rw[Pn.out];rfl
  have hq:=Pn.out
  unfold aJ qm at hq
  rw[Bool.and_eq_true,Bool.and_eq_true,ap]at hq;have Hn:=zh hq.1.1;have bA:=hq.1.2;have Hh:=zh hq.2;have Hd:=zh hd
  obtain⟨rfl,rfl⟩:r0=true/\r1=true:=by have:=Ht.out;revert this;cases r0 <;> cases r1 <;> simp
  clear hd hq EL qL Ht Pn
  by_cases h1:s=1
  ·subst h1
   have Wy:ll n=true:=by have:=Hh.out;unfold e_ at this;rwa [if_pos rfl]at this
   have Fh:Hid (oh n 1=ml n):=by show _=_;unfold oh;rw[if_pos rfl,if_pos Wy]
   have abe:=zh Wy;clear Wy;go_wp2_with fail;refine(mP _ _ _ n w1 (H.out.keep dC.out.below) Hn.out).mono ?_;rintro e w2 ⟨u,rfl,ho,bj⟩;rw[if_pos abe.out]at ho;rw[abe.out];obtain⟨AU,cU,rfl,-,-,-⟩:=id ho.ints;have Ho:=zh ho;have b_:=zh (aa.after dC.out bj);clear ho bj cY;go_wp2
   go_ret2
   rw[Hd.out,Fh.out];exact⟨_,rfl,Ho.out.mono (Nat.le_trans aT.out.size dC.out.below.size),aa.trans aT.out b_.out⟩
  by_cases h2:s=2
  ·subst h2;have hh:=Hh.out;unfold e_ at hh;rw[if_neg (by decide),if_pos rfl]at hh
   cases hR:fE n with
   | none=>rw[hR]at hh;cases hh
   | some R=>
    cases R with
    | none=>rw[hR]at hh;cases hh
    | some l=>
     have Fh:Hid (oh n 2=l):=by show _=_;unfold oh;rw[if_neg (by decide),if_pos rfl,hR]
     have HR:=zh hR;clear hR hh;go_wp2_with fail;refine(qu _ _ _ n w1 (H.out.keep dC.out.below) Hn.out).mono ?_;rintro e w2 ⟨u,rfl,ho,bj⟩;have ho:=ho l HR.out;rw[HR.out];obtain⟨AU,cU,rfl,-,-,-⟩:=id ho.ints;have Ho:=zh ho;have b_:=zh (aa.after dC.out bj);clear ho bj cY;go_wp2
     go_ret2
     rw[Hd.out,Fh.out];exact⟨_,rfl,Ho.out.mono (Nat.le_trans aT.out.size dC.out.below.size),aa.trans aT.out b_.out⟩
  by_cases h3:s=3
  ·subst h3
   have Fh:Hid (oh n 3=(List.range n.ends.length).map (dt n)):=by show _=_;unfold oh;rw[if_neg (by decide),if_neg (by decide),if_pos rfl]
   have Na:=zh (jc _ _ _ n w1 83 84 #[] #[] (ai n) (dt n) (H.out.keep dC.out.below) Hn.out Iw Ix (fun v hv=>⟨cM Hn.out hv,fun W _=>PR _ W⟩) (fun v hv W _=>PS _ _ _ W))
   go_wp2_with fail;refine Na.out.mono ?_;rintro e w2 ⟨u,rfl,ho,bj⟩;obtain⟨AU,cU,rfl,-,-,-⟩:=id ho.ints;have Ho:=zh ho;have b_:=zh (aa.after dC.out bj);clear ho bj cY;go_wp2
   go_ret2
   rw[Hd.out,Fh.out]
   exact⟨_,rfl,by have h7:=Ho.out.mono (Nat.le_trans aT.out.size dC.out.below.size);rw[List.length_map,List.length_range]at h7;exact h7,aa.trans aT.out b_.out⟩
  have hid:n.ids.length≠0:=fun e=>by
   have:=Hh.out
   unfold e_ at this;rw[if_neg h1,if_neg h2,if_neg h3,if_pos e]at this;cases this
  by_cases h4:s=4
  ·subst h4
   have Q6:eL n=true:=by have:=Hh.out;unfold e_ at this;rwa [if_neg h1,if_neg h2,if_neg h3,if_neg hid,if_pos rfl]at this
   have Fh:Hid (oh n 4=(List.range n.ends.length).map (ko n)):=by show _=_;unfold oh;rw[if_neg (by decide),if_neg (by decide),if_neg (by decide),if_pos rfl]
   have zr:=zh hid;have SZ:=zh Q6;clear hid Q6 h1 h2 h3;go_wp2_with fail;refine(uK _ _ _ n w1 (H.out.keep dC.out.below) Hn.out).mono ?_;rintro e w3 ⟨b,D,U,rfl,hm,Ff,td,hb⟩;obtain⟨w4,iC⟩:∃z,z=w3.alloc (.cells #[.map (some b)] 112):=⟨_,rfl⟩
   obtain⟨bl,qE⟩:∃z,z=w3.heap.size:=⟨_,rfl⟩
   have Sz:aa w3 w4:=by rw[iC];exact ag _ (ad _)
   have d9:w4.cell? ⟨bl,0,none⟩=some (.map (some b)):=by rw[iC,qE];simp
   have hm4:=Below.ownsMap hm Sz;have abf:ic n w4 (b+1) n.ends.length n.ends.length D U:=Ff.aeb (fun j _ hj=>Sz.block j hj)
   have nj:aa w0 w4:=aa.after (aa.after dC.out hb) Sz
   have Ac:=jc _ _ _ n w4 85 86 #[.pointer (some ⟨bl,0,none⟩)] #[.pointer (some ⟨w.heap.size,0,none⟩)] (fun v=>(gE n v).toNat) (ko n) (H.out.keep nj.below) Hn.out Iy Iz
    (fun v hv=>Sx Hn.out SZ.out hm4 abf d9 hv) (fun v hv W hW=>Sy Hn.out zr.out SZ.out (H.out.keep nj.below).2.1 (fun W hW=>dR W (aa.after nj hW)) hv hW)
   have Na:=zh Ac;have mG:=zh nj;have J7:=zh iC;have P9:=zh qE;have hZ:aa w0 w3:=aa.after dC.out hb;clear Ac Sz d9 hm4 abf hm Ff td hb iC qE cY;go_upto_region 13 with(fail);rw[<- J7.out,<- P9.out];clear hZ;go_wp2_with fail;refine Na.out.mono ?_;rintro e w5 ⟨u,rfl,ho,kT⟩;obtain⟨AU,cU,rfl,-,-,-⟩:=id ho.ints;have Ho:=zh ho;have nl:=zh (aa.after mG.out kT);clear ho kT nj;go_wp2
   go_ret2
   rw[Hd.out,Fh.out]
   exact⟨_,rfl,by have h7:=Ho.out.mono (Nat.le_trans aT.out.size mG.out.below.size);rw[List.length_map,List.length_range]at h7;exact h7,aa.trans aT.out nl.out⟩
  obtain rfl:s=5:=by omega
  have Fh:Hid (oh n 5=(List.range n.ends.length).map (fF n)):=by show _=_;unfold oh;rw[if_neg (by decide),if_neg (by decide),if_neg (by decide),if_neg (by decide)]
  have zr:=zh hid;clear hid h1 h2 h3 h4;go_wp2_with fail;refine(yA _ _ _ n w1 (H.out.keep dC.out.below) Hn.out zr.out).mono ?_;rintro e w2 ⟨u,rfl,ho,bj⟩;obtain⟨AU,cU,rfl,-,-,-⟩:=id ho.ints;have Ho:=zh ho;have b_:=zh (aa.after dC.out bj);clear ho bj cY;go_wp2
  go_ret2
  rw[Hd.out,Fh.out]
  exact⟨_,rfl,by have h7:=Ho.out.mono (Nat.le_trans aT.out.size dC.out.below.size);rw[List.length_map,List.length_range]at h7;exact h7,aa.trans aT.out b_.out⟩
theorem Cz (v u:Value) (xs ys:List Int) (w:World) (h:aY w v xs) (h':aY w u ys):
  Calls Tryz.prog 16 #[v,u] w fun e w'=>e=.returned (.bool (decide (xs=ys)))/\∃m,w'=w.drewN m:=by
 obtain⟨A,c,rfl,eV,hm,hA⟩:=h;obtain⟨B,d,rfl,Q6,CC,hB⟩:=h';unfold maxLen at hm CC;have HA:=zh hA;have HB:=zh hB;clear hA hB
 by_cases hl:xs.length=ys.length
 ·have Hl:=zh hl;have rN:xs.length<=ys.length:=by omega
  have lL:ys.length<=xs.length:=by omega
  have hb:((xs.length:Int) != (ys.length:Int))=false:=by simp[hl]
  clear hl
  go_enter Tryz.func16,Tryz.ntmps16
  go_wp2
  go_loopw [13] (fun i wr=>∃k n:Nat,k<=xs.length/\i=.int .i64 k/\xs.take k=ys.take k/\wr=w.drewN n) (fun i _=>xs.length-(intOf i).toNat)
  case atStart=>exact⟨0,0,Nat.zero_le _,rfl,by simp,rfl⟩
  case round=>
   obtain⟨k,n,hk,rfl,heq,rfl⟩:=hrel;have Heq:=zh heq;clear heq
   by_cases hlt:k<xs.length
   ·obtain⟨x,hx⟩:=aM xs k hlt;obtain⟨y,hy⟩:=aM ys k (by omega);obtain⟨b,off,rfl,fj⟩:=HA.out k x hx;obtain⟨b',oY,rfl,Mn⟩:=HB.out k y hy;have Hx:=zh hx;have Hy:=zh hy;clear hx hy;cases JR:(x != y)
    all_goals
     have WS:=zh JR;go_wp2
     go_quiet (fail)
     go_wp2
    ·go_roundw
     case rel=>exact⟨k+1,_,by omega,by go_num,by rw[bh Hx.out,bh Hy.out,Heq.out,show x=y by simpa using WS.out],rfl⟩
     case measure=>simp[intOf];omega
    ·go_ret;refine⟨bw (decide_eq_false fun e=>?_),dr1 _ _ _⟩
     have h1:=Hx.out;rw[e,Hy.out]at h1;have h2:=WS.out;simp at h1 h2
     exact h2 h1.symm
   ·go_wp2;go_ret;exact⟨kY (decide_eq_true (CT Hl.out Heq.out hlt)),_,rfl⟩
 ·have hb:((xs.length:Int) != (ys.length:Int))=true:=by simp;omega
  have Hl:=zh hl;clear hl
  go_enter Tryz.func16,Tryz.ntmps16
  go_wp2;go_ret;exact⟨bw (decide_eq_false fun e=>Hl.out (by rw[e])),0,rfl⟩
theorem IA (v u:Value) (xs ys:List Int) (w:World) (h:aY w v xs) (h':aY w u ys):
  Calls Tryz.prog 16 #[v,u] w fun e w'=>e=.returned (.bool (Xz xs ys))/\Below w.heap.size w w':=(Cz v u xs ys w h h').mono fun _ _ ⟨he,m,hm⟩=>⟨he,by rw[hm];exact below_drewN (Below.refl _ _) m⟩
theorem mA (v u:Value) (xs:List Int) (w:World) (h:aY w v xs) (h':aY w u xs):
  Calls Tryz.prog 16 #[v,u] w fun e w'=>e=.returned (.bool true)/\Below w.heap.size w w':=
 (IA v u xs xs w h h').mono fun e w' ⟨he,hb⟩=>⟨by rw[he];simp[Xz],hb⟩
def LI (a b:Nat):Bool:=decide (1048576<a)||decide (1048576<a+b)
theorem SA (A B:Option Addr) (a c b d:Nat) (w:World) (hc:a<=9223372036854775807) (hd:b<=9223372036854775807):
  Calls Tryz.prog 7 #[.slice A a c,.slice B b d] w fun e w'=>e=.returned (.bool (LI a b))/\w=w':=by
 go_enter Tryz.func7,Tryz.ntmps7
 by_cases h:1048576<a
 ·have e1:((1048576:Int)<(a:Int))=True:=by simp;omega
  go_wp2;go_ret
  exact⟨by unfold LI;simp[h],rfl⟩
 ·have e1:((1048576:Int)<(a:Int))=False:=by simp;omega
  have m1:IntKind.i64.wrap (1048576-(a:Int))=1048576-(a:Int):=aF _ (by omega) (by omega)
  by_cases h2:1048576<a+b
  ·have e2:(1048576-(a:Int)<(b:Int))=True:=by simp;omega
   go_wp2;go_ret
   exact⟨by unfold LI;simp[h2],rfl⟩
  ·have e2:(1048576-(a:Int)<(b:Int))=False:=by simp;omega
   go_wp2;go_ret
   exact⟨by unfold LI;simp[h,h2],rfl⟩
open Go.ChangeShapes Go.WideShapes Go.ChangeAt Go.RowKit
theorem open_bytes {H:Type} {enc:TypeId×Value->H} {W:World} {r:Reach} {b0:Nat} {v:Value} {d:DataW H} {p:List MemPlace}
  (hv:Value.okWide Tryz.prog W r b0 22 v) (h:DataW.Trod enc Tryz.prog W 0 (fun _=>true) true 22 v d p):∃L,OM W v L:=by
 obtain⟨a0,adm,abg,rfl⟩:=okWide_slice Tryz.underlying22 hv;obtain⟨jr,hf⟩:=h;rcases open_ints Tryz.underlying22 Tryz.underlying5 (by kernel_rfl) hf with⟨lT,_⟩ | ⟨x,l,c,zs,lT,_,hl,hm,hz,_,fj,NO⟩
 ·simp[Value.cells]at lT
  obtain⟨rfl,rfl,rfl⟩:=lT
  exact⟨0,none,0,rfl,Nat.le_refl _,by unfold maxLen;omega,fun k hk=>by omega⟩
 ·simp[Value.cells]at lT
  obtain⟨rfl,rfl,rfl⟩:=lT;have hz':zs.length=abg:=by simpa using hz
  refine⟨adm,some x,abg,rfl,hl,hm,fun k hk=>?_⟩
  have nY:k<zs.length:=by omega
  have hc:=fj k nY
  have hb:=bounds_u8 (NO (zs.getD k 0) (by rw[zDd,List.getElem?_eq_getElem nY];exact List.getElem_mem nY))
  have h0:=fj 0 (by omega);obtain⟨bl,off,adn⟩:=x
  cases adn with
  | none=>
   refine⟨bl,off,zs.getD k 0,rfl,?_,hb.1,by omega⟩
   by_cases ID:k=0
   ·subst ID;simpa[Addr.add]using hc
   ·simpa[Addr.add,ID]using hc
  | some q=>simp[World.cell?,Addr.add]at h0;split at h0 <;> simp at h0
end Go.Proofs.YtgmdpppljkmabaaGreat
