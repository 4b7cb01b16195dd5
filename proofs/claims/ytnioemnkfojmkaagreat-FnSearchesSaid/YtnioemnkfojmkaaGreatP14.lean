/- Parts of the proof: walks of functions and plain laws. -/
import Derived.Test.YtnioemnkfojmkaaGreatP0
import Derived.Test.YtnioemnkfojmkaaGreatP1
import Derived.Test.YtnioemnkfojmkaaGreatP13
set_option maxRecDepth 100000
set_option maxHeartbeats 16000000
namespace Go.Proofs.YtnioemnkfojmkaaGreat
open Go Go.RowKit
def Xm (w:World) (n:aw) (e:Ending) (w':World):Prop:=∃N,jD n N/\Nw N/\qu w N e w'
theorem C0 (ve vi vn vp:Value) (n:aw) (v:Nat) (xs:List Int) (w:World) (h:aU w ve vi vn n) (hv:v<n.ends.length) (hn:qP n) (OL:Nw n) (hp:bO w vp xs) (z8:xs.length=(be n v).length) (da:lT (be n v).length xs):
  Calls Tryz.prog 174 #[.agg #[ve,vi,vn],.int .i64 v,vp] w (Xm w n):=by
 obtain⟨xv,gb⟩:∃x,x=be n v:=⟨_,rfl⟩
 rw[<- gb]at z8 da;have qS:=bK hv;rw[<- gb]at qS;have cB:=zh da;have mo:=zh z8;have SN:=zh qS;have Gl:=zh hn;have Hwf:=zh OL;have mw:Hid (xv.length<=1000):=hn.row _ _ qS;clear hn OL qS gb z8 da;obtain⟨AP,cP,rfl,hlP,hmP,-⟩:=id hp
 obtain⟨w0,A,c,A2,c2,A3,c3,rfl,rfl,rfl,f_,hm,fq,fF,HA,cS,bQ,H,gP,ig,ii⟩:=zB h;clear h
 obtain⟨wa,iY⟩:∃wa,wa=w0.alloc (.cells #[.slice none 0 0,.slice none 0 0,.slice none 0 0] 30):=⟨_,rfl⟩
 have ju:aa w0 wa:=by rw[iY];exact ae _ (ad _)
 have ll:w0.heap.size=w.heap.size+1:=by rw[cS.out];simp
 have tL:Hid (wa.heap.size=w.heap.size+1+1):=by show _=_;rw[iY,<- ll];simp
 have uq:Hid (∀X,aa wa X->bA X (w.heap.size+1) (.slice none 0 0) (.slice none 0 0) (.slice none 0 0)):=fun X hX=>by
  refine bA.since (W:=wa) ?_ hX;rw[iY,<- ll];show(w0.heap.push _)[w0.heap.size]?=_
  rw[Array.getElem?_push_size]
 have HP:=zh (show ∀X,aa wa X->bO X (.slice AP xs.length cP) xs from fun X hX=>(hp.ac2 bQ.out).ac2 (ju.after hX).below)
 have HN:=zh (show ∀X,aa wa X->aU X (.slice A n.ends.length c) (.slice A2 n.ids.length c2) (.slice A3 n.ac1.length c3) n from fun X hX=>H.out.ac2 (ju.after hX).below)
 have Ge:=aj gP ju;have Gf:=aj ig ju;have EF:=aj ii ju;have Al:=zh iY;have mA:=zh ju;have fE:Hid (Below w.heap.size w wa):=Below.trans bQ.out (ju.below.mono bQ.out.size);clear iY ju ll gP ig ii hp
 go_enter Tryz.func174,Tryz.ntmps174
 go_upto_region 1 with(fail);rw[<- cS.out,<- Al.out];have hs:aa wa wa:=ad _;go_wp2_with fail;refine(kF _ _ _ n wa (HN.out _ hs) Gl.out.ends Gl.out.row Gl.out.sz).mono ?_;rintro e w1 ⟨we,wi,wn,S,rfl,ho,aX⟩;obtain⟨A1,c1,rfl,-,-,-⟩:=id ho.read.1;obtain⟨AI,cI,rfl,-,-,-⟩:=id ho.read.2.1;obtain⟨AN,cN,rfl,-,-,-⟩:=id ho.read.2.2;obtain⟨g,rfl,-⟩:=ho.head (by omega);have dw:aa wa w1:=hs.trans aX;obtain⟨w2,eH⟩:∃z,z=w1.alloc (.cells #[.slice (some ⟨g,0,none⟩) n.ends.length c1,.slice AI n.ids.length cI,.slice AN n.ac1.length cN] 30):=⟨_,rfl⟩
 obtain⟨bo,jx⟩:∃z,z=w1.heap.size:=⟨_,rfl⟩
 have ko:aa w1 w2:=by rw[eH];exact ae _ (ad _)
 have zt:Cp wa w2 bo g c1 n.ends.length (.slice AI n.ids.length cI) (.slice AN n.ac1.length cN) n S:=by
  refine⟨ho.ac2 ko.below,by rw[eH,jx];exact aZ.new _ _ _ _ _,fun hj=>by have:=(ho.range _ hj).2;omega,dw.after ko⟩
 have Hcp:=zh zt;have py:=zh eH;have rL:=zh jx;have dZ:=dw.after ko
 have CU:Hid (wa.heap.size<=bo/\bo<w2.heap.size):=⟨by rw[jx];exact dw.below.size,by rw[eH,jx];simp⟩
 have HSr:Hid (∀j∈S,wa.heap.size<=j/\j<w2.heap.size):=zt.own.range;obtain⟨br,Sw,cr0,ur,hA0,-,hrc,hEr⟩:=kd (HN.out wa (ad _)).es SN.out;cases hA0;obtain⟨A9,y9,rfl,dP,eO,Xn⟩:=hEr;unfold maxLen at eO;have HA9:=zh Xn;have r0:=aj (ab hrc) dZ;have Nj:=aj Ge dZ;have m01:=aj Gf dZ;have m02:=aj EF dZ;have dj:=zt.box.cells.1;clear Xn hrc zt jx eH ho dw ko aX hs Ge Gf EF;go_upto_region 2 with(fail);rw[<- py.out,<- rL.out];have gn:=zh dZ;clear dZ dj;have Vl:=r0 w2 (ad _);have m0':=Nj w2 (ad _);clear r0 Nj m01 m02;go_wp2;clear Vl m0'
 go_loopw [18] (fun i wr=>∃(k:Nat) (N:aw),k<=xv.length/\i=.int .i64 k/\Cp wa wr bo g c1 n.ends.length (.slice AI n.ids.length cI) (.slice AN n.ac1.length cN) N S/\jD n N/\oH n N) (fun i _=>xv.length-(intOf i).toNat)
 case atStart=>exact⟨0,n,Nat.zero_le _,rfl,Hcp.out,jD.refl _,Hwf.out⟩
 case round=>
  obtain⟨k,N,hk,rfl,zt,eJ,Oe⟩:=hrel;have aaT:=zh zt;have fU:=zh eJ;have Of:=zh Oe;have mY:=zh zt.since;clear eJ Oe
  by_cases aH:k<xv.length
  ·obtain⟨e,he⟩:=ay xv k aH;obtain⟨a,b,fs,rfl,Vm,sS⟩:=Hwf.out v xv SN.out e (List.mem_of_getElem? he);obtain⟨b9,o9,rfl,x9,sq⟩:=HA9.out k _ he;have s1:=ab x9 wr mY.out;have s2:=ab sq wr mY.out
   obtain⟨p,hp⟩:=ay xs k (by rw[mo.out];exact aH)
   obtain⟨AP',cP',zk,-,-,hP⟩:=HP.out wr mY.out;simp only[Value.slice.injEq]at zk;obtain⟨rfl,-,rfl⟩:=zk;obtain⟨bp,op,rfl,iM⟩:=hP k p hp;obtain⟨hp0,lC⟩:=cB.out p (List.mem_of_getElem? hp);obtain⟨pn,rfl⟩:∃pn:Nat,p=(pn:Int):=⟨p.toNat,by omega⟩
   have hpn:pn<xv.length:=by omega
   have m4:IntKind.i64.wrap ((k:Int)+1)=(k:Int)+1:=aE _ (by omega) (by omega);obtain⟨w3,gZ⟩:∃z,z=wr.alloc (.cells #[.int .i64 (a:Int),.int .i64 (b:Int)] 104):=⟨_,rfl⟩
   obtain⟨eb,qC⟩:∃z,z=wr.heap.size:=⟨_,rfl⟩
   have h3:aa wr w3:=by rw[gZ];exact ae _ (ad _)
   have Vn:cC w3 eb #[.int .i64 (a:Int),.int .i64 (b:Int)]:=by rw[gZ,qC];exact cC.new _ _ _
   have HE3:=zh Vn
   have OM:Hid (eb∉S):=fun hj=>by have:=(zt.own.range _ hj).2;omega
   have aaU:Hid (eb≠bo):=fun e=>by have:=zt.box.lt;omega
   have aaV:Hid (wa.heap.size<=eb):=by show _<=_;rw[qC];exact zt.since.below.size
   have SO:=zh (zt.ac2 h3);have t1:=(Vn.cell 0 _ rfl).1;have t2:=(Vn.cell 1 _ rfl).1;have f2:=(Vn.cell 1 _ rfl).2;have pc3:=bc h3.below iM;have wO:=zh gZ;have Xo:=zh qC;have Hp:=zh hp;have La:=zh Vm;have Hx:=zh Vn;have H3:=zh h3;clear zt he x9 sq hp0 lC hp iM hP gZ qC Vn h3 Vm;go_upto_region 5 with(fail);rw[<- wO.out,<- Xo.out];clear s1 s2
   by_cases hav:a=v
   ·subst hav
    obtain rfl:fs=xv:=by have h1:=La.out;rw[SN.out]at h1;cases h1;rfl
    obtain⟨q,hq⟩:=ay xs b (by rw[mo.out];exact sS)
    obtain⟨AP',cP',zk,-,-,hP⟩:=HP.out w3 (mY.out.after H3.out);simp only[Value.slice.injEq]at zk;obtain⟨zk,-,rfl⟩:=zk;obtain⟨bp',op',Xp,hqc⟩:=hP b q hq
    obtain⟨rfl,rfl⟩:bp=bp'/\op=op':=by rw[Xp]at zk;simpa using zk
    obtain⟨kX,iT⟩:=cB.out q (List.mem_of_getElem? hq);have Lb:Hid (CZ n ((a:Int),q)):=⟨a,q.toNat,fs,by rw[Int.toNat_of_nonneg kX],SN.out,by omega⟩
    clear zk Xp hP hq kX iT;have htt:((a:Int)=(a:Int))=True:=by simp
    have aco:b<xs.length:=by rw[mo.out];exact sS
    go_upto_region 8 with(fail);obtain⟨w4,mu⟩:∃z,z=w3.setCell ⟨eb,1,none⟩ (.int .i64 q):=⟨_,rfl⟩
    rw[<- mu]
    have SQ:cC w4 eb #[.int .i64 (a:Int),.int .i64 q]:=by rw[mu];exact oD Hx.out 1 _
    have Fa:Hid (Cp wa w4 bo g c1 n.ends.length (.slice AI n.ids.length cI) (.slice AN n.ac1.length cN) N S):=by show Cp _ _ _ _ _ _ _ _ _ _;rw[mu];exact SO.out.put (p:=⟨eb,1,none⟩) aaV.out OM.out aaU.out _
    clear pc3 t1 t2 f2 hqc htt mu;have Lc:=zh Fa.out.since;obtain⟨gv,Ch,aaW⟩:=fU.out.row a fs SN.out;obtain⟨gr,cr,jn,n1',n2',Vo,n4',n5',Xq,Xr,⟨z0',EH⟩,⟨P_,Ld⟩,j8⟩:=Fa.out.port (j:=pn) Ch (by omega);have j8:=j8 ((a:Int),(q:Int));have ON:=zh j8;have Xs:=zh Ch;have Nk:pn<gv.length:=by omega
    have Xt:gr≠eb:=fun e=>OM.out (e ▸ Vo)
    clear j8 Ch;have t0:=ab Fa.out.box.cells.1;have t4:=ab jn;have SS:=ab (SQ.cell 0 _ rfl).1;have SU:=ab (SQ.cell 1 _ rfl).1;obtain⟨AP5,cP5,II,-,-,Xu⟩:=HP.out w4 Lc.out;simp only[Value.slice.injEq]at II;obtain⟨II,-,rfl⟩:=II;obtain⟨bp5,op5,Cz,Le⟩:=Xu k _ Hp.out
    obtain⟨rfl,rfl⟩:bp=bp5/\op=op5:=by rw[Cz]at II;simpa using II
    have Xv:=ab Le
    have hkx:k<xs.length:=by rw[mo.out];exact aH
    clear II Cz Xu Le SQ;refine el (w0:=w4) 11 [false,false,false,false,false,false,false,false,false,false,false] (by kernel_rfl) (by kernel_rfl) (ad _) ?_;simp only[ek,dD,zT]
    iterate 11 (apply ei rfl;(intro W hW;go_simp;with_reducible rfl);simp only[zA])
    simp only[ly,bj];obtain⟨W,cA⟩:∃W,W=World.drew w4:=⟨_,rfl⟩
    rw[<- cA]
    have hW:aa w4 W:=by rw[cA];exact ag (ad _)
    go_upto_region 9 with(fail);obtain⟨w5,yr⟩:∃X,X=World.drew ((w4.setCell ⟨gr,pn*2,none⟩ (.int .i64 (a:Int))).setCell ⟨gr,pn*2+1,none⟩ (.int .i64 (q:Int))):=⟨_,rfl⟩
    rw[<- yr]
    have SV:Hid (Cp wa w5 bo g c1 n.ends.length (.slice AI n.ids.length cI) (.slice AN n.ac1.length cN) ({ N with ends:=N.ends.set a (gv.set pn ((a:Int),(q:Int))) }:aw) S):=by show Cp _ _ _ _ _ _ _ _ _ _;rw[yr];exact ON.out.ac2 (ag (ad _))
    have SW:=zh (fU.out.put (j:=pn) Xs.out ((a:Int),(q:Int)));have SX:=zh (Of.out.put (j:=pn) Xs.out Lb.out);clear yr ON jn EH Ld Xq Xr t0 t4 SS SU Xv;go_wp2;go_roundw
    case rel=>exact⟨k+1,_,by omega,by first | rfl | go_num,SV.out,SW.out,SX.out⟩
    case measure=>simp[intOf];omega
   ·have yJ:((a:Int)=(v:Int))=False:=by simp;omega
    obtain⟨ga,hga,acp⟩:=fU.out.row a fs La.out;obtain⟨gr,cr,jn,n1',n2',Vo,n4',n5',Xq,Xr,⟨z0',EH⟩,⟨P_,Ld⟩,j8⟩:=SO.out.port (j:=b) hga (by omega);have Lb:Hid (CZ n ((v:Int),(pn:Int))):=⟨v,pn,xv,rfl,SN.out,hpn⟩;have j8:=j8 ((v:Int),(pn:Int));have ON:=zh j8;have Hga:=zh hga;have Nk:b<ga.length:=by omega
    have Xt:gr≠eb:=fun e=>OM.out (e ▸ Vo)
    have Oe:a<n.ends.length:=al La.out
    have acq:k<xs.length:=by rw[mo.out];exact aH
    clear j8 hga;go_upto_region 7 with(fail);clear yJ;have t0:=ab SO.out.box.cells.1;have t4:=ab jn;have SS:=ab t1;have SU:=ab t2;have Xv:=ab pc3;clear t1 t2 pc3;refine el (w0:=w3) 15 [false,false,false,false,false,false,false,false,false,false,false,false,false,false,false] (by kernel_rfl) (by kernel_rfl) (ad _) ?_;simp only[ek,dD,zT]
    iterate 15 (apply ei rfl;(intro W hW;go_simp;with_reducible rfl);simp only[zA])
    simp only[ly,bj];obtain⟨W,cA⟩:∃W,W=World.drew w3:=⟨_,rfl⟩
    rw[<- cA]
    have hW:aa w3 W:=by rw[cA];exact ag (ad _)
    go_upto_region 8 with(fail);obtain⟨w4,mu⟩:∃X,X=World.drew ((w3.setCell ⟨gr,b*2,none⟩ (.int .i64 (v:Int))).setCell ⟨gr,b*2+1,none⟩ (.int .i64 (pn:Int))):=⟨_,rfl⟩
    rw[<- mu]
    have Lf:Hid (Cp wa w4 bo g c1 n.ends.length (.slice AI n.ids.length cI) (.slice AN n.ac1.length cN) ({ N with ends:=N.ends.set a (ga.set b ((v:Int),(pn:Int))) }:aw) S):=by show Cp _ _ _ _ _ _ _ _ _ _;rw[mu];exact ON.out.ac2 (ag (ad _))
    have SQ:cC w4 eb #[.int .i64 (a:Int),.int .i64 (b:Int)]:=by rw[mu];exact(Hx.out.set (p:=⟨gr,b*2,none⟩) Xt).set (p:=⟨gr,b*2+1,none⟩) Xt
    have Lg:=zh (fU.out.put (j:=b) Hga.out ((v:Int),(pn:Int)));have QB:=zh (Of.out.put (j:=b) Hga.out Lb.out);obtain⟨N4,hN4⟩:∃z,z=({ N with ends:=N.ends.set a (ga.set b ((v:Int),(pn:Int))) }:aw):=⟨_,rfl⟩
    rw[<- hN4]at Lf Lg QB;have Fa:=Lf;clear mu ON jn EH Ld Xq Xr t0 t4 SS SU Xv n1' n2' Vo n4' n5' Xt f2 hN4 Lf;have Xw:Hid (CZ n ((a:Int),(b:Int))):=⟨a,b,fs,rfl,La.out,sS⟩;clear Lb;have Lb:=Xw;clear Xw;have Lc:=zh Fa.out.since;obtain⟨gv,Ch,aaW⟩:=Lg.out.row v xv SN.out;obtain⟨gr,cr,jn,n1',n2',Vo,n4',n5',Xq,Xr,⟨z0',EH⟩,⟨P_,Ld⟩,j8⟩:=Fa.out.port (j:=pn) Ch (by omega);have j8:=j8 ((a:Int),(b:Int));have ON:=zh j8;have Xs:=zh Ch;have Nk:pn<gv.length:=by omega
    have Xt:gr≠eb:=fun e=>OM.out (e ▸ Vo)
    clear j8 Ch;have t0:=ab Fa.out.box.cells.1;have t4:=ab jn;have SS:=ab (SQ.cell 0 _ rfl).1;have SU:=ab (SQ.cell 1 _ rfl).1;obtain⟨AP5,cP5,II,-,-,Xu⟩:=HP.out w4 Lc.out;simp only[Value.slice.injEq]at II;obtain⟨II,-,rfl⟩:=II;obtain⟨bp5,op5,Cz,Le⟩:=Xu k _ Hp.out
    obtain⟨rfl,rfl⟩:bp=bp5/\op=op5:=by rw[Cz]at II;simpa using II
    have Xv:=ab Le
    have hkx:k<xs.length:=by rw[mo.out];exact aH
    clear II Cz Xu Le SQ;refine el (w0:=w4) 11 [false,false,false,false,false,false,false,false,false,false,false] (by kernel_rfl) (by kernel_rfl) (ad _) ?_;simp only[ek,dD,zT]
    iterate 11 (apply ei rfl;(intro W hW;go_simp;with_reducible rfl);simp only[zA])
    simp only[ly,bj];obtain⟨W,cA⟩:∃W,W=World.drew w4:=⟨_,rfl⟩
    rw[<- cA]
    have hW:aa w4 W:=by rw[cA];exact ag (ad _)
    go_upto_region 9 with(fail);obtain⟨w5,yr⟩:∃X,X=World.drew ((w4.setCell ⟨gr,pn*2,none⟩ (.int .i64 (a:Int))).setCell ⟨gr,pn*2+1,none⟩ (.int .i64 (b:Int))):=⟨_,rfl⟩
    rw[<- yr]
    have SV:Hid (Cp wa w5 bo g c1 n.ends.length (.slice AI n.ids.length cI) (.slice AN n.ac1.length cN) ({ N4 with ends:=N4.ends.set v (gv.set pn ((a:Int),(b:Int))) }:aw) S):=by show Cp _ _ _ _ _ _ _ _ _ _;rw[yr];exact ON.out.ac2 (ag (ad _))
    have SW:=zh (Lg.out.put (j:=pn) Xs.out ((a:Int),(b:Int)));have SX:=zh (QB.out.put (j:=pn) Xs.out Lb.out);clear yr ON jn EH Ld Xq Xr t0 t4 SS SU Xv;go_wp2;go_roundw
    case rel=>exact⟨k+1,_,by omega,by first | rfl | go_num,SV.out,SW.out,SX.out⟩
    case measure=>simp[intOf];omega
  ·obtain rfl:k=xv.length:=by omega
   have eK:=uq.out wr mY.out;obtain⟨d0,d1,d2,-,-,-⟩:=aaT.out.box.cells;obtain⟨e0,e1,e2,f0,f1,f2⟩:=eK.box.cells;have Hc:=zh zt;clear eK zt;go_wp2;refine bodyPost_ret (v:=.agg #[.slice (some ⟨g,0,none⟩) n.ends.length c1,.slice AI n.ids.length cI,.slice AN n.ac1.length cN]) (by simp[results,Tryz.results174,go_sem, *]) rfl ?_;have Nv:=tL.out;refine⟨N,fU.out,Of.out.wf fU.out,_,_,_,S,rfl,((Hc.out.own.ac4 (fun j hj=>?_)).mono (show w.heap.size<=wa.heap.size by omega)),?_⟩
   ·have tB:=(Hc.out.own.range j hj).1;rw[Below.heap_setCell _ _ _ j (by simp;omega),Below.heap_setCell _ _ _ j (by simp;omega),Below.heap_setCell _ _ _ j (by simp;omega)]
   ·have nP:Below w.heap.size w wr:=Below.trans fE.out (mY.out.below.mono (by omega));exact((nP.setCell (by simp) _).setCell (by simp) _).setCell (by simp) _
structure Jv (n N:aw):Prop where
 ids:N.ids.length=n.ids.length
 ac1:N.ac1.length=n.ac1.length
 len:N.ends.length=n.ends.length
 row:∀(k:Nat) (es:List (Int×Int)),n.ends[k]?=some es->∃fs,N.ends[k]?=some fs/\fs.length=es.length
theorem jD.shp {n N:aw} (h:jD n N):Jv n N:=⟨by rw[h.ids],by rw[h.ac1],h.len,h.row⟩
theorem Jv.refl (n:aw):Jv n n:=(jD.refl n).shp
theorem Jv.trans {a b c:aw} (h:Jv a b) (h':Jv b c):Jv a c:=⟨h'.ids.trans h.ids,h'.ac1.trans h.ac1,h'.len.trans h.len,fun k es he=>by
 obtain⟨fs,h1,h2⟩:=h.row k es he;obtain⟨gs,h3,h4⟩:=h'.row k fs h1
 exact⟨gs,h3,by omega⟩⟩
structure Gd (R M:Nat) (n:aw):Prop where
 ends:n.ends.length<=M
 row:∀(k:Nat) (es:List (Int×Int)),n.ends[k]?=some es->es.length<=R
 ids:n.ids.length<=M
 ac1:n.ac1.length=n.ends.length
 wf:Nw n
theorem Lh {l:List (List (Int×Int))} {R:Nat} (h:∀es∈l,es.length<=R):qf l<=2*R*l.length:=by
 induction l with
 | nil=>simp[qf]
 | cons a l ih=>
  have h1:=ih (fun es he=>h es (List.mem_cons_of_mem _ he))
  have h2:=h a (by simp);simp only[qf,List.length_cons];have h3:2*R*(l.length+1)=2*R*l.length+2*R:=by rw[Nat.mul_add,Nat.mul_one]
  omega
theorem Gm (l:List (List (Int×Int))):NO l<=l.length+qf l:=by
 unfold NO
 have:lL l<=qf l:=by
  induction l with
  | nil=>simp[lL,qf]
  | cons a r ih=>simp only[qf,lL,List.map_cons,List.sum_cons]at *;omega
 omega
theorem Gd.small {R M:Nat} {n:aw} (h:Gd R M n) (hR:R<=100) (hM:M<=100):qP n:=by
 refine⟨by have:=h.ends;omega,fun k es he=>by have:=h.row k es he;omega,?_⟩
 have h1:qf n.ends<=2*R*n.ends.length:=Lh (fun es he=>by
  obtain⟨k,hk⟩:=List.getElem?_of_mem he
  exact h.row k es hk)
 have h2:=Gm n.ends
 have h3:2*R*n.ends.length<=2*100*100:=Nat.mul_le_mul (by omega) (by have:=h.ends;omega)
 have:=h.ends
 have:=h.ids
 have:=h.ac1
 unfold gO;omega
theorem Gd.sh {R M:Nat} {n N:aw} (h:Gd R M n) (hs:Jv n N) (hw:Nw N):Gd R M N:=by
 refine⟨by rw[hs.len];exact h.ends,fun k fs hf=>?_,by rw[hs.ids];exact h.ids,by rw[hs.ac1,hs.len];exact h.ac1,hw⟩
 obtain⟨es,he⟩:=ay n.ends k (by have:=al hf;have:=hs.len;omega)
 obtain⟨gs,hg,hl⟩:=hs.row k es he;rw[hf]at hg;cases hg
 have:=h.row k es he
 omega
structure Mb (cb B pb:Nat) (A:Option Addr) (L c P:Nat) (w W:World) (ve vi vn:Value) (N:aw) (S:List Nat):Prop where
 own:au W B ve vi vn N S
 box:aZ W pb ve vi vn
 nb:pb∉S
 cur:bB W cb A L c P
 far:CB cb B w W
theorem aZ.blk {W W':World} {b:Nat} {x y z:Value} (h:aZ W b x y z) (hb:W'.heap[b]?=W.heap[b]?):aZ W' b x y z:=by
 obtain⟨r,hr⟩:=h;exact⟨r,hb.trans hr⟩
theorem Mb.seen {cb B pb:Nat} {A:Option Addr} {L c P P':Nat} {w W W':World} {ve vi vn:Value} {N:aw} {S:List Nat} (h:Mb cb B pb A L c P w W ve vi vn N S) (hs:aY cb W W') (xe:bB W' cb A L c P') (hb:cb<B) (hp:B<=pb) (hB:B<=W.heap.size):Mb cb B pb A L c P' w W' ve vi vn N S:=
 ⟨h.own.seen hs hb,h.box.blk (hs.block pb h.box.lt (by omega)),h.nb,xe,h.far.trans (CB.mono hs hB)⟩
theorem Mb.since {cb B pb:Nat} {A:Option Addr} {L c P:Nat} {w W W':World} {ve vi vn:Value} {N:aw} {S:List Nat} (h:Mb cb B pb A L c P w W ve vi vn N S) (hs:aa W W') (hb:cb<B) (hp:B<=pb) (hB:B<=W.heap.size):Mb cb B pb A L c P w W' ve vi vn N S:=h.seen (CB.of hs) (h.cur.since hs) hb hp hB
def ac5 (W:World) (b:Nat) (x y z:Value):World:=((W.setCell ⟨b,0,none⟩ x).setCell ⟨b,1,none⟩ y).setCell ⟨b,2,none⟩ z
theorem dV (W:World) (b:Nat) (x y z:Value):(ac5 W b x y z).heap.size=W.heap.size:=by simp[ac5,gt]
theorem co (W:World) (b:Nat) (x y z:Value) {j:Nat} (h:j≠b):(ac5 W b x y z).heap[j]?=W.heap[j]?:=by
 unfold ac5;rw[Below.heap_setCell _ _ _ j (by exact h),Below.heap_setCell _ _ _ j (by exact h),Below.heap_setCell _ _ _ j (by exact h)]
theorem aZ.ac5 {W:World} {b:Nat} {x y z:Value} (h:aZ W b x y z) (x' y' z':Value):aZ (ac5 W b x' y' z') b x' y' z':=by
 unfold Go.Proofs.YtnioemnkfojmkaaGreat.ac5;exact((h.adl).adr).adn
theorem Mb.assign {cb B pb:Nat} {A:Option Addr} {L c P P':Nat} {w W W1:World} {ve vi vn a b d:Value} {N N':aw} {S S':List Nat} {B':Nat} (h:Mb cb B pb A L c P w W ve vi vn N S) (hs:aY cb W W1) (xe:bB W1 cb A L c P') (ho:au W1 B' a b d N' S') (hB':pb<B') (hb:cb<B) (hp:B<=pb) (hB:B<=W.heap.size):
  Mb cb B pb A L c P' w (ac5 W1 pb a b d) a b d N' S':=by
 have hn:pb∉S':=fun hj=>by have:=(ho.range _ hj).1;omega
 refine⟨(ho.ac4 (fun k hk=>co W1 pb a b d (fun e=>hn (e ▸ hk)))).mono (by omega),(h.box.blk (hs.block pb h.box.lt (by omega))).ac5 _ _ _,hn,xe.ac2 (fun k hk=>co W1 pb a b d (by omega)),?_⟩
 exact(((h.far.trans (CB.mono hs hB)).setCell (p:=⟨pb,0,none⟩) (.inl hp) _).setCell (p:=⟨pb,1,none⟩) (.inl hp) _).setCell (p:=⟨pb,2,none⟩) (.inl hp) _
theorem au.adp {w:World} {base g c n:Nat} {ve vi:Value} {N:aw} {S:List Nat} (h:au w base ve vi (.slice (some ⟨g,0,none⟩) n c) N S) {k:Nat} (x:Int) (_:k<N.ac1.length):
  g∈S/\w.frozen? ⟨g,k,none⟩=false/\au (w.setCell ⟨g,k,none⟩ (.int .i64 x)) base ve vi (.slice (some ⟨g,0,none⟩) n c) { N with ac1:=N.ac1.set k x } S:=by
 obtain⟨S1,S2,S3,h1,h2,h3,h4,h5⟩:=h
 have hg:g∈S3:=by rw[h3.2];simp[Value.ownBlock]
 have rm:=h5;rw[h4,List.nodup_append,List.nodup_append]at h5;have d1:∀j∈S1,j≠g:=fun j hj e=>h5.2.2 j hj g (List.mem_append_right _ hg) e
 have d2:∀j∈S2,j≠g:=fun j hj e=>h5.2.1.2.2 j hj g hg e
 exact⟨by rw[h4];exact List.mem_append_right _ (List.mem_append_right _ hg),h3.1.free k,S1,S2,S3,kQ.ac4 h1 (fun j hj=>Below.heap_setCell _ _ _ _ (d1 j hj)),er.ac4 h2 (fun j hj=>Below.heap_setCell _ _ _ _ (d2 j hj)),⟨h3.1.set x,h3.2⟩,h4,rm⟩
def yt (cb B:Nat) (A:Option Addr) (L c P:Nat) (w:World) (T:aw->Prop) (e:Ending) (w':World):Prop:=
 ∃ve vi vn N S,e=.returned (.agg #[ve,vi,vn])/\au w' B ve vi vn N S/\T N/\bB w' cb A L c P/\CB cb B w w'
theorem au.adt {w:World} {base k c:Nat} {A:Option Addr} {ve vi:Value} {N:aw} {S:List Nat} (h:au w base ve vi (.slice A k c) N S) (h0:0<N.ac1.length):∃g,A=some ⟨g,0,none⟩:=by
 obtain⟨S1,S2,S3,_,_,h3,_⟩:=h;rcases h3.1.cases with⟨-,h2⟩ | ⟨g,c',hv,_⟩
 ·rw[h2]at h0;simp at h0
 ·cases hv;exact⟨g,rfl⟩
theorem au.adu {w:World} {base g k c j:Nat} {ve vi:Value} {N:aw} {S:List Nat} (h:au w base ve vi (.slice (some ⟨g,0,none⟩) k c) N S) (hj:j<N.ac1.length):∃z,w.cell? ⟨g,j,none⟩=some z:=by
 obtain⟨S1,S2,S3,_,_,h3,_⟩:=h;obtain⟨x,hx⟩:=ay N.ac1 j hj;exact⟨_,h3.1.cell hx⟩
theorem rW (cb:Nat) (A:Option Addr) (L c P B R M:Nat) (ve vi vn:Value) (n:aw) (S:List Nat) (w:World) (hc:bB w cb A L c P) (hP:P<=4611686018426000000) (h:au w B ve vi vn n S) (ia:cb<B) (zd:B<=w.heap.size) (hg:Gd R M n) (hR:R<=100) (hM:M<=100) (xU:0<n.ends.length):
  Calls Tryz.prog 130 #[.pointer (some ⟨cb,0,none⟩),.agg #[ve,vi,vn]] w (yt cb B A L c (P+100000) w (fun N=>Jv n N/\Gd R M N)):=by
 obtain⟨A1,c1,rfl,-,vN,-⟩:=id h.read.1;obtain⟨AI,cI,rfl,-,-,-⟩:=id h.read.2.1;obtain⟨AN,cN,rfl,-,-,-⟩:=id h.read.2.2;obtain⟨pb,da⟩:∃z,z=w.heap.size:=⟨_,rfl⟩
 obtain⟨w0,ar⟩:∃z,z=w.alloc (.cells #[.slice A1 n.ends.length c1,.slice AI n.ids.length cI,.slice AN n.ac1.length cN] 30):=⟨_,rfl⟩
 obtain⟨wa,iY⟩:∃z,z=w0.alloc (.cells #[.slice none 0 0,.slice none 0 0,.slice none 0 0] 30):=⟨_,rfl⟩
 have bu:aa w w0:=by rw[ar];exact ae _ (ad _)
 have dw:aa w0 wa:=by rw[iY];exact ae _ (ad _)
 have ll:w0.heap.size=w.heap.size+1:=by rw[ar];simp
 have bG:aZ w0 pb (.slice A1 n.ends.length c1) (.slice AI n.ids.length cI) (.slice AN n.ac1.length cN):=by rw[ar,da];exact aZ.new _ _ _ _ _
 have fG:bA wa (w.heap.size+1) (.slice none 0 0) (.slice none 0 0) (.slice none 0 0):=by
  rw[iY,<- ll];show(w0.heap.push _)[w0.heap.size]?=_
  rw[Array.getElem?_push_size]
 have uJ:aa w wa:=bu.after dw
 have qm:Mb cb B pb A L c P w wa (.slice A1 n.ends.length c1) (.slice AI n.ids.length cI) (.slice AN n.ac1.length cN) n S:=
  ⟨h.ac2 uJ.below,bG.below dw (by rw[ll,da];omega),fun hj=>by have:=(h.range _ hj).2;omega,hc.since uJ,CB.mono (CB.of uJ) zd⟩
 have cB:Hid (B<=pb/\pb+2=wa.heap.size/\pb=w.heap.size):=⟨by omega,by rw[da,iY];simp;omega,da⟩
 have HSp:Hid (∀j∈S,j<pb):=fun j hj=>by have:=(h.range j hj).2;omega
 have eY:=zh fG;have tT:=zh qm;have Hg:=zh hg;have cS:=zh ar;have Al:=zh iY;have dj:=qm.box.cells
 have SY:n.ends.length<=100:=by have:=hg.ends;omega
 clear hc h bu dw bG fG uJ qm hg ar iY da ll
 go_enter Tryz.func130,Tryz.ntmps130
 go_upto_region 1 with(fail);rw[<- cS.out,<- Al.out,<- cB.out.2.2];obtain⟨x0,x1,x2,-,-,-⟩:=dj;clear zd;go_wp2
 go_loopw [10] (fun i wr=>∃(k:Nat) (ve vi vn:Value) (N:aw) (S:List Nat),k<=n.ends.length/\i=.int .i64 k/\Mb cb B pb A L c (P+202*k) w wr ve vi vn N S/\Jv n N/\Gd R M N/\bA wr (pb+1) (.slice none 0 0) (.slice none 0 0) (.slice none 0 0)/\pb+1∉S/\wa.heap.size<=wr.heap.size) (fun i _=>n.ends.length-(intOf i).toNat)
 case atStart=>exact⟨0,_,_,_,n,S,Nat.zero_le _,rfl,by simpa using tT.out,Jv.refl _,Hg.out,by rw[cB.out.2.2];exact eY.out,fun hj=>by have:=HSp.out _ hj;omega,Nat.le_refl _⟩
 case round=>
  obtain⟨k,ve,vi,vn,N,S2,hk,rfl,hm,eJ,iz,fG,Gn,eR⟩:=hrel;clear x0 x1 x2;obtain⟨Bl,jn,rfl,-,OO,-⟩:=id hm.own.read.1;obtain⟨oI,oJ,rfl,-,-,-⟩:=id hm.own.read.2.1;obtain⟨tU,qZ,rfl,-,-,-⟩:=id hm.own.read.2.2;have kA:=eJ.len;obtain⟨g,rfl,-⟩:=hm.own.head (by omega);have Hm:=zh hm;have fU:=zh eJ;have nf:=zh iz;have OP:=zh fG;have Hrn:=zh Gn;have jw:=zh eR;have f8:=zh kA
  have HBr:Hid (B<=wr.heap.size):=by show _<=_;have:=cB.out;omega
  have hP2:=hm.cur;clear hm eJ iz fG Gn eR kA
  by_cases aH:k<n.ends.length
  ·have m4:IntKind.i64.wrap ((k:Int)+1)=(k:Int)+1:=aE _ (by omega) (by omega);have nt:=zh hP2;clear hP2;go_wp2_with fail;refine(lF cb A L c (P+202*k) 2 wr nt.out (by omega) (by omega)).mono ?_;rintro e w2 ⟨b,rfl,lU,pX⟩;have gK:=zh (Hm.out.seen pX lU ia cB.out.1 HBr.out)
   have IJ:Hid (bA w2 (pb+1) (.slice none 0 0) (.slice none 0 0) (.slice none 0 0)):=(pX.block _ OP.out.lt (by have:=cB.out;omega)).trans OP.out
   have kB:Hid (wa.heap.size<=w2.heap.size):=Nat.le_trans jw.out pX.size;have xf:=zh lU;clear lU pX;cases b
   ·go_wp2;go_roundw
    case rel=>exact⟨k+1,_,_,_,N,S2,by omega,by first | rfl | go_num,⟨gK.out.own,gK.out.box,gK.out.nb,xf.out.mono (by omega),gK.out.far⟩,fU.out,nf.out,IJ.out,Hrn.out,kB.out⟩
    case measure=>simp[intOf];omega
   ·obtain⟨xv,gb⟩:∃z,z=be N k:=⟨_,rfl⟩
    have qS:=bK (n:=N) (v:=k) (by have:=f8.out;omega)
    rw[<- gb]at qS;have lq:=zh gb
    have mw:Hid (xv.length<=100):=by show _<=_;have:=nf.out.row _ _ qS;omega
    obtain⟨u,T,hu,-,hR,-,-,uI⟩:=gK.out.own.ac_ qS;obtain⟨AU,cU,rfl,-,-,-⟩:=id hR.read
    have Gp:g≠cb:=fun e=>by have:=(gK.out.own.range g uI).1;omega
    have iM:pb≠cb:=by have:=cB.out;omega
    have Hxv:=zh qS;obtain⟨b0,b1,b2,-,-,-⟩:=gK.out.box.cells;have rP:=zh (And.intro b0 (And.intro b1 (And.intro b2 hu)))
    have HkN:Hid (k<N.ends.length):=by show _<_;have:=f8.out;omega
    clear gb qS hR uI b0 b1 b2 hu;go_upto_region 5 with(fail);have hkN:=HkN.out;refine av (fun W=>W.cell? ⟨pb,0,none⟩=some (.slice (some ⟨g,0,none⟩) N.ends.length jn)/\W.cell? ⟨pb,1,none⟩=some (.slice oI N.ids.length oJ)/\W.cell? ⟨pb,2,none⟩=some (.slice tU N.ac1.length qZ)/\W.cell? ⟨g,k,none⟩=some (.slice AU xv.length cU)) 11 [false,false,false,false,false,false,false,false,false,true,true] (by kernel_rfl) (by kernel_rfl) (show(World.drew w2).cell? ⟨pb,0,none⟩=some (.slice (some ⟨g,0,none⟩) N.ends.length jn)/\(World.drew w2).cell? ⟨pb,1,none⟩=some (.slice oI N.ids.length oJ)/\(World.drew w2).cell? ⟨pb,2,none⟩=some (.slice tU N.ac1.length qZ)/\(World.drew w2).cell? ⟨g,k,none⟩=some (.slice AU xv.length cU)from rP.out) ?_
    simp only[ek,dD,zT]
    iterate 9 (apply bh rfl;(intro W hW;(obtain⟨k0,k1,k2,k3⟩:=hW);go_simp;with_reducible rfl);simp only[zA])
    obtain⟨W,cA⟩:∃W,W=World.drew w2:=⟨_,rfl⟩
    rw[<- cA];have hW:=(show(World.drew w2).cell? ⟨pb,0,none⟩=some (.slice (some ⟨g,0,none⟩) N.ends.length jn)/\(World.drew w2).cell? ⟨pb,1,none⟩=some (.slice oI N.ids.length oJ)/\(World.drew w2).cell? ⟨pb,2,none⟩=some (.slice tU N.ac1.length qZ)/\(World.drew w2).cell? ⟨g,k,none⟩=some (.slice AU xv.length cU)from rP.out);rw[<- cA]at hW;have eU:=zh cA;clear cA;refine Or.inl ⟨rfl,?_⟩
    go_simp
    (with_reducible refine(EX cb A L c (P+202*k+2) xv.length W (by rw[eU.out];exact xf.out.since (ag (ad _))) (by omega) mw.out).mono ?_)
    rintro e W' ⟨gp,xs,rfl,qc,da,df,hC⟩;refine⟨_,rfl,And.intro (aq hW.1 iM _ hC) (And.intro (aq hW.2.1 iM _ hC) (And.intro (aq hW.2.2.1 iM _ hC) (aq hW.2.2.2 Gp _ hC))),?_⟩
    replace hW:=And.intro (aq hW.1 iM _ hC) (And.intro (aq hW.2.1 iM _ hC) (And.intro (aq hW.2.2.1 iM _ hC) (aq hW.2.2.2 Gp _ hC)))
    have kh:aa w2 W:=(by rw[eU.out];exact ag (ad _))
    have pX:aY cb w2 W':=((aY.refl cb w2).after kh).trans hC;have IK:=zh qc;have HpB:=zh da;have i_:=zh df;have ux:=zh pX;clear qc da df hC pX kh;obtain⟨wp,rfl⟩:∃z,z=W':=⟨_,rfl⟩
    (try simp only[zA])
    refine Or.inl ⟨rfl,?_⟩
    go_simp
    (with_reducible refine(C0 _ _ _ _ N k xs _ (gK.out.own.seen ux.out ia).read HkN.out (nf.out.small hR hM) nf.out.wf IK.out.ints (by rw[<- lq.out];exact IK.out.len) (by rw[<- lq.out];exact HpB.out)).mono ?_)
    rintro e W' ⟨N2,dZ,eH,Nx,Ny,Nz,S3,rfl,dW,bJ⟩;refine⟨_,rfl,And.intro (bc bJ hW.1) (And.intro (bc bJ hW.2.1) (And.intro (bc bJ hW.2.2.1) (bc bJ hW.2.2.2))),?_⟩
    replace hW:=And.intro (bc bJ hW.1) (And.intro (bc bJ hW.2.1) (And.intro (bc bJ hW.2.2.1) (bc bJ hW.2.2.2)))
    skip
    (try simp only[zA])
    simp only[bj];obtain⟨D0,d0,rfl,-,-,-⟩:=id dW.read.1;obtain⟨D1,d1,rfl,-,-,-⟩:=id dW.read.2.1;obtain⟨D2,d2,rfl,-,-,-⟩:=id dW.read.2.2;have j_:aY cb w2 W':=ux.out.after bJ;have z8:pb<wp.heap.size:=Nat.lt_of_lt_of_le gK.out.box.lt ux.out.size
    have C1:=gK.out.assign j_ (i_.out.since bJ) dW z8 ia cB.out.1 (by have h1:=kB.out;have h2:=cB.out;omega)
    have vf:aZ W' pb (.slice (some ⟨g,0,none⟩) N.ends.length jn) (.slice oI N.ids.length oJ) (.slice tU N.ac1.length qZ):=gK.out.box.blk (j_.block pb gK.out.box.lt iM)
    have Xx:bA (ac5 W' pb (.slice D0 N2.ends.length d0) (.slice D1 N2.ids.length d1) (.slice D2 N2.ac1.length d2)) (pb+1) (.slice none 0 0) (.slice none 0 0) (.slice none 0 0):=(co W' pb _ _ _ (by omega)).trans ((j_.block _ IJ.out.lt (by have:=cB.out;omega)).trans IJ.out)
    have Xy:pb+1∉S3:=fun hj=>by have h1:=(dW.range _ hj).1;have h2:=ux.out.size;have h3:=kB.out;have h4:=cB.out;omega
    have oK:wa.heap.size<=(ac5 W' pb (.slice D0 N2.ends.length d0) (.slice D1 N2.ids.length d1) (.slice D2 N2.ac1.length d2)).heap.size:=by rw[dV];exact Nat.le_trans kB.out j_.size
    obtain⟨-,-,-,f0,f1,f2⟩:=vf.cells;obtain⟨k0,k1,k2,k3⟩:=hW;have nu:=zh C1;have aaX:=zh Xx;have aaY:=zh Xy;have xg:=zh oK;have gn:=zh (fU.out.trans dZ.shp);have Li:=zh (nf.out.sh dZ.shp eH);clear C1 vf Xx Xy oK j_ dW bJ dZ eH hkN z8;go_wp2;go_roundw
    case rel=>exact⟨k+1,_,_,_,N2,S3,by omega,by first | rfl | go_num,⟨nu.out.own,nu.out.box,nu.out.nb,nu.out.cur.mono (by omega),nu.out.far⟩,gn.out,Li.out,aaX.out,aaY.out,xg.out⟩
    case measure=>simp[intOf];omega
  ·obtain rfl:k=n.ends.length:=by omega
   have nt:=zh hP2;clear hP2;obtain⟨wo,rfl⟩:∃z,z=wr:=⟨_,rfl⟩
   go_wp2_with fail;refine(lF cb A L c (P+202*n.ends.length) 3 wo nt.out (by omega) (by omega)).mono ?_;rintro e w2 ⟨b,rfl,lU,pX⟩;have gK:=zh (Hm.out.seen pX lU ia cB.out.1 HBr.out)
   have IJ:Hid (bA w2 (pb+1) (.slice none 0 0) (.slice none 0 0) (.slice none 0 0)):=(pX.block _ OP.out.lt (by have:=cB.out;omega)).trans OP.out
   have kB:Hid (wa.heap.size<=w2.heap.size):=Nat.le_trans jw.out pX.size;clear lU pX;cases b
   ·have IL:=gK;have Hrz:=IJ;have Lj:=fU;have Xz:=nf;obtain⟨NZ,Vp⟩:∃z,z=N:=⟨_,rfl⟩
    rw[<- Vp]at Lj Xz
    have XA:Hid (Mb cb B pb A L c (P+202*n.ends.length+2) w w2 (.slice (some ⟨g,0,none⟩) N.ends.length jn) (.slice oI N.ids.length oJ) (.slice tU N.ac1.length qZ) NZ S2):=by rw[Vp];exact IL
    clear IL Vp;have IL:=XA;clear XA;have vf:=IL.out.box.cells;obtain⟨k0,k1,k2,-,-,-⟩:=vf;have Qr:=Hrz.out.box.cells;obtain⟨e0,e1,e2,f0,f1,f2⟩:=Qr;go_wp2;refine bodyPost_ret (v:=.agg #[.slice (some ⟨g,0,none⟩) N.ends.length jn,.slice oI N.ids.length oJ,.slice tU N.ac1.length qZ]) (by simp[results,Tryz.results130,go_sem, *]) rfl ?_;refine⟨_,_,_,NZ,S2,rfl,IL.out.own.ac4 (fun q hq=>?_),⟨Lj.out,Xz.out⟩,IL.out.cur.mono (by omega) |>.ac2 (fun q hq=>?_),?_⟩
    ·have iT:q≠pb+1:=fun e=>Hrn.out (e ▸ hq)
     rw[Below.heap_setCell _ _ _ q (by exact iT),Below.heap_setCell _ _ _ q (by exact iT),Below.heap_setCell _ _ _ q (by exact iT)]
    ·have iT:q≠pb+1:=by have:=cB.out;omega
     rw[Below.heap_setCell _ _ _ q (by exact iT),Below.heap_setCell _ _ _ q (by exact iT),Below.heap_setCell _ _ _ q (by exact iT)]
    ·have eA:B<=pb+1:=by have:=cB.out;omega
     exact((IL.out.far.setCell (p:=⟨pb+1,0,none⟩) (.inl eA) _).setCell (p:=⟨pb+1,1,none⟩) (.inl eA) _).setCell (p:=⟨pb+1,2,none⟩) (.inl eA) _
   ·have iM:pb≠cb:=by have:=cB.out;omega
    have vf:=gK.out.box.cells;have k2:=vf.2.2.1
    have ID:Hid (N.ac1.length<=100):=by show _<=_;have:=nf.out.ac1;have:=nf.out.ends;omega
    clear vf;go_upto_region 9 with(fail);clear k2;obtain⟨Q,hQ⟩:∃z,z=P+202*n.ends.length+2:=⟨_,rfl⟩
    have Gq:=zh hQ;rw[<- hQ]at gK;clear hQ
    go_loopw [32] (fun i wr=>∃(j:Nat) (ys:List Int),j<=N.ac1.length/\i=.int .i64 j/\ys.length=N.ac1.length/\Mb cb B pb A L c (Q+2*j) w wr (.slice (some ⟨g,0,none⟩) N.ends.length jn) (.slice oI N.ids.length oJ) (.slice tU N.ac1.length qZ) { N with ac1:=ys } S2/\bA wr (pb+1) (.slice none 0 0) (.slice none 0 0) (.slice none 0 0)/\wa.heap.size<=wr.heap.size) (fun i _=>N.ac1.length-(intOf i).toNat)
    case atStart=>exact⟨0,N.ac1,Nat.zero_le _,rfl,rfl,gK.out,IJ.out,kB.out⟩
    case round=>
     obtain⟨j,ys,hj,rfl,Fb,hm,fG,eR⟩:=hrel;have Vq:=zh hm;have SZ:=zh fG;have ud:=zh eR;have xh:=zh Fb;clear hm fG eR Fb
     have HBj:Hid (B<=wr.heap.size):=by show _<=_;have h1:=ud.out;have h2:=cB.out;omega
     by_cases yY:j<N.ac1.length
     ·obtain⟨gi,rfl⟩:=Vq.out.own.adt (by show 0<ys.length;have:=xh.out;omega)
      have k2:=Vq.out.box.cells.2.2.1;have IM:=zh k2
      have m5:IntKind.i64.wrap ((j:Int)+1)=(j:Int)+1:=aE _ (by omega) (by have:=ID.out;omega)
      clear k2;go_upto_region 11 with(fail);refine av (fun W=>W.cell? ⟨pb,2,none⟩=some (.slice (some ⟨gi,0,none⟩) N.ac1.length qZ)) 5 [false,false,false,false,true] (by kernel_rfl) (by kernel_rfl) (show(World.drew wr).cell? ⟨pb,2,none⟩=some (.slice (some ⟨gi,0,none⟩) N.ac1.length qZ)from IM.out) ?_
      simp only[ek,dD,zT]
      iterate 4 (apply bh rfl;(intro W hW;(have k2:=hW);go_simp;with_reducible rfl);simp only[zA])
      obtain⟨W,cA⟩:∃W,W=World.drew wr:=⟨_,rfl⟩
      rw[<- cA];have hW:=(show(World.drew wr).cell? ⟨pb,2,none⟩=some (.slice (some ⟨gi,0,none⟩) N.ac1.length qZ)from IM.out);rw[<- cA]at hW;have eU:=zh cA;clear cA;refine Or.inl ⟨rfl,?_⟩
      go_simp
      (with_reducible refine(db cb A L c (Q+2*j) 3 W (by rw[eU.out];exact Vq.out.cur.since (ag (ad _))) (by have:=Gq.out;have:=ID.out;omega) (by omega)).mono ?_)
      rintro e W' ⟨x,rfl,hx,df,hC⟩;refine⟨_,rfl,aq hW iM _ hC,?_⟩
      replace hW:=aq hW iM _ hC
      have kh:aa wr W:=(by rw[eU.out];exact ag (ad _))
      have mB:aY cb wr W':=((aY.refl cb wr).after kh).trans hC;have QC:=zh (Vq.out.seen mB df ia cB.out.1 HBj.out)
      have Hrw:Hid (bA W' (pb+1) (.slice none 0 0) (.slice none 0 0) (.slice none 0 0)):=(mB.block _ SZ.out.lt (by have:=cB.out;omega)).trans SZ.out
      have Lk:Hid (wa.heap.size<=W'.heap.size):=Nat.le_trans ud.out mB.size;clear hC df mB kh
      (try simp only[zA])
      simp only[bj]
      obtain⟨q1,q2,q3⟩:=QC.out.own.adp (k:=j) (x:Int) (by show j<ys.length;have:=xh.out;omega)
      obtain⟨z0,q4⟩:=QC.out.own.adu (j:=j) (by show j<ys.length;have:=xh.out;omega)
      have hgp:gi≠pb:=fun e=>QC.out.nb (e ▸ q1)
      have xO:gi≠pb+1:=fun e=>Hrn.out (e ▸ q1)
      have NA:=(QC.out.own.range gi q1).1
      have hmf:Mb cb B pb A L c (Q+2*(j+1)) w (W'.setCell ⟨gi,j,none⟩ (.int .i64 (x:Int))) (.slice (some ⟨g,0,none⟩) N.ends.length jn) (.slice oI N.ids.length oJ) (.slice (some ⟨gi,0,none⟩) N.ac1.length qZ) { N with ac1:=ys.set j (x:Int) } S2:=
       ⟨q3,QC.out.box.set hgp,QC.out.nb,(QC.out.cur.mono (by omega)).ac2 (fun q hq=>Below.heap_setCell _ _ _ _ (by show q≠gi;omega)),QC.out.far.setCell (p:=⟨gi,j,none⟩) (.inl NA) _⟩
      have Hmf:=zh hmf;have Hrf:Hid (bA (W'.setCell ⟨gi,j,none⟩ (.int .i64 (x:Int))) (pb+1) (.slice none 0 0) (.slice none 0 0) (.slice none 0 0)):=Hrw.out.other (Ne.symm xO)
      have Hsf:Hid (wa.heap.size<=(W'.setCell ⟨gi,j,none⟩ (.int .i64 (x:Int))).heap.size):=by show _<=_;rw[gt];exact Lk.out
      clear q1 q3 hgp xO NA hmf hx;go_wp2;go_roundw
      case rel=>exact⟨j+1,_,by omega,by first | rfl | go_num,by rw[List.length_set];exact xh.out,Hmf.out,Hrf.out,Hsf.out⟩
      case measure=>simp[intOf];omega
     ·obtain rfl:j=N.ac1.length:=by omega
      have IL:=Vq;have Hrz:=SZ;have DH:=Gq.out;have S_:Jv N { N with ac1:=ys }:=⟨rfl,xh.out,rfl,fun k es he=>⟨es,he,rfl⟩⟩
      have Lj:=zh (fU.out.trans S_)
      have Xz:=zh (nf.out.sh S_ (fun k es he e hm=>by
       obtain⟨a,b,fs,h1,h2,h3⟩:=nf.out.wf k es he e hm
       exact⟨a,b,fs,h1,h2,h3⟩))
      obtain⟨NZ,Vp⟩:∃z,z=({ N with ac1:=ys }:aw):=⟨_,rfl⟩
      rw[<- Vp]at Lj Xz IL;have acr:=zh ID.out;clear Vp S_ Vq yY hj
      have IN:Hid (Q+2*N.ac1.length<=P+100000):=by show _<=_;have:=ID.out;omega
      clear DH;have vf:=IL.out.box.cells;obtain⟨k0,k1,k2,-,-,-⟩:=vf;have Qr:=Hrz.out.box.cells;obtain⟨e0,e1,e2,f0,f1,f2⟩:=Qr;go_wp2;refine bodyPost_ret (v:=.agg #[.slice (some ⟨g,0,none⟩) N.ends.length jn,.slice oI N.ids.length oJ,.slice tU N.ac1.length qZ]) (by simp[results,Tryz.results130,go_sem, *]) rfl ?_;refine⟨_,_,_,NZ,S2,rfl,IL.out.own.ac4 (fun q hq=>?_),⟨Lj.out,Xz.out⟩,IL.out.cur.mono IN.out |>.ac2 (fun q hq=>?_),?_⟩
      ·have iT:q≠pb+1:=fun e=>Hrn.out (e ▸ hq)
       rw[Below.heap_setCell _ _ _ q (by exact iT),Below.heap_setCell _ _ _ q (by exact iT),Below.heap_setCell _ _ _ q (by exact iT)]
      ·have iT:q≠pb+1:=by have:=cB.out;omega
       rw[Below.heap_setCell _ _ _ q (by exact iT),Below.heap_setCell _ _ _ q (by exact iT),Below.heap_setCell _ _ _ q (by exact iT)]
      ·have eA:B<=pb+1:=by have:=cB.out;omega
       exact((IL.out.far.setCell (p:=⟨pb+1,0,none⟩) (.inl eA) _).setCell (p:=⟨pb+1,1,none⟩) (.inl eA) _).setCell (p:=⟨pb+1,2,none⟩) (.inl eA) _
theorem jK {n:aw} {v:Nat} (hv:v<n.ends.length) (e:Int×Int) (k:Nat):be (qQ n v e) k=if k=v then be n v++[e] else be n k:=by
 unfold be qQ
 simp only[zDd]
 by_cases h:k=v
 ·subst h;rw[if_pos rfl,List.getElem?_set_self hv];rfl
 ·rw[if_neg h,List.getElem?_set_ne (Ne.symm h)]
theorem ng {n:aw} {k:Nat} {es:List (Int×Int)} (h:n.ends[k]?=some es):be n k=es:=by
 unfold be;rw[zDd,h];rfl
theorem CZ.add {n:aw} {v:Nat} (hv:v<n.ends.length) (e:Int×Int) {x:Int×Int} (h:CZ n x):CZ (qQ n v e) x:=by
 obtain⟨a,b,fs,h1,h2,h3⟩:=h
 have ha:a<(qQ n v e).ends.length:=by rw[ib];exact al h2
 refine⟨a,b,_,h1,bK ha,?_⟩;rw[jK hv,ng h2]
 split
 ·rename_i h;subst h;rw[ng h2,List.length_append];omega
 ·exact h3
theorem oH.add {m n:aw} {v:Nat} (h:oH m n) (hv:v<n.ends.length) {e:Int×Int} (he:CZ m e):oH m (qQ n v e):=fun k es hk x hx=>by
 have h1:=ng hk;rw[jK hv]at h1
 have ss:k<n.ends.length:=by have:=al hk;rwa [ib]at this
 split at h1
 ·rw[<- h1]at hx;rcases List.mem_append.1 hx with h2 | h2
  ·exact h v _ (bK hv) x h2
  ·rw[List.mem_singleton.1 h2];exact he
 ·rw[<- h1]at hx;exact h k _ (bK ss) x hx
theorem vg {n:aw} {v u:Nat} (h:Nw n) (hv:v<n.ends.length) (hu:u<n.ends.length):Nw (dC n v u):=by
 have XB:u<(qQ n v ((u:Int),if v=u then ((be n u).length:Int)+1 else ((be n u).length:Int))).ends.length:=by rw[ib];exact hu
 have hl:(dC n v u).ends.length=n.ends.length:=by unfold dC;rw[ib,ib]
 have aD:∀k,be (dC n v u) k=if k=u then (if u=v then be n v++[((u:Int),if v=u then ((be n u).length:Int)+1 else ((be n u).length:Int))] else be n u)++[((v:Int),((be n v).length:Int))] else if k=v then be n v++[((u:Int),if v=u then ((be n u).length:Int)+1 else ((be n u).length:Int))] else be n k:=fun k=>by
  unfold dC;rw[jK XB,jK hv,jK hv]
 have h0:oH (dC n v u) n:=fun k es hk x hx=>((h k es hk x hx).add hv _).add XB _
 have e1:CZ (dC n v u) ((v:Int),((be n v).length:Int)):=by
  refine⟨v,(be n v).length,_,rfl,bK (by omega),?_⟩;rw[aD]
  by_cases e:v=u
  ·subst e;simp
  ·rw[if_neg e,if_pos rfl];simp
 have e2:CZ (dC n v u) ((u:Int),if v=u then ((be n u).length:Int)+1 else ((be n u).length:Int)):=by
  by_cases e:v=u
  ·subst e;refine⟨v,(be n v).length+1,_,by simp,bK (by omega),?_⟩
   rw[aD];simp
  ·refine⟨u,(be n u).length,_,by rw[if_neg e],bK (by omega),?_⟩
   rw[aD,if_pos rfl,if_neg (Ne.symm e)];simp
 exact(h0.add hv e2).add XB e1
theorem ja {n:aw} {v u:Nat} (hv:v<n.ends.length) (hu:u<n.ends.length) (k:Nat):(be (dC n v u) k).length=(be n k).length+(if k=u then 1 else 0)+(if k=v then 1 else 0):=by
 have XB:u<(qQ n v ((u:Int),if v=u then ((be n u).length:Int)+1 else ((be n u).length:Int))).ends.length:=by rw[ib];exact hu
 unfold dC;rw[jK XB,jK hv,jK hv]
 by_cases a:k=u
 ·subst a
  by_cases b:k=v
  ·subst b;simp
  ·simp[b]
 ·by_cases b:k=v
  ·subst b;simp[a]
  ·simp[a,b]
theorem dU (n:aw) (v u:Nat):(dC n v u).ends.length=n.ends.length:=by unfold dC;rw[ib,ib]
theorem Gd.join {R M:Nat} {n:aw} {v u:Nat} (h:Gd R M n) (hv:v<n.ends.length) (hu:u<n.ends.length):Gd (R+2) M (dC n v u):=by
 refine⟨by rw[dU];exact h.ends,fun k es hk=>?_,h.ids,by rw[dU];exact h.ac1,vg h.wf hv hu⟩
 have h1:=ng hk
 have ss:k<n.ends.length:=by have:=al hk;rwa [dU]at this
 rw[<- h1,ja hv hu]
 have:=h.row k _ (bK ss)
 split <;> split <;> omega
theorem Gd.mono {R R' M M':Nat} {n:aw} (h:Gd R M n) (hR:R<=R') (hM:M<=M'):Gd R' M' n:=⟨by have:=h.ends;omega,fun k es hk=>by have:=h.row k es hk;omega,by have:=h.ids;omega,h.ac1,h.wf⟩
theorem Gd.empty {M m:Nat} (hm:m<=M):Gd 0 M (aS m):=⟨by simp[aS];omega,fun k es hk=>by
 have:=List.mem_of_getElem? hk
 simp[aS]at this
 rw[this.2];simp,by simp[aS],by simp[aS],fun k es hk e he=>by
 have:=List.mem_of_getElem? hk
 simp[aS]at this
 rw[this.2]at he
 simp at he⟩
theorem Gr {n:aw} {v:Nat} (h:Nw n) (hv:v<n.ends.length):Nw (jp n v):=by
 have h0:oH (jp n v) n:=fun k es hk x hx=>(h k es hk x hx).add hv _
 have hl:(jp n v).ends.length=n.ends.length:=ib _ _ _;refine h0.add hv ⟨v,(be n v).length,_,rfl,bK (by omega),?_⟩;unfold jp;rw[jK hv,if_pos rfl];simp
theorem rX {n:aw} {v:Nat} (hv:v<n.ends.length) (k:Nat):(be (jp n v) k).length=(be n k).length+(if k=v then 1 else 0):=by
 unfold jp;rw[jK hv]
 by_cases b:k=v
 ·subst b;simp
 ·simp[b]
theorem jb (n:aw) (v:Nat):(jp n v).ends.length=n.ends.length:=ib _ _ _
theorem Gd.stub {R M:Nat} {n:aw} {v:Nat} (h:Gd R M n) (hv:v<n.ends.length):Gd (R+1) M (jp n v):=by
 refine⟨by rw[jb];exact h.ends,fun k es hk=>?_,h.ids,by rw[jb];exact h.ac1,Gr h.wf hv⟩
 have h1:=ng hk
 have ss:k<n.ends.length:=by have:=al hk;rwa [jb]at this
 rw[<- h1,rX hv]
 have:=h.row k _ (bK ss)
 split <;> omega
theorem CB.adb {cb B b:Nat} {w w':World} {x y z:Value} (h:CB cb B w w') (hx:bA w b x y z) (hb:b<B) (hn:b≠cb):bA w' b x y z:=(h.block b hb hn).trans hx
theorem d_ {cb P:Nat} {A:Option Addr} {L c:Nat} {w w0 W:World} {ve vi vn:Value} {N:aw} {S:List Nat} (h0:aa w w0) (ho:au W (w.heap.size+1) ve vi vn N S) (hc:bB W cb A L c P) (hf:CB cb (w.heap.size+1) w0 W) (ia:cb<w.heap.size):
  au (ac5 W w.heap.size ve vi vn) w.heap.size ve vi vn N S/\bB (ac5 W w.heap.size ve vi vn) cb A L c P/\CB cb w.heap.size w (ac5 W w.heap.size ve vi vn):=by
 refine⟨(ho.ac4 (fun k hk=>co _ _ _ _ _ (by have:=(ho.range k hk).1;omega))).mono (by omega),hc.ac2 (fun k hk=>co _ _ _ _ _ (by omega)),?_⟩
 have h1:CB cb w.heap.size w W:=(CB.of h0.below).trans (hf.mono (by omega));exact((h1.setCell (p:=⟨w.heap.size,0,none⟩) (.inl (Nat.le_refl _)) _).setCell (p:=⟨w.heap.size,1,none⟩) (.inl (Nat.le_refl _)) _).setCell (p:=⟨w.heap.size,2,none⟩) (.inl (Nat.le_refl _)) _
def TN (R M:Nat) (N:aw):Prop:=Gd R M N/\0<N.ends.length
theorem Fc (cb:Nat) (A:Option Addr) (L c P most M:Nat) (w:World) (hc:bB w cb A L c P) (hP:P<=4611686018425000000) (pT:1<=most) (nh:most<=M) (hM:M<=40):
  Calls Tryz.prog 123 #[.pointer (some ⟨cb,0,none⟩),.int .i64 most] w (yt cb w.heap.size A L c (P+200000) w (TN 100 M)):=by
 have ia:=hc.lt;obtain⟨B,te⟩:∃z,z=w.heap.size+1:=⟨_,rfl⟩
 obtain⟨w0,ar⟩:∃z,z=w.alloc (.cells #[.slice none 0 0,.slice none 0 0,.slice none 0 0] 30):=⟨_,rfl⟩
 have bu:aa w w0:=by rw[ar];exact ae _ (ad _)
 have eu:w0.heap.size=B:=by rw[ar,te];simp
 have fG:bA w0 w.heap.size (.slice none 0 0) (.slice none 0 0) (.slice none 0 0):=by
  rw[ar];show(w.heap.push _)[w.heap.size]?=_
  rw[Array.getElem?_push_size]
 have eY:=zh fG;have f6:=zh bu;have cS:=zh ar;have fL:=zh te;have gh:=zh eu;have xi:=zh (hc.since bu);clear fG bu ar hc te eu
 go_enter Tryz.func123,Tryz.ntmps123
 go_upto_region 1 with(fail);rw[<- cS.out];go_wp2_with fail;refine(db cb A L c P most w0 xi.out (by omega) (by omega)).mono ?_;rintro e w1 ⟨x,rfl,hx,jc,ky⟩;obtain⟨m,hm⟩:∃m:Nat,m=x+1:=⟨_,rfl⟩
 have m1:IntKind.i64.wrap (1+(x:Int))=(m:Int):=by rw[aE _ (by omega) (by omega)];omega
 have Vr:m<=M:=by omega
 have XC:0<m:=by omega
 have gE:=zh jc;have lZ:=zh ky;clear jc ky hx;have Hm:=zh hm;clear hm;go_wp2_with fail;refine(fK m (by omega) w1).mono ?_;rintro e w2 ⟨QD,QE,QF,S0,rfl,ho,bJ⟩;obtain⟨N0,nK⟩:∃z,z=aS m:=⟨_,rfl⟩
 rw[<- nK]at ho
 have kA:N0.ends.length=m:=by rw[nK];simp[aS]
 have yu:Gd 0 M N0:=by rw[nK];exact Gd.empty Vr
 obtain⟨A1,c1,rfl,-,vN,-⟩:=id ho.read.1;obtain⟨AI,cI,rfl,-,-,-⟩:=id ho.read.2.1;obtain⟨AN,cN,rfl,-,-,-⟩:=id ho.read.2.2;obtain⟨w3,gZ⟩:∃z,z=w2.alloc (.cells #[.slice A1 N0.ends.length c1,.slice AI N0.ids.length cI,.slice AN N0.ac1.length cN] 30):=⟨_,rfl⟩
 obtain⟨pb,da⟩:∃z,z=w2.heap.size:=⟨_,rfl⟩
 have Gs:aa w2 w3:=by rw[gZ];exact ae _ (ad _)
 have eA:B<=w1.heap.size:=by rw[<- gh.out];exact lZ.out.size
 have qm:Mb cb B pb A L c (P+2) w0 w3 (.slice A1 N0.ends.length c1) (.slice AI N0.ids.length cI) (.slice AN N0.ac1.length cN) N0 S0:=
  ⟨(ho.ac2 Gs.below).mono eA,by rw[gZ,da];exact aZ.new _ _ _ _ _,fun hj=>by have:=(ho.range _ hj).2;omega,(gE.out.since bJ).since Gs,(lZ.out.mono (by have:=gh.out;omega)).trans ((CB.of (Below.trans bJ (Gs.below.mono bJ.size))).mono eA)⟩
 have tT:=zh qm
 have cB:Hid (B<=pb/\pb<w3.heap.size):=⟨by rw[da];exact Nat.le_trans eA bJ.size,by rw[gZ,da];simp⟩
 have wO:=zh gZ;have tf:=zh da;have Jw:=zh yu;have f8:=zh kA;have dj:=qm.box.cells.1
 have kC:cb<B:=by have:=fL.out;omega
 clear qm gZ da yu kA ho bJ Gs nK eA;go_upto_region 2 with(fail);rw[<- wO.out,<- tf.out];rw[f8.out]at dj;have aaZ:=f8.out;go_wp2;clear dj aaZ
 go_loopw [15] (fun i wr=>∃(k:Nat) (ve vi vn:Value) (N:aw) (S:List Nat),k<=m/\i=.int .i64 k/\Mb cb B pb A L c (P+2) w0 wr ve vi vn N S/\Gd (2*k) M N/\N.ends.length=m/\B<=wr.heap.size) (fun i _=>m-(intOf i).toNat)
 case atStart=>exact⟨0,_,_,_,N0,S0,Nat.zero_le _,rfl,tT.out,Jw.out,f8.out,by have:=cB.out;omega⟩
 case round=>
  obtain⟨k,ve,vi,vn,N,S2,hk,rfl,hm,iz,kA,eR⟩:=hrel;obtain⟨Bl,jn,rfl,-,OO,-⟩:=id hm.own.read.1;obtain⟨oI,oJ,rfl,-,-,-⟩:=id hm.own.read.2.1;obtain⟨tU,qZ,rfl,-,-,-⟩:=id hm.own.read.2.2;have Hm:=zh hm;have nf:=zh iz;have f8:=zh kA;have jw:=zh eR;clear hm iz kA eR
  by_cases aH:k<m
  ·have m4:IntKind.i64.wrap ((k:Int)+1)=(k:Int)+1:=aE _ (by omega) (by omega);obtain⟨q,hq⟩:∃q:Nat,q=(k+1)%m:=⟨_,rfl⟩
   have hqm:q<m:=by rw[hq];exact Nat.mod_lt _ XC
   have m5:((k:Int)+1).tmod (m:Int)=(q:Int):=by rw[hq,Int.tmod_eq_emod_of_nonneg (by omega)];simp
   have m6:((k:Int)+1)%(m:Int)=(q:Int):=by rw[hq];simp
   have m7:IntKind.i64.wrap (q:Int)=(q:Int):=aE _ (by omega) (by omega)
   have m8:((m:Int)=0)=False:=by simp;omega
   have m9:(m=0)=False:=by simp;omega
   have iM:pb≠cb:=by have:=cB.out;omega
   have rP:=zh (show wr.cell? ⟨pb,0,none⟩=some (.slice Bl m jn)/\wr.cell? ⟨pb,1,none⟩=some (.slice oI N.ids.length oJ)/\wr.cell? ⟨pb,2,none⟩=some (.slice tU N.ac1.length qZ)from by obtain⟨a,b,d,-⟩:=Hm.out.box.cells;rw[f8.out]at a;exact⟨a,b,d⟩)
   clear hq;go_upto_region 5 with(fail);refine av (fun W=>W.cell? ⟨pb,0,none⟩=some (.slice Bl m jn)/\W.cell? ⟨pb,1,none⟩=some (.slice oI N.ids.length oJ)/\W.cell? ⟨pb,2,none⟩=some (.slice tU N.ac1.length qZ)) 9 [false,false,false,false,false,false,false,false,true] (by kernel_rfl) (by kernel_rfl) (show(World.drew wr).cell? ⟨pb,0,none⟩=some (.slice Bl m jn)/\(World.drew wr).cell? ⟨pb,1,none⟩=some (.slice oI N.ids.length oJ)/\(World.drew wr).cell? ⟨pb,2,none⟩=some (.slice tU N.ac1.length qZ)from rP.out) ?_
   simp only[ek,dD,zT]
   iterate 8 (apply bh rfl;(intro W hW;(obtain⟨k0,k1,k2⟩:=hW);go_simp;with_reducible rfl);simp only[zA])
   obtain⟨W,cA⟩:∃W,W=World.drew wr:=⟨_,rfl⟩
   rw[<- cA];have hW:=(show(World.drew wr).cell? ⟨pb,0,none⟩=some (.slice Bl m jn)/\(World.drew wr).cell? ⟨pb,1,none⟩=some (.slice oI N.ids.length oJ)/\(World.drew wr).cell? ⟨pb,2,none⟩=some (.slice tU N.ac1.length qZ)from rP.out);rw[<- cA]at hW;have eU:=zh cA;clear cA;refine Or.inl ⟨rfl,?_⟩
   go_simp
   (with_reducible refine(jC _ _ _ N k q W (by rw[eU.out];have h9:=(Hm.out.own.ac2 (ag (ad _)).below).read;rw[f8.out]at h9;exact h9) (by rw[f8.out];exact aH) (by rw[f8.out];exact hqm) ((nf.out.mono (R':=80) (M':=40) (by omega) hM).small (by omega) (by omega))).mono ?_)
   rintro e W' ⟨Nx,Ny,Nz,S3,rfl,dW,bJ⟩;refine⟨_,rfl,And.intro (bc bJ hW.1) (And.intro (bc bJ hW.2.1) (bc bJ hW.2.2)),?_⟩
   replace hW:=And.intro (bc bJ hW.1) (And.intro (bc bJ hW.2.1) (bc bJ hW.2.2))
   have kh:aa wr W:=(by rw[eU.out];exact ag (ad _))
   have uW:=kh.after bJ;have Hlw:Hid (pb<W.heap.size):=Nat.lt_of_lt_of_le Hm.out.box.lt kh.below.size;clear kh
   (try simp only[zA])
   simp only[bj];obtain⟨D0,d0,rfl,-,-,-⟩:=id dW.read.1;obtain⟨D1,d1,rfl,-,-,-⟩:=id dW.read.2.1;obtain⟨D2,d2,rfl,-,-,-⟩:=id dW.read.2.2;have C1:=Hm.out.assign (CB.of uW) (Hm.out.cur.since uW) dW Hlw.out kC cB.out.1 jw.out;obtain⟨-,-,-,f0,f1,f2⟩:=(Hm.out.box.below uW Hm.out.box.lt).cells;obtain⟨k0,k1,k2⟩:=hW;have nu:=zh C1
   have oK:B<=(ac5 W' pb (.slice D0 (dC N k q).ends.length d0) (.slice D1 (dC N k q).ids.length d1) (.slice D2 (dC N k q).ac1.length d2)).heap.size:=by rw[dV];exact Nat.le_trans jw.out uW.below.size
   have xg:=zh oK
   have Li:=zh (nf.out.join (v:=k) (u:=q) (by rw[f8.out];exact aH) (by rw[f8.out];exact hqm))
   have Ll:=zh ((dU N k q).trans f8.out);clear C1 dW bJ uW oK;go_wp2;go_roundw
   case rel=>exact⟨k+1,_,_,_,dC N k q,S3,by omega,by first | rfl | go_num,nu.out,Li.out.mono (by omega) (Nat.le_refl _),Ll.out,xg.out⟩
   case measure=>simp[intOf];omega
  ·obtain rfl:k=m:=by omega
   obtain⟨wo,rfl⟩:∃z,z=wr:=⟨_,rfl⟩
   have df:=Hm.out.cur;have nt:=zh df;clear df;go_wp2_with fail;refine(lF cb A L c (P+2) 2 wo nt.out (by omega) (by omega)).mono ?_;rintro e w5 ⟨b,rfl,lU,pX⟩;have gK:=zh (Hm.out.seen pX lU kC cB.out.1 jw.out);have kB:Hid (B<=w5.heap.size):=Nat.le_trans jw.out pX.size;have yv:Hid (Gd 80 M N):=nf.out.mono (by omega) (Nat.le_refl _);clear lU pX;obtain⟨k0,k1,k2,-,-,-⟩:=gK.out.box.cells
   have eK:=gK.out.far.adb eY.out (by have:=fL.out;omega) (by omega)
   obtain⟨-,-,-,f0,f1,f2⟩:=eK.box.cells;obtain⟨e0,e1,e2,-,-,-⟩:=eK.box.cells;clear eK;cases b
   ·clear f0 f1 f2 e0 e1 e2;go_wp2_with fail
    refine(rW cb A L c (P+2+2) B 80 M _ _ _ N S2 w5 gK.out.cur (by omega) gK.out.own kC kB.out yv.out (by omega) (by omega) (by have:=f8.out;omega)).mono ?_
    rintro e w6 ⟨BC,BE,BF,N6,S6,rfl,cJ,⟨rY,iw⟩,eh,ix⟩;obtain⟨D0,d0,rfl,-,-,-⟩:=id cJ.read.1;obtain⟨D1,d1,rfl,-,-,-⟩:=id cJ.read.2.1;obtain⟨D2,d2,rfl,-,-,-⟩:=id cJ.read.2.2;have bi:=(gK.out.far.mono (Nat.le_refl B)).trans ix
    have eK:=bi.adb eY.out (by have:=fL.out;omega) (by omega)
    obtain⟨e0,e1,e2,f0,f1,f2⟩:=eK.box.cells;have aC:=cJ;rw[fL.out]at aC bi;have cK:=zh (d_ f6.out aC eh bi ia);have xj:=zh rY;have zu:=zh iw;clear bi eK aC rY iw eh ix cJ k0 k1 k2;go_wp2;refine bodyPost_ret (v:=.agg #[.slice D0 N6.ends.length d0,.slice D1 N6.ids.length d1,.slice D2 N6.ac1.length d2]) (by simp[results,Tryz.results123,go_sem, *]) rfl ?_;obtain⟨r1,r2,r3⟩:=cK.out
    exact⟨_,_,_,N6,S6,rfl,r1,⟨zu.out.mono (by omega) (Nat.le_refl _),by have:=f8.out;have:=xj.out.len;omega⟩,r2.mono (by omega),r3⟩
   ·go_wp2;refine bodyPost_ret (v:=.agg #[.slice Bl N.ends.length jn,.slice oI N.ids.length oJ,.slice tU N.ac1.length qZ]) (by simp[results,Tryz.results123,go_sem, *]) rfl ?_;have aC:=gK.out.own;rw[fL.out]at aC;have bi:=gK.out.far;rw[fL.out]at bi;obtain⟨r1,r2,r3⟩:=d_ f6.out aC gK.out.cur bi ia
    exact⟨_,_,_,N,S2,rfl,r1,⟨yv.out.mono (by omega) (Nat.le_refl _),by have:=f8.out;omega⟩,r2.mono (by omega),r3⟩
theorem Lm (f:Nat->Nat) (x:Nat):BA f 0 x=x:=rfl
theorem C4 (Q:Nat->Prop):∀t,Q t->∃m,Q m/\m<=t/\∀k,k<m->¬Q k
 | t,h=>by
  rcases Classical.em (∃k,k<t/\Q k)with⟨k,hk,hq⟩ | hn
  ·obtain⟨m,h1,h2,h3⟩:=C4 Q k hq;exact⟨m,h1,by omega,h3⟩
  ·exact⟨t,h,Nat.le_refl _,fun k hk hq=>hn ⟨k,hk,hq⟩⟩
termination_by t=>t
open Classical in
noncomputable def Ln (Q:Nat->Prop):Nat:=if h:∃m,Q m/\∀k,k<m->¬Q k then Classical.choose h else 0
theorem rZ {Q:Nat->Prop} {t:Nat} (h:Q t):Q (Ln Q)/\Ln Q<=t:=by
 obtain⟨m,h1,h2,h3⟩:=C4 Q t h;have he:∃m,Q m/\∀k,k<m->¬Q k:=⟨m,h1,h3⟩;unfold Ln;rw[dif_pos he];obtain⟨h4,h5⟩:=Classical.choose_spec he;refine⟨h4,?_⟩;rcases Nat.lt_or_ge t (Classical.choose he)with hl | hl
 ·exact absurd h (h5 t hl)
 ·exact hl
def r9 (v t0 s t:Nat):Prop:=byteOf (BA (fun s=>nx s 0) t (nx s 0))%v=t0
open Classical in
noncomputable def tV (L v t0 p s:Nat):Nat:=if p<L then (L-p)+281474976710656+1 else Ln (r9 v t0 s)
theorem Lo {v t0 s:Nat} (h:r9 v t0 s 0):byteOf (nx s 0)%v=t0:=by
 unfold r9 at h;rw[Lm]at h;exact h
theorem fuel_lt {L v t0 p s:Nat} (h:p<L):tV L v t0 p s=(L-p)+281474976710656+1:=if_pos h
theorem vh {L v t0 p s:Nat} (h:L<=p):tV L v t0 p s=Ln (r9 v t0 s):=if_neg (by omega)
theorem Fe {v t0:Nat} (s:Nat) (hv:v<=200) (ht:t0<v):∃t,t<281474976710656/\r9 v t0 s t:=by
 obtain⟨t,h1,h2⟩:=KY (nx s 0) t0 (Gk _ _) (by omega)
 exact⟨t,h1,by unfold r9;rw[h2,Nat.mod_eq_of_lt ht]⟩
theorem OQ {L v t0:Nat} (p s:Nat) (hL:L<=1048576) (hv:v<=200) (ht:t0<v):tV L v t0 p s<=281474977759233:=by
 rcases Nat.lt_or_ge p L with hp | hp
 ·rw[fuel_lt hp];omega
 ·rw[vh hp];obtain⟨t,h1,h2⟩:=Fe s hv ht;have h3:=(rZ h2).2
  generalize Ln (r9 v t0 s)=m at *
  omega
theorem zv {L v t0 p s s' x:Nat} (hL:L<=1048576) (hv:v<=200) (ht:t0<v) (hx:x≠t0) (h:L<=p->s'=nx s 0/\x=byteOf s'%v):tV L v t0 (p+1) s'<tV L v t0 p s:=by
 have uG:Ln (r9 v t0 s')<281474976710656:=by
  obtain⟨t,h1,h2⟩:=Fe s' hv ht;have h3:=(rZ h2).2
  generalize Ln (r9 v t0 s')=m at *
  omega
 rcases Nat.lt_or_ge p L with hp | hp
 ·rw[fuel_lt hp];rcases Nat.lt_or_ge (p+1) L with h2 | h2
  ·rw[fuel_lt h2];omega
  ·rw[vh h2]
   generalize Ln (r9 v t0 s')=m at *
   omega
 ·rw[vh hp,vh (by omega)];obtain⟨hs,gb⟩:=h hp;rw[hs]at gb uG ⊢;clear hs;obtain⟨t,h1,h2⟩:=Fe s hv ht;obtain⟨h3,h4⟩:=rZ h2
  generalize Ln (r9 v t0 s)=m at *
  cases m with
  | zero=>
   exfalso
   exact hx (gb.trans (Lo h3))
  | succ m=>
   have h5:r9 v t0 (nx s 0) m:=by
    unfold r9 at h3 ⊢
    rw[wW]at h3;exact h3
   have h6:=(rZ h5).2
   generalize Ln (r9 v t0 (nx s 0))=q at *
   omega
def qn (N:aw):Nat->Nat
 | 0=>0
 | k+1=>qn N k+(be N k).length
theorem Lp {N:aw}:∀v,qn N v<4*v->∃t,t<v/\(be N t).length<4
 | 0,h=>by simp at h
 | v+1,h=>by
  by_cases h1:(be N v).length<4
  ·exact⟨v,by omega,h1⟩
  ·obtain⟨t,h2,h3⟩:=Lp (N:=N) v (by simp only[qn]at h;omega)
   exact⟨t,by omega,h3⟩
theorem C5 {N:aw} {u v:Nat} (hu:u<N.ends.length) (hv:v<N.ends.length):∀k,k<=v->qn (dC N u v) k=qn N k+(if u<k then 1 else 0)
 | 0,_=>by simp[qn]
 | k+1,hk=>by
  simp only[qn];rw[C5 hu hv k (by omega),ja hu hv];have h1:k≠v:=by omega
  rw[if_neg h1]
  by_cases h2:k=u
  ·subst h2;simp;omega
  ·rw[if_neg h2]
   by_cases h3:u<k
   ·rw[if_pos h3,if_pos (by omega)];omega
   ·rw[if_neg h3,if_neg (by omega)];omega
structure yw (M v:Nat) (N:aw):Prop where
 gd:Gd 4 M N
 tot:qn N v+2=2*v
 zero:∀k,v<=k->(be N k).length=0
theorem yw.low {M v:Nat} {N:aw} (h:yw M v N) (hv:1<=v):∃t,t<v/\(be N t).length<4:=Lp v (by have:=h.tot;omega)
theorem yw.step {M v u:Nat} {N:aw} (h:yw M v N) (hu:u<v) (hv:v<N.ends.length) (hr:(be N u).length<4):yw M (v+1) (dC N u v):=by
 have Bw:u<N.ends.length:=by omega
 refine⟨⟨by rw[dU];exact h.gd.ends,fun k es hk=>?_,h.gd.ids,by rw[dU];exact h.gd.ac1,vg h.gd.wf Bw hv⟩,?_,fun k hk=>?_⟩
 ·have h1:=ng hk
  have ss:k<N.ends.length:=by have:=al hk;rwa [dU]at this
  rw[<- h1,ja Bw hv];have h2:=h.gd.row k _ (bK ss)
  by_cases a:k=v
  ·subst a
   have:=h.zero k (Nat.le_refl _)
   rw[if_pos rfl,if_neg (by omega)];omega
  ·rw[if_neg a]
   by_cases b:k=u
   ·subst b;rw[if_pos rfl];omega
   ·rw[if_neg b];omega
 ·simp only[qn];rw[C5 Bw hv v (Nat.le_refl _),if_pos hu,ja Bw hv,if_pos rfl,if_neg (by omega),h.zero v (Nat.le_refl _)]
  have:=h.tot
  omega
 ·rw[ja Bw hv,if_neg (by omega),if_neg (by omega),h.zero k (by omega)]
theorem yw.empty {M m:Nat} (hm:m<=M):yw M 1 (aS m):=by
 have hz:∀k,(be (aS m) k).length=0:=fun k=>by
  unfold be aS
  simp only[zDd,List.getElem?_replicate]
  split <;> simp
 exact⟨(Gd.empty hm).mono (by omega) (Nat.le_refl _),by simp[qn,hz],fun k _=>hz k⟩
def pOf (cb:Nat) (W:World):Nat:=(intOf ((W.cell? ⟨cb,1,none⟩).getD undef)).toNat
def sOf (cb:Nat) (W:World):Nat:=(intOf ((W.cell? ⟨cb,2,none⟩).getD undef)).toNat
theorem BB.pOf {W:World} {cb:Nat} {A:Option Addr} {L c p s:Nat} (h:BB W cb A L c p s):pOf cb W=p/\sOf cb W=s:=by
 obtain⟨-,h1,h2⟩:=h.cellsOf
 unfold Go.Proofs.YtnioemnkfojmkaaGreat.pOf sOf
 rw[h1,h2];simp[intOf]
open Classical in
noncomputable def Lq (L v t0 cb:Nat) (x:Value) (W:World):Nat:=if intOf x=(t0:Int) then 0 else 1+tV L v t0 (pOf cb W) (sOf cb W)
theorem Lr {L v t0 cb:Nat} {x:Value} {W:World} (h:intOf x=(t0:Int)):Lq L v t0 cb x W=0:=if_pos h
theorem C6 {L v t0 cb:Nat} {x:Value} {W:World} (h:¬intOf x=(t0:Int)):Lq L v t0 cb x W=1+tV L v t0 (pOf cb W) (sOf cb W):=if_neg h
end Go.Proofs.YtnioemnkfojmkaaGreat
