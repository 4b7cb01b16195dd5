/- Parts of the proof: walks of functions and plain laws. -/
import Derived.Test.YtgjggeapebbcbaaGreatP0
import Derived.Test.YtgjggeapebbcbaaGreatP1
import Derived.Test.YtgjggeapebbcbaaGreatP10
set_option maxRecDepth 100000
set_option maxHeartbeats 16000000
namespace Go.Proofs.YtgjggeapebbcbaaGreat
open Go Go.RowKit
def Lz (w:World) (n:am) (e:Ending) (w':World):Prop:=∃N,fS n N/\Dl N/\mm w N e w'
theorem tN (ve vi vn vp:Value) (n:am) (v:Nat) (xs:List Int) (w:World) (h:aI w ve vi vn n) (hv:v<n.ends.length) (hn:kY n) (LA:Dl n) (hp:aG w vp xs) (GL:xs.length=(bg n v).length) (dy:kX (bg n v).length xs):
  Calls Tryz.prog 184 #[.agg #[ve,vi,vn],.int .i64 v,vp] w (Lz w n):=by
 obtain⟨xv,gC⟩:∃x,x=bg n v:=⟨_,rfl⟩
 rw[<- gC]at GL dy;have nq:=a_ hv;rw[<- gC]at nq;have cA:=zh dy;have DR:=zh GL;have H8:=zh nq;have xV:=zh hn;have NQ:=zh LA;have tF:Hid (xv.length<=1000):=hn.row _ _ nq;clear hn LA nq gC GL dy;obtain⟨AP,cP,rfl,Xn,FI,-⟩:=id hp
 obtain⟨w0,A,c,A2,c2,A3,c3,rfl,rfl,rfl,er,hm,et,fG,HA,bM,aY,H,e8,fh,fi⟩:=zB h;clear h
 obtain⟨wa,f7⟩:∃wa,wa=w0.alloc (.cells #[.slice none 0 0,.slice none 0 0,.slice none 0 0] 27):=⟨_,rfl⟩
 have gO:aa w0 wa:=by rw[f7];exact ae _ (ab _)
 have jB:w0.heap.size=w.heap.size+1:=by rw[bM.out];simp
 have yO:Hid (wa.heap.size=w.heap.size+1+1):=by show _=_;rw[f7,<- jB];simp
 have uD:Hid (∀X,aa wa X->aT X (w.heap.size+1) (.slice none 0 0) (.slice none 0 0) (.slice none 0 0)):=fun X hX=>by
  refine aT.since (W:=wa) ?_ hX;rw[f7,<- jB];show(w0.heap.push _)[w0.heap.size]?=_
  rw[Array.getElem?_push_size]
 have HP:=zh (show ∀X,aa wa X->aG X (.slice AP xs.length cP) xs from fun X hX=>(hp.aab aY.out).aab (gO.after hX).below)
 have HN:=zh (show ∀X,aa wa X->aI X (.slice A n.ends.length c) (.slice A2 n.ids.length c2) (.slice A3 n.aaa.length c3) n from fun X hX=>H.out.aab (gO.after hX).below)
 have AX:=ak e8 gO;have AY:=ak fh gO;have AZ:=ak fi gO;have tj:=zh f7;have sj:=zh gO;have fL:Hid (Below w.heap.size w wa):=Below.trans aY.out (gO.below.mono aY.out.size);clear f7 gO jB e8 fh fi hp
 go_enter Tryz.func184,Tryz.ntmps184
 go_upto_region 1 with(fail);rw[<- bM.out,<- tj.out];have hs:aa wa wa:=ab _;go_wp2_with fail;refine(gD _ _ _ n wa (HN.out _ hs) xV.out.ends xV.out.row xV.out.sz).mono ?_;rintro e w1 ⟨we,wi,wn,S,rfl,ho,aJ⟩;obtain⟨A1,c1,rfl,-,-,-⟩:=id ho.read.1;obtain⟨AI,cI,rfl,-,-,-⟩:=id ho.read.2.1;obtain⟨AN,cN,rfl,-,-,-⟩:=id ho.read.2.2;obtain⟨g,rfl,-⟩:=ho.head (by omega);have bu:aa wa w1:=hs.trans aJ;obtain⟨w2,eY⟩:∃z,z=w1.alloc (.cells #[.slice (some ⟨g,0,none⟩) n.ends.length c1,.slice AI n.ids.length cI,.slice AN n.aaa.length cN] 27):=⟨_,rfl⟩
 obtain⟨bo,nd⟩:∃z,z=w1.heap.size:=⟨_,rfl⟩
 have iK:aa w1 w2:=by rw[eY];exact ae _ (ab _)
 have xW:Cp wa w2 bo g c1 n.ends.length (.slice AI n.ids.length cI) (.slice AN n.aaa.length cN) n S:=by
  refine⟨ho.aab iK.below,by rw[eY,nd];exact aS.new _ _ _ _ _,fun hj=>by have:=(ho.range _ hj).2;omega,bu.after iK⟩
 have XA:=zh xW;have tk:=zh eY;have zw:=zh nd;have dS:=bu.after iK
 have tE:Hid (wa.heap.size<=bo/\bo<w2.heap.size):=⟨by rw[nd];exact bu.below.size,by rw[eY,nd];simp⟩
 have HSr:Hid (∀j∈S,wa.heap.size<=j/\j<w2.heap.size):=xW.own.range;obtain⟨br,vH,cr0,ur,hA0,-,Uu,XB⟩:=fo (HN.out wa (ab _)).es H8.out;cases hA0;obtain⟨A9,y9,rfl,cj,cX,LB⟩:=XB;unfold maxLen at cX;have Qs:=zh LB;have r0:=ak (ad Uu) dS;have Je:=ak AX dS;have XC:=ak AY dS;have XD:=ak AZ dS;have dx:=xW.box.cells.1;clear LB Uu xW nd eY ho bu iK aJ hs AX AY AZ;go_upto_region 2 with(fail);rw[<- tk.out,<- zw.out];have g7:=zh dS;clear dS dx;have XE:=r0 w2 (ab _);have XF:=Je w2 (ab _);clear r0 Je XC XD;go_wp2;clear XE XF
 go_loopw [18] (fun i wr=>∃(k:Nat) (N:am),k<=xv.length/\i=.int .i64 k/\Cp wa wr bo g c1 n.ends.length (.slice AI n.ids.length cI) (.slice AN n.aaa.length cN) N S/\fS n N/\jZ n N) (fun i _=>xv.length-(intOf i).toNat)
 case atStart=>exact⟨0,n,Nat.zero_le _,rfl,XA.out,fS.refl _,NQ.out⟩
 case round=>
  obtain⟨k,N,hk,rfl,xW,gb,I9⟩:=hrel;have Qt:=zh xW;have rG:=zh gb;have I_:=zh I9;have fQ:=zh xW.since;clear gb I9
  by_cases aH:k<xv.length
  ·obtain⟨e,he⟩:=ax xv k aH;obtain⟨a,b,fs,rfl,Uv,qc⟩:=NQ.out v xv H8.out e (List.mem_of_getElem? he);obtain⟨b9,o9,rfl,si,sg⟩:=Qs.out k _ he;have s1:=ad si wr fQ.out;have s2:=ad sg wr fQ.out
   obtain⟨p,hp⟩:=ax xs k (by rw[DR.out];exact aH)
   obtain⟨XG,XH,Ea,-,-,hP⟩:=HP.out wr fQ.out;simp only[Value.slice.injEq]at Ea;obtain⟨rfl,-,rfl⟩:=Ea;obtain⟨bp,op,rfl,gz⟩:=hP k p hp;obtain⟨Jr,AK⟩:=cA.out p (List.mem_of_getElem? hp);obtain⟨pn,rfl⟩:∃pn:Nat,p=(pn:Int):=⟨p.toNat,by omega⟩
   have Ni:pn<xv.length:=by omega
   have m4:IntKind.i64.wrap ((k:Int)+1)=(k:Int)+1:=aR _ (by omega) (by omega);obtain⟨w3,h_⟩:∃z,z=wr.alloc (.cells #[.int .i64 (a:Int),.int .i64 (b:Int)] 36):=⟨_,rfl⟩
   obtain⟨eb,nX⟩:∃z,z=wr.heap.size:=⟨_,rfl⟩
   have h3:aa wr w3:=by rw[h_];exact ae _ (ab _)
   have Jv:dp w3 eb #[.int .i64 (a:Int),.int .i64 (b:Int)]:=by rw[h_,nX];exact dp.new _ _ _
   have HE3:=zh Jv
   have Eb:Hid (eb∉S):=fun hj=>by have:=(xW.own.range _ hj).2;omega
   have B7:Hid (eb≠bo):=fun e=>by have:=xW.box.lt;omega
   have Qu:Hid (wa.heap.size<=eb):=by show _<=_;rw[nX];exact xW.since.below.size
   have H9:=zh (xW.aab h3);have t1:=(Jv.cell 0 _ rfl).1;have t2:=(Jv.cell 1 _ rfl).1;have f2:=(Jv.cell 1 _ rfl).2;have Qv:=bc h3.below gz;have yP:=zh h_;have H_:=zh nX;have Hp:=zh hp;have NR:=zh Uv;have Hx:=zh Jv;have H3:=zh h3;clear xW he si sg Jr AK hp gz hP h_ nX Jv h3 Uv;go_upto_region 5 with(fail);rw[<- yP.out,<- H_.out];clear s1 s2
   by_cases XI:a=v
   ·subst XI
    obtain rfl:fs=xv:=by have h1:=NR.out;rw[H8.out]at h1;cases h1;rfl
    obtain⟨q,hq⟩:=ax xs b (by rw[DR.out];exact qc)
    obtain⟨XG,XH,Ea,-,-,hP⟩:=HP.out w3 (fQ.out.after H3.out);simp only[Value.slice.injEq]at Ea;obtain⟨Ea,-,rfl⟩:=Ea;obtain⟨XJ,XK,Uw,XL⟩:=hP b q hq
    obtain⟨rfl,rfl⟩:bp=XJ/\op=XK:=by rw[Uw]at Ea;simpa using Ea
    obtain⟨Ny,lQ⟩:=cA.out q (List.mem_of_getElem? hq);have Jw:Hid (ww n ((a:Int),q)):=⟨a,q.toNat,fs,by rw[Int.toNat_of_nonneg Ny],H8.out,by omega⟩
    clear Ea Uw hP hq Ny lQ;have Qm:((a:Int)=(a:Int))=True:=by simp
    have XM:b<xs.length:=by rw[DR.out];exact qc
    go_upto_region 8 with(fail);obtain⟨w4,lR⟩:∃z,z=w3.setCell ⟨eb,1,none⟩ (.int .i64 q):=⟨_,rfl⟩
    rw[<- lR]
    have Ia:dp w4 eb #[.int .i64 (a:Int),.int .i64 q]:=by rw[lR];exact jX Hx.out 1 _
    have wy:Hid (Cp wa w4 bo g c1 n.ends.length (.slice AI n.ids.length cI) (.slice AN n.aaa.length cN) N S):=by show Cp _ _ _ _ _ _ _ _ _ _;rw[lR];exact H9.out.put (p:=⟨eb,1,none⟩) Qu.out Eb.out B7.out _
    clear Qv t1 t2 f2 XL Qm lR;have B8:=zh wy.out.since;obtain⟨gv,sX,Qw⟩:=rG.out.row a fs H8.out;obtain⟨gr,cr,iN,Qx,Qy,Jy,Qz,QB,LC,LD,⟨Ux,FD⟩,⟨Du,Ec⟩,oS⟩:=wy.out.port (j:=pn) sX (by omega);have oS:=oS ((a:Int),(q:Int));have FM:=zh oS;have LF:=zh sX;have GQ:pn<gv.length:=by omega
    have LG:gr≠eb:=fun e=>Eb.out (e ▸ Jy)
    clear oS sX;have t0:=ad wy.out.box.cells.1;have t4:=ad iN;have Ee:=ad (Ia.cell 0 _ rfl).1;have Ef:=ad (Ia.cell 1 _ rfl).1;obtain⟨XN,XO,yX,-,-,LH⟩:=HP.out w4 B8.out;simp only[Value.slice.injEq]at yX;obtain⟨yX,-,rfl⟩:=yX;obtain⟨QC,QD,Fw,B9⟩:=LH k _ Hp.out
    obtain⟨rfl,rfl⟩:bp=QC/\op=QD:=by rw[Fw]at yX;simpa using yX
    have LI:=ad B9
    have XP:k<xs.length:=by rw[DR.out];exact aH
    clear yX Fw LH B9 Ia;refine bQ (w0:=w4) 11 [false,false,false,false,false,false,false,false,false,false,false] (by kernel_rfl) (by kernel_rfl) (ab _) ?_;simp only[df,b8,zT]
    iterate 11 (apply ek rfl;(intro W hW;go_simp;with_reducible rfl);simp only[zA])
    simp only[ic,aQ];obtain⟨W,bB⟩:∃W,W=World.drew w4:=⟨_,rfl⟩
    rw[<- bB]
    have hW:aa w4 W:=by rw[bB];exact ah (ab _)
    go_upto_region 9 with(fail);obtain⟨w5,nM⟩:∃X,X=World.drew ((w4.setCell ⟨gr,pn*2,none⟩ (.int .i64 (a:Int))).setCell ⟨gr,pn*2+1,none⟩ (.int .i64 (q:Int))):=⟨_,rfl⟩
    rw[<- nM]
    have Ib:Hid (Cp wa w5 bo g c1 n.ends.length (.slice AI n.ids.length cI) (.slice AN n.aaa.length cN) ({ N with ends:=N.ends.set a (gv.set pn ((a:Int),(q:Int))) }:am) S):=by show Cp _ _ _ _ _ _ _ _ _ _;rw[nM];exact FM.out.aab (ah (ab _))
    have Ic:=zh (rG.out.put (j:=pn) LF.out ((a:Int),(q:Int)));have Ie:=zh (I_.out.put (j:=pn) LF.out Jw.out);clear nM FM iN FD Ec LC LD t0 t4 Ee Ef LI;go_wp2;go_roundw
    case rel=>exact⟨k+1,_,by omega,by first | rfl | go_num,Ib.out,Ic.out,Ie.out⟩
    case measure=>simp[intOf];omega
   ·have oh:((a:Int)=(v:Int))=False:=by simp;omega
    obtain⟨ga,QE,XQ⟩:=rG.out.row a fs NR.out;obtain⟨gr,cr,iN,Qx,Qy,Jy,Qz,QB,LC,LD,⟨Ux,FD⟩,⟨Du,Ec⟩,oS⟩:=H9.out.port (j:=b) QE (by omega);have Jw:Hid (ww n ((v:Int),(pn:Int))):=⟨v,pn,xv,rfl,H8.out,Ni⟩;have oS:=oS ((v:Int),(pn:Int));have FM:=zh oS;have Uy:=zh QE;have GQ:b<ga.length:=by omega
    have LG:gr≠eb:=fun e=>Eb.out (e ▸ Jy)
    have I9:a<n.ends.length:=ai NR.out
    have XR:k<xs.length:=by rw[DR.out];exact aH
    clear oS QE;go_upto_region 7 with(fail);clear oh;have t0:=ad H9.out.box.cells.1;have t4:=ad iN;have Ee:=ad t1;have Ef:=ad t2;have LI:=ad Qv;clear t1 t2 Qv;refine bQ (w0:=w3) 15 [false,false,false,false,false,false,false,false,false,false,false,false,false,false,false] (by kernel_rfl) (by kernel_rfl) (ab _) ?_;simp only[df,b8,zT]
    iterate 15 (apply ek rfl;(intro W hW;go_simp;with_reducible rfl);simp only[zA])
    simp only[ic,aQ];obtain⟨W,bB⟩:∃W,W=World.drew w3:=⟨_,rfl⟩
    rw[<- bB]
    have hW:aa w3 W:=by rw[bB];exact ah (ab _)
    go_upto_region 8 with(fail);obtain⟨w4,lR⟩:∃X,X=World.drew ((w3.setCell ⟨gr,b*2,none⟩ (.int .i64 (v:Int))).setCell ⟨gr,b*2+1,none⟩ (.int .i64 (pn:Int))):=⟨_,rfl⟩
    rw[<- lR]
    have B_:Hid (Cp wa w4 bo g c1 n.ends.length (.slice AI n.ids.length cI) (.slice AN n.aaa.length cN) ({ N with ends:=N.ends.set a (ga.set b ((v:Int),(pn:Int))) }:am) S):=by show Cp _ _ _ _ _ _ _ _ _ _;rw[lR];exact FM.out.aab (ah (ab _))
    have Ia:dp w4 eb #[.int .i64 (a:Int),.int .i64 (b:Int)]:=by rw[lR];exact(Hx.out.set (p:=⟨gr,b*2,none⟩) LG).set (p:=⟨gr,b*2+1,none⟩) LG
    have Ca:=zh (rG.out.put (j:=b) Uy.out ((v:Int),(pn:Int)));have FN:=zh (I_.out.put (j:=b) Uy.out Jw.out);obtain⟨N4,Uz⟩:∃z,z=({ N with ends:=N.ends.set a (ga.set b ((v:Int),(pn:Int))) }:am):=⟨_,rfl⟩
    rw[<- Uz]at B_ Ca FN;have wy:=B_;clear lR FM iN FD Ec LC LD t0 t4 Ee Ef LI Qx Qy Jy Qz QB LG f2 Uz B_;have LJ:Hid (ww n ((a:Int),(b:Int))):=⟨a,b,fs,rfl,NR.out,qc⟩;clear Jw;have Jw:=LJ;clear LJ;have B8:=zh wy.out.since;obtain⟨gv,sX,Qw⟩:=Ca.out.row v xv H8.out;obtain⟨gr,cr,iN,Qx,Qy,Jy,Qz,QB,LC,LD,⟨Ux,FD⟩,⟨Du,Ec⟩,oS⟩:=wy.out.port (j:=pn) sX (by omega);have oS:=oS ((a:Int),(b:Int));have FM:=zh oS;have LF:=zh sX;have GQ:pn<gv.length:=by omega
    have LG:gr≠eb:=fun e=>Eb.out (e ▸ Jy)
    clear oS sX;have t0:=ad wy.out.box.cells.1;have t4:=ad iN;have Ee:=ad (Ia.cell 0 _ rfl).1;have Ef:=ad (Ia.cell 1 _ rfl).1;obtain⟨XN,XO,yX,-,-,LH⟩:=HP.out w4 B8.out;simp only[Value.slice.injEq]at yX;obtain⟨yX,-,rfl⟩:=yX;obtain⟨QC,QD,Fw,B9⟩:=LH k _ Hp.out
    obtain⟨rfl,rfl⟩:bp=QC/\op=QD:=by rw[Fw]at yX;simpa using yX
    have LI:=ad B9
    have XP:k<xs.length:=by rw[DR.out];exact aH
    clear yX Fw LH B9 Ia;refine bQ (w0:=w4) 11 [false,false,false,false,false,false,false,false,false,false,false] (by kernel_rfl) (by kernel_rfl) (ab _) ?_;simp only[df,b8,zT]
    iterate 11 (apply ek rfl;(intro W hW;go_simp;with_reducible rfl);simp only[zA])
    simp only[ic,aQ];obtain⟨W,bB⟩:∃W,W=World.drew w4:=⟨_,rfl⟩
    rw[<- bB]
    have hW:aa w4 W:=by rw[bB];exact ah (ab _)
    go_upto_region 9 with(fail);obtain⟨w5,nM⟩:∃X,X=World.drew ((w4.setCell ⟨gr,pn*2,none⟩ (.int .i64 (a:Int))).setCell ⟨gr,pn*2+1,none⟩ (.int .i64 (b:Int))):=⟨_,rfl⟩
    rw[<- nM]
    have Ib:Hid (Cp wa w5 bo g c1 n.ends.length (.slice AI n.ids.length cI) (.slice AN n.aaa.length cN) ({ N4 with ends:=N4.ends.set v (gv.set pn ((a:Int),(b:Int))) }:am) S):=by show Cp _ _ _ _ _ _ _ _ _ _;rw[nM];exact FM.out.aab (ah (ab _))
    have Ic:=zh (Ca.out.put (j:=pn) LF.out ((a:Int),(b:Int)));have Ie:=zh (FN.out.put (j:=pn) LF.out Jw.out);clear nM FM iN FD Ec LC LD t0 t4 Ee Ef LI;go_wp2;go_roundw
    case rel=>exact⟨k+1,_,by omega,by first | rfl | go_num,Ib.out,Ic.out,Ie.out⟩
    case measure=>simp[intOf];omega
  ·obtain rfl:k=xv.length:=by omega
   have fH:=uD.out wr fQ.out;obtain⟨d0,d1,d2,-,-,-⟩:=Qt.out.box.cells;obtain⟨e0,e1,e2,f0,f1,f2⟩:=fH.box.cells;have Hc:=zh xW;clear fH xW;go_wp2;refine bodyPost_ret (v:=.agg #[.slice (some ⟨g,0,none⟩) n.ends.length c1,.slice AI n.ids.length cI,.slice AN n.aaa.length cN]) (by simp[results,Tryz.results184,go_sem, *]) rfl ?_;have NP:=yO.out;refine⟨N,rG.out,I_.out.wf rG.out,_,_,_,S,rfl,((Hc.out.own.aac (fun j hj=>?_)).mono (show w.heap.size<=wa.heap.size by omega)),?_⟩
   ·have rC:=(Hc.out.own.range j hj).1;rw[Below.heap_setCell _ _ _ j (by simp;omega),Below.heap_setCell _ _ _ j (by simp;omega),Below.heap_setCell _ _ _ j (by simp;omega)]
   ·have nT:Below w.heap.size w wr:=Below.trans fL.out (fQ.out.below.mono (by omega));exact((nT.setCell (by simp) _).setCell (by simp) _).setCell (by simp) _
structure zH (n N:am):Prop where
 ids:N.ids.length=n.ids.length
 aaa:N.aaa.length=n.aaa.length
 len:N.ends.length=n.ends.length
 row:∀(k:Nat) (es:List (Int×Int)),n.ends[k]?=some es->∃fs,N.ends[k]?=some fs/\fs.length=es.length
theorem fS.shp {n N:am} (h:fS n N):zH n N:=⟨by rw[h.ids],by rw[h.aaa],h.len,h.row⟩
theorem zH.refl (n:am):zH n n:=(fS.refl n).shp
theorem zH.trans {a b c:am} (h:zH a b) (h':zH b c):zH a c:=⟨h'.ids.trans h.ids,h'.aaa.trans h.aaa,h'.len.trans h.len,fun k es he=>by
 obtain⟨fs,h1,h2⟩:=h.row k es he;obtain⟨gs,h3,h4⟩:=h'.row k fs h1
 exact⟨gs,h3,by omega⟩⟩
structure Gd (R M:Nat) (n:am):Prop where
 ends:n.ends.length<=M
 row:∀(k:Nat) (es:List (Int×Int)),n.ends[k]?=some es->es.length<=R
 ids:n.ids.length<=M
 aaa:n.aaa.length=n.ends.length
 wf:Dl n
theorem Cb {l:List (List (Int×Int))} {R:Nat} (h:∀es∈l,es.length<=R):kC l<=2*R*l.length:=by
 induction l with
 | nil=>simp[kC]
 | cons a l ih=>
  have h1:=ih (fun es he=>h es (List.mem_cons_of_mem _ he))
  have h2:=h a (by simp);simp only[kC,List.length_cons];have h3:2*R*(l.length+1)=2*R*l.length+2*R:=by rw[Nat.mul_add,Nat.mul_one]
  omega
theorem xX (l:List (List (Int×Int))):Gm l<=l.length+kC l:=by
 unfold Gm
 have:ry l<=kC l:=by
  induction l with
  | nil=>simp[ry,kC]
  | cons a r ih=>simp only[kC,ry,List.map_cons,List.sum_cons]at *;omega
 omega
theorem Gd.small {R M:Nat} {n:am} (h:Gd R M n) (hR:R<=100) (hM:M<=100):kY n:=by
 refine⟨by have:=h.ends;omega,fun k es he=>by have:=h.row k es he;omega,?_⟩
 have h1:kC n.ends<=2*R*n.ends.length:=Cb (fun es he=>by
  obtain⟨k,hk⟩:=List.getElem?_of_mem he
  exact h.row k es hk)
 have h2:=xX n.ends
 have h3:2*R*n.ends.length<=2*100*100:=Nat.mul_le_mul (by omega) (by have:=h.ends;omega)
 have:=h.ends
 have:=h.ids
 have:=h.aaa
 unfold ij;omega
theorem Gd.sh {R M:Nat} {n N:am} (h:Gd R M n) (hs:zH n N) (hw:Dl N):Gd R M N:=by
 refine⟨by rw[hs.len];exact h.ends,fun k fs hf=>?_,by rw[hs.ids];exact h.ids,by rw[hs.aaa,hs.len];exact h.aaa,hw⟩
 obtain⟨es,he⟩:=ax n.ends k (by have:=ai hf;have:=hs.len;omega)
 obtain⟨gs,hg,hl⟩:=hs.row k es he;rw[hf]at hg;cases hg
 have:=h.row k es he
 omega
structure Mb (cb B pb:Nat) (A:Option Addr) (L c P:Nat) (w W:World) (ve vi vn:Value) (N:am) (S:List Nat):Prop where
 own:ao W B ve vi vn N S
 box:aS W pb ve vi vn
 nb:pb∉S
 cur:cW W cb A L c P
 far:CB cb B w W
theorem aS.blk {W W':World} {b:Nat} {x y z:Value} (h:aS W b x y z) (hb:W'.heap[b]?=W.heap[b]?):aS W' b x y z:=by
 obtain⟨r,hr⟩:=h;exact⟨r,hb.trans hr⟩
theorem Mb.seen {cb B pb:Nat} {A:Option Addr} {L c P P':Nat} {w W W':World} {ve vi vn:Value} {N:am} {S:List Nat} (h:Mb cb B pb A L c P w W ve vi vn N S) (hs:fR cb W W') (wI:cW W' cb A L c P') (hb:cb<B) (hp:B<=pb) (hB:B<=W.heap.size):Mb cb B pb A L c P' w W' ve vi vn N S:=
 ⟨h.own.seen hs hb,h.box.blk (hs.block pb h.box.lt (by omega)),h.nb,wI,h.far.trans (CB.mono hs hB)⟩
theorem Mb.since {cb B pb:Nat} {A:Option Addr} {L c P:Nat} {w W W':World} {ve vi vn:Value} {N:am} {S:List Nat} (h:Mb cb B pb A L c P w W ve vi vn N S) (hs:aa W W') (hb:cb<B) (hp:B<=pb) (hB:B<=W.heap.size):Mb cb B pb A L c P w W' ve vi vn N S:=h.seen (CB.of hs) (h.cur.since hs) hb hp hB
def aag (W:World) (b:Nat) (x y z:Value):World:=((W.setCell ⟨b,0,none⟩ x).setCell ⟨b,1,none⟩ y).setCell ⟨b,2,none⟩ z
theorem ep (W:World) (b:Nat) (x y z:Value):(aag W b x y z).heap.size=W.heap.size:=by simp[aag,jf]
theorem bU (W:World) (b:Nat) (x y z:Value) {j:Nat} (h:j≠b):(aag W b x y z).heap[j]?=W.heap[j]?:=by
 unfold aag;rw[Below.heap_setCell _ _ _ j (by exact h),Below.heap_setCell _ _ _ j (by exact h),Below.heap_setCell _ _ _ j (by exact h)]
theorem aS.aag {W:World} {b:Nat} {x y z:Value} (h:aS W b x y z) (x' y' z':Value):aS (aag W b x' y' z') b x' y' z':=by
 unfold Go.Proofs.YtgjggeapebbcbaaGreat.aag;exact((h.aat).aau).aav
theorem Mb.assign {cb B pb:Nat} {A:Option Addr} {L c P P':Nat} {w W W1:World} {ve vi vn a b d:Value} {N N':am} {S S':List Nat} {B':Nat} (h:Mb cb B pb A L c P w W ve vi vn N S) (hs:fR cb W W1) (wI:cW W1 cb A L c P') (ho:ao W1 B' a b d N' S') (hB':pb<B') (hb:cb<B) (hp:B<=pb) (hB:B<=W.heap.size):
  Mb cb B pb A L c P' w (aag W1 pb a b d) a b d N' S':=by
 have hn:pb∉S':=fun hj=>by have:=(ho.range _ hj).1;omega
 refine⟨(ho.aac (fun k hk=>bU W1 pb a b d (fun e=>hn (e ▸ hk)))).mono (by omega),(h.box.blk (hs.block pb h.box.lt (by omega))).aag _ _ _,hn,wI.aab (fun k hk=>bU W1 pb a b d (by omega)),?_⟩
 exact(((h.far.trans (CB.mono hs hB)).setCell (p:=⟨pb,0,none⟩) (.inl hp) _).setCell (p:=⟨pb,1,none⟩) (.inl hp) _).setCell (p:=⟨pb,2,none⟩) (.inl hp) _
theorem ao.aax {w:World} {base g c n:Nat} {ve vi:Value} {N:am} {S:List Nat} (h:ao w base ve vi (.slice (some ⟨g,0,none⟩) n c) N S) {k:Nat} (x:Int) (_:k<N.aaa.length):
  g∈S/\w.frozen? ⟨g,k,none⟩=false/\ao (w.setCell ⟨g,k,none⟩ (.int .i64 x)) base ve vi (.slice (some ⟨g,0,none⟩) n c) { N with aaa:=N.aaa.set k x } S:=by
 obtain⟨S1,S2,S3,h1,h2,h3,h4,h5⟩:=h
 have hg:g∈S3:=by rw[h3.2];simp[Value.ownBlock]
 have lx:=h5;rw[h4,List.nodup_append,List.nodup_append]at h5;have d1:∀j∈S1,j≠g:=fun j hj e=>h5.2.2 j hj g (List.mem_append_right _ hg) e
 have d2:∀j∈S2,j≠g:=fun j hj e=>h5.2.1.2.2 j hj g hg e
 exact⟨by rw[h4];exact List.mem_append_right _ (List.mem_append_right _ hg),h3.1.free k,S1,S2,S3,ii.aac h1 (fun j hj=>Below.heap_setCell _ _ _ _ (d1 j hj)),dF.aac h2 (fun j hj=>Below.heap_setCell _ _ _ _ (d2 j hj)),⟨h3.1.set x,h3.2⟩,h4,lx⟩
def tO (cb B:Nat) (A:Option Addr) (L c P:Nat) (w:World) (T:am->Prop) (e:Ending) (w':World):Prop:=
 ∃ve vi vn N S,e=.returned (.agg #[ve,vi,vn])/\ao w' B ve vi vn N S/\T N/\cW w' cb A L c P/\CB cb B w w'
theorem ao.aay {w:World} {base k c:Nat} {A:Option Addr} {ve vi:Value} {N:am} {S:List Nat} (h:ao w base ve vi (.slice A k c) N S) (h0:0<N.aaa.length):∃g,A=some ⟨g,0,none⟩:=by
 obtain⟨S1,S2,S3,_,_,h3,_⟩:=h;rcases h3.1.cases with⟨-,h2⟩ | ⟨g,c',hv,_⟩
 ·rw[h2]at h0;simp at h0
 ·cases hv;exact⟨g,rfl⟩
theorem ao.aaA {w:World} {base g k c j:Nat} {ve vi:Value} {N:am} {S:List Nat} (h:ao w base ve vi (.slice (some ⟨g,0,none⟩) k c) N S) (hj:j<N.aaa.length):∃z,w.cell? ⟨g,j,none⟩=some z:=by
 obtain⟨S1,S2,S3,_,_,h3,_⟩:=h;obtain⟨x,hx⟩:=ax N.aaa j hj;exact⟨_,h3.1.cell hx⟩
theorem n5 (cb:Nat) (A:Option Addr) (L c P B R M:Nat) (ve vi vn:Value) (n:am) (S:List Nat) (w:World) (hc:cW w cb A L c P) (hP:P<=4611686018426000000) (h:ao w B ve vi vn n S) (jw:cb<B) (yF:B<=w.heap.size) (hg:Gd R M n) (hR:R<=100) (hM:M<=100) (Po:0<n.ends.length):
  Calls Tryz.prog 142 #[.pointer (some ⟨cb,0,none⟩),.agg #[ve,vi,vn]] w (tO cb B A L c (P+100000) w (fun N=>zH n N/\Gd R M N)):=by
 obtain⟨A1,c1,rfl,-,tb,-⟩:=id h.read.1;obtain⟨AI,cI,rfl,-,-,-⟩:=id h.read.2.1;obtain⟨AN,cN,rfl,-,-,-⟩:=id h.read.2.2;obtain⟨pb,dy⟩:∃z,z=w.heap.size:=⟨_,rfl⟩
 obtain⟨w0,au⟩:∃z,z=w.alloc (.cells #[.slice A1 n.ends.length c1,.slice AI n.ids.length cI,.slice AN n.aaa.length cN] 27):=⟨_,rfl⟩
 obtain⟨wa,f7⟩:∃z,z=w0.alloc (.cells #[.slice none 0 0,.slice none 0 0,.slice none 0 0] 27):=⟨_,rfl⟩
 have aX:aa w w0:=by rw[au];exact ae _ (ab _)
 have bu:aa w0 wa:=by rw[f7];exact ae _ (ab _)
 have jB:w0.heap.size=w.heap.size+1:=by rw[au];simp
 have bO:aS w0 pb (.slice A1 n.ends.length c1) (.slice AI n.ids.length cI) (.slice AN n.aaa.length cN):=by rw[au,dy];exact aS.new _ _ _ _ _
 have j1:aT wa (w.heap.size+1) (.slice none 0 0) (.slice none 0 0) (.slice none 0 0):=by
  rw[f7,<- jB];show(w0.heap.push _)[w0.heap.size]?=_
  rw[Array.getElem?_push_size]
 have qI:aa w wa:=aX.after bu
 have pC:Mb cb B pb A L c P w wa (.slice A1 n.ends.length c1) (.slice AI n.ids.length cI) (.slice AN n.aaa.length cN) n S:=
  ⟨h.aab qI.below,bO.below bu (by rw[jB,dy];omega),fun hj=>by have:=(h.range _ hj).2;omega,hc.since qI,CB.mono (CB.of qI) yF⟩
 have cA:Hid (B<=pb/\pb+2=wa.heap.size/\pb=w.heap.size):=⟨by omega,by rw[dy,f7];simp;omega,dy⟩
 have XS:Hid (∀j∈S,j<pb):=fun j hj=>by have:=(h.range j hj).2;omega
 have mI:=zh j1;have rg:=zh pC;have Hg:=zh hg;have bM:=zh au;have tj:=zh f7;have dx:=pC.box.cells
 have If:n.ends.length<=100:=by have:=hg.ends;omega
 clear hc h aX bu bO j1 qI pC hg au f7 dy jB
 go_enter Tryz.func142,Tryz.ntmps142
 go_upto_region 1 with(fail);rw[<- bM.out,<- tj.out,<- cA.out.2.2];obtain⟨x0,x1,x2,-,-,-⟩:=dx;clear yF;go_wp2
 go_loopw [10] (fun i wr=>∃(k:Nat) (ve vi vn:Value) (N:am) (S:List Nat),k<=n.ends.length/\i=.int .i64 k/\Mb cb B pb A L c (P+202*k) w wr ve vi vn N S/\zH n N/\Gd R M N/\aT wr (pb+1) (.slice none 0 0) (.slice none 0 0) (.slice none 0 0)/\pb+1∉S/\wa.heap.size<=wr.heap.size) (fun i _=>n.ends.length-(intOf i).toNat)
 case atStart=>exact⟨0,_,_,_,n,S,Nat.zero_le _,rfl,by simpa using rg.out,zH.refl _,Hg.out,by rw[cA.out.2.2];exact mI.out,fun hj=>by have:=XS.out _ hj;omega,Nat.le_refl _⟩
 case round=>
  obtain⟨k,ve,vi,vn,N,S2,hk,rfl,hm,gb,gA,j1,UA,dM⟩:=hrel;clear x0 x1 x2;obtain⟨zq,iN,rfl,-,Eg,-⟩:=id hm.own.read.1;obtain⟨lX,lY,rfl,-,-,-⟩:=id hm.own.read.2.1;obtain⟨rh,n6,rfl,-,-,-⟩:=id hm.own.read.2.2;have jG:=gb.len;obtain⟨g,rfl,-⟩:=hm.own.head (by omega);have Hm:=zh hm;have rG:=zh gb;have iR:=zh gA;have Eh:=zh j1;have NS:=zh UA;have li:=zh dM;have ei:=zh jG
  have UB:Hid (B<=wr.heap.size):=by show _<=_;have:=cA.out;omega
  have NT:=hm.cur;clear hm gb gA j1 UA dM jG
  by_cases aH:k<n.ends.length
  ·have m4:IntKind.i64.wrap ((k:Int)+1)=(k:Int)+1:=aR _ (by omega) (by omega);have Ig:=zh NT;clear NT;go_wp2_with fail;refine(re cb A L c (P+202*k) 2 wr Ig.out (by omega) (by omega)).mono ?_;rintro e w2 ⟨b,rfl,nN,pu⟩;have gX:=zh (Hm.out.seen pu nN jw cA.out.1 UB.out)
   have yY:Hid (aT w2 (pb+1) (.slice none 0 0) (.slice none 0 0) (.slice none 0 0)):=(pu.block _ Eh.out.lt (by have:=cA.out;omega)).trans Eh.out
   have lZ:Hid (wa.heap.size<=w2.heap.size):=Nat.le_trans li.out pu.size;have Ei:=zh nN;clear nN pu;cases b
   ·go_wp2;go_roundw
    case rel=>exact⟨k+1,_,_,_,N,S2,by omega,by first | rfl | go_num,⟨gX.out.own,gX.out.box,gX.out.nb,Ei.out.mono (by omega),gX.out.far⟩,rG.out,iR.out,yY.out,NS.out,lZ.out⟩
    case measure=>simp[intOf];omega
   ·obtain⟨xv,gC⟩:∃z,z=bg N k:=⟨_,rfl⟩
    have nq:=a_ (n:=N) (v:=k) (by have:=ei.out;omega)
    rw[<- gC]at nq;have pU:=zh gC
    have tF:Hid (xv.length<=100):=by show _<=_;have:=iR.out.row _ _ nq;omega
    obtain⟨u,T,hu,-,hR,-,-,qG⟩:=gX.out.own.aah nq;obtain⟨AU,cU,rfl,-,-,-⟩:=id hR.read
    have Ej:g≠cb:=fun e=>by have:=(gX.out.own.range g qG).1;omega
    have gz:pb≠cb:=by have:=cA.out;omega
    have NU:=zh nq;obtain⟨b0,b1,b2,-,-,-⟩:=gX.out.box.cells;have rP:=zh (And.intro b0 (And.intro b1 (And.intro b2 hu)))
    have UC:Hid (k<N.ends.length):=by show _<_;have:=ei.out;omega
    clear gC nq hR qG b0 b1 b2 hu;go_upto_region 5 with(fail);have XT:=UC.out;refine ar (fun W=>W.cell? ⟨pb,0,none⟩=some (.slice (some ⟨g,0,none⟩) N.ends.length iN)/\W.cell? ⟨pb,1,none⟩=some (.slice lX N.ids.length lY)/\W.cell? ⟨pb,2,none⟩=some (.slice rh N.aaa.length n6)/\W.cell? ⟨g,k,none⟩=some (.slice AU xv.length cU)) 11 [false,false,false,false,false,false,false,false,false,true,true] (by kernel_rfl) (by kernel_rfl) (show(World.drew w2).cell? ⟨pb,0,none⟩=some (.slice (some ⟨g,0,none⟩) N.ends.length iN)/\(World.drew w2).cell? ⟨pb,1,none⟩=some (.slice lX N.ids.length lY)/\(World.drew w2).cell? ⟨pb,2,none⟩=some (.slice rh N.aaa.length n6)/\(World.drew w2).cell? ⟨g,k,none⟩=some (.slice AU xv.length cU)from rP.out) ?_
    simp only[df,b8,zT]
    iterate 9 (apply aU rfl;(intro W hW;(obtain⟨k0,k1,k2,k3⟩:=hW);go_simp;with_reducible rfl);simp only[zA])
    obtain⟨W,bB⟩:∃W,W=World.drew w2:=⟨_,rfl⟩
    rw[<- bB];have hW:=(show(World.drew w2).cell? ⟨pb,0,none⟩=some (.slice (some ⟨g,0,none⟩) N.ends.length iN)/\(World.drew w2).cell? ⟨pb,1,none⟩=some (.slice lX N.ids.length lY)/\(World.drew w2).cell? ⟨pb,2,none⟩=some (.slice rh N.aaa.length n6)/\(World.drew w2).cell? ⟨g,k,none⟩=some (.slice AU xv.length cU)from rP.out);rw[<- bB]at hW;have dX:=zh bB;clear bB;refine Or.inl ⟨rfl,?_⟩
    go_simp
    (with_reducible refine(BW cb A L c (P+202*k+2) xv.length W (by rw[dX.out];exact Ei.out.since (ah (ab _))) (by omega) tF.out).mono ?_)
    rintro e W' ⟨gp,xs,rfl,yb,dy,gW,hC⟩;refine⟨_,rfl,And.intro (ap hW.1 gz _ hC) (And.intro (ap hW.2.1 gz _ hC) (And.intro (ap hW.2.2.1 gz _ hC) (ap hW.2.2.2 Ej _ hC))),?_⟩
    replace hW:=And.intro (ap hW.1 gz _ hC) (And.intro (ap hW.2.1 gz _ hC) (And.intro (ap hW.2.2.1 gz _ hC) (ap hW.2.2.2 Ej _ hC)))
    have jA:aa w2 W:=(by rw[dX.out];exact ah (ab _))
    have pu:fR cb w2 W':=((fR.refl cb w2).after jA).trans hC;have NV:=zh yb;have QF:=zh dy;have Cc:=zh gW;have pr:=zh pu;clear yb dy gW hC pu jA;obtain⟨wp,rfl⟩:∃z,z=W':=⟨_,rfl⟩
    (try simp only[zA])
    refine Or.inl ⟨rfl,?_⟩
    go_simp
    (with_reducible refine(tN _ _ _ _ N k xs _ (gX.out.own.seen pr.out jw).read UC.out (iR.out.small hR hM) iR.out.wf NV.out.ints (by rw[<- pU.out];exact NV.out.len) (by rw[<- pU.out];exact QF.out)).mono ?_)
    rintro e W' ⟨N2,dS,eY,LK,LM,LN,S3,rfl,cy,hb2⟩;refine⟨_,rfl,And.intro (bc hb2 hW.1) (And.intro (bc hb2 hW.2.1) (And.intro (bc hb2 hW.2.2.1) (bc hb2 hW.2.2.2))),?_⟩
    replace hW:=And.intro (bc hb2 hW.1) (And.intro (bc hb2 hW.2.1) (And.intro (bc hb2 hW.2.2.1) (bc hb2 hW.2.2.2)))
    skip
    (try simp only[zA])
    simp only[aQ];obtain⟨D0,d0,rfl,-,-,-⟩:=id cy.read.1;obtain⟨D1,d1,rfl,-,-,-⟩:=id cy.read.2.1;obtain⟨D2,d2,rfl,-,-,-⟩:=id cy.read.2.2;have np:fR cb w2 W':=pr.out.after hb2;have GL:pb<wp.heap.size:=Nat.lt_of_lt_of_le gX.out.box.lt pr.out.size
    have tP:=gX.out.assign np (Cc.out.since hb2) cy GL jw cA.out.1 (by have h1:=lZ.out;have h2:=cA.out;omega)
    have Ek:aS W' pb (.slice (some ⟨g,0,none⟩) N.ends.length iN) (.slice lX N.ids.length lY) (.slice rh N.aaa.length n6):=gX.out.box.blk (np.block pb gX.out.box.lt gz)
    have LO:aT (aag W' pb (.slice D0 N2.ends.length d0) (.slice D1 N2.ids.length d1) (.slice D2 N2.aaa.length d2)) (pb+1) (.slice none 0 0) (.slice none 0 0) (.slice none 0 0):=(bU W' pb _ _ _ (by omega)).trans ((np.block _ yY.out.lt (by have:=cA.out;omega)).trans yY.out)
    have LP:pb+1∉S3:=fun hj=>by have h1:=(cy.range _ hj).1;have h2:=pr.out.size;have h3:=lZ.out;have h4:=cA.out;omega
    have j3:wa.heap.size<=(aag W' pb (.slice D0 N2.ends.length d0) (.slice D1 N2.ids.length d1) (.slice D2 N2.aaa.length d2)).heap.size:=by rw[ep];exact Nat.le_trans lZ.out np.size
    obtain⟨-,-,-,f0,f1,f2⟩:=Ek.cells;obtain⟨k0,k1,k2,k3⟩:=hW;have k_:=zh tP;have QG:=zh LO;have QH:=zh LP;have pD:=zh j3;have g7:=zh (rG.out.trans dS.shp);have Cd:=zh (iR.out.sh dS.shp eY);clear tP Ek LO LP j3 np cy hb2 dS eY XT GL;go_wp2;go_roundw
    case rel=>exact⟨k+1,_,_,_,N2,S3,by omega,by first | rfl | go_num,⟨k_.out.own,k_.out.box,k_.out.nb,k_.out.cur.mono (by omega),k_.out.far⟩,g7.out,Cd.out,QG.out,QH.out,pD.out⟩
    case measure=>simp[intOf];omega
  ·obtain rfl:k=n.ends.length:=by omega
   have Ig:=zh NT;clear NT;obtain⟨wo,rfl⟩:∃z,z=wr:=⟨_,rfl⟩
   go_wp2_with fail;refine(re cb A L c (P+202*n.ends.length) 3 wo Ig.out (by omega) (by omega)).mono ?_;rintro e w2 ⟨b,rfl,nN,pu⟩;have gX:=zh (Hm.out.seen pu nN jw cA.out.1 UB.out)
   have yY:Hid (aT w2 (pb+1) (.slice none 0 0) (.slice none 0 0) (.slice none 0 0)):=(pu.block _ Eh.out.lt (by have:=cA.out;omega)).trans Eh.out
   have lZ:Hid (wa.heap.size<=w2.heap.size):=Nat.le_trans li.out pu.size;clear nN pu;cases b
   ·have yZ:=gX;have QI:=yY;have Ce:=rG;have LQ:=iR;obtain⟨NZ,Jz⟩:∃z,z=N:=⟨_,rfl⟩
    rw[<- Jz]at Ce LQ
    have LR:Hid (Mb cb B pb A L c (P+202*n.ends.length+2) w w2 (.slice (some ⟨g,0,none⟩) N.ends.length iN) (.slice lX N.ids.length lY) (.slice rh N.aaa.length n6) NZ S2):=by rw[Jz];exact yZ
    clear yZ Jz;have yZ:=LR;clear LR;have Ek:=yZ.out.box.cells;obtain⟨k0,k1,k2,-,-,-⟩:=Ek;have QJ:=QI.out.box.cells;obtain⟨e0,e1,e2,f0,f1,f2⟩:=QJ;go_wp2;refine bodyPost_ret (v:=.agg #[.slice (some ⟨g,0,none⟩) N.ends.length iN,.slice lX N.ids.length lY,.slice rh N.aaa.length n6]) (by simp[results,Tryz.results142,go_sem, *]) rfl ?_;refine⟨_,_,_,NZ,S2,rfl,yZ.out.own.aac (fun q hq=>?_),⟨Ce.out,LQ.out⟩,yZ.out.cur.mono (by omega) |>.aab (fun q hq=>?_),?_⟩
    ·have lQ:q≠pb+1:=fun e=>NS.out (e ▸ hq)
     rw[Below.heap_setCell _ _ _ q (by exact lQ),Below.heap_setCell _ _ _ q (by exact lQ),Below.heap_setCell _ _ _ q (by exact lQ)]
    ·have lQ:q≠pb+1:=by have:=cA.out;omega
     rw[Below.heap_setCell _ _ _ q (by exact lQ),Below.heap_setCell _ _ _ q (by exact lQ),Below.heap_setCell _ _ _ q (by exact lQ)]
    ·have iU:B<=pb+1:=by have:=cA.out;omega
     exact((yZ.out.far.setCell (p:=⟨pb+1,0,none⟩) (.inl iU) _).setCell (p:=⟨pb+1,1,none⟩) (.inl iU) _).setCell (p:=⟨pb+1,2,none⟩) (.inl iU) _
   ·have gz:pb≠cb:=by have:=cA.out;omega
    have Ek:=gX.out.box.cells;have k2:=Ek.2.2.1
    have Dd:Hid (N.aaa.length<=100):=by show _<=_;have:=iR.out.aaa;have:=iR.out.ends;omega
    clear Ek;go_upto_region 9 with(fail);clear k2;obtain⟨Q,hQ⟩:∃z,z=P+202*n.ends.length+2:=⟨_,rfl⟩
    have UD:=zh hQ;rw[<- hQ]at gX;clear hQ
    go_loopw [32] (fun i wr=>∃(j:Nat) (ys:List Int),j<=N.aaa.length/\i=.int .i64 j/\ys.length=N.aaa.length/\Mb cb B pb A L c (Q+2*j) w wr (.slice (some ⟨g,0,none⟩) N.ends.length iN) (.slice lX N.ids.length lY) (.slice rh N.aaa.length n6) { N with aaa:=ys } S2/\aT wr (pb+1) (.slice none 0 0) (.slice none 0 0) (.slice none 0 0)/\wa.heap.size<=wr.heap.size) (fun i _=>N.aaa.length-(intOf i).toNat)
    case atStart=>exact⟨0,N.aaa,Nat.zero_le _,rfl,rfl,gX.out,yY.out,lZ.out⟩
    case round=>
     obtain⟨j,ys,hj,rfl,JA,hm,j1,dM⟩:=hrel;have JB:=zh hm;have Ih:=zh j1;have vv:=zh dM;have Ii:=zh JA;clear hm j1 dM JA
     have XU:Hid (B<=wr.heap.size):=by show _<=_;have h1:=vv.out;have h2:=cA.out;omega
     by_cases vq:j<N.aaa.length
     ·obtain⟨gi,rfl⟩:=JB.out.own.aay (by show 0<ys.length;have:=Ii.out;omega)
      have k2:=JB.out.box.cells.2.2.1;have UE:=zh k2
      have m5:IntKind.i64.wrap ((j:Int)+1)=(j:Int)+1:=aR _ (by omega) (by have:=Dd.out;omega)
      clear k2;go_upto_region 11 with(fail);refine ar (fun W=>W.cell? ⟨pb,2,none⟩=some (.slice (some ⟨gi,0,none⟩) N.aaa.length n6)) 5 [false,false,false,false,true] (by kernel_rfl) (by kernel_rfl) (show(World.drew wr).cell? ⟨pb,2,none⟩=some (.slice (some ⟨gi,0,none⟩) N.aaa.length n6)from UE.out) ?_
      simp only[df,b8,zT]
      iterate 4 (apply aU rfl;(intro W hW;(have k2:=hW);go_simp;with_reducible rfl);simp only[zA])
      obtain⟨W,bB⟩:∃W,W=World.drew wr:=⟨_,rfl⟩
      rw[<- bB];have hW:=(show(World.drew wr).cell? ⟨pb,2,none⟩=some (.slice (some ⟨gi,0,none⟩) N.aaa.length n6)from UE.out);rw[<- bB]at hW;have dX:=zh bB;clear bB;refine Or.inl ⟨rfl,?_⟩
      go_simp
      (with_reducible refine(dG cb A L c (Q+2*j) 3 W (by rw[dX.out];exact JB.out.cur.since (ah (ab _))) (by have:=UD.out;have:=Dd.out;omega) (by omega)).mono ?_)
      rintro e W' ⟨x,rfl,hx,gW,hC⟩;refine⟨_,rfl,ap hW gz _ hC,?_⟩
      replace hW:=ap hW gz _ hC
      have jA:aa wr W:=(by rw[dX.out];exact ah (ab _))
      have kW:fR cb wr W':=((fR.refl cb wr).after jA).trans hC;have FO:=zh (JB.out.seen kW gW jw cA.out.1 XU.out)
      have XV:Hid (aT W' (pb+1) (.slice none 0 0) (.slice none 0 0) (.slice none 0 0)):=(kW.block _ Ih.out.lt (by have:=cA.out;omega)).trans Ih.out
      have LS:Hid (wa.heap.size<=W'.heap.size):=Nat.le_trans vv.out kW.size;clear hC gW kW jA
      (try simp only[zA])
      simp only[aQ]
      obtain⟨q1,q2,q3⟩:=FO.out.own.aax (k:=j) (x:Int) (by show j<ys.length;have:=Ii.out;omega)
      obtain⟨z0,q4⟩:=FO.out.own.aaA (j:=j) (by show j<ys.length;have:=Ii.out;omega)
      have UF:gi≠pb:=fun e=>FO.out.nb (e ▸ q1)
      have rt:gi≠pb+1:=fun e=>NS.out (e ▸ q1)
      have UG:=(FO.out.own.range gi q1).1
      have UH:Mb cb B pb A L c (Q+2*(j+1)) w (W'.setCell ⟨gi,j,none⟩ (.int .i64 (x:Int))) (.slice (some ⟨g,0,none⟩) N.ends.length iN) (.slice lX N.ids.length lY) (.slice (some ⟨gi,0,none⟩) N.aaa.length n6) { N with aaa:=ys.set j (x:Int) } S2:=
       ⟨q3,FO.out.box.set UF,FO.out.nb,(FO.out.cur.mono (by omega)).aab (fun q hq=>Below.heap_setCell _ _ _ _ (by show q≠gi;omega)),FO.out.far.setCell (p:=⟨gi,j,none⟩) (.inl UG) _⟩
      have XW:=zh UH;have QK:Hid (aT (W'.setCell ⟨gi,j,none⟩ (.int .i64 (x:Int))) (pb+1) (.slice none 0 0) (.slice none 0 0) (.slice none 0 0)):=XV.out.other (Ne.symm rt)
      have XX:Hid (wa.heap.size<=(W'.setCell ⟨gi,j,none⟩ (.int .i64 (x:Int))).heap.size):=by show _<=_;rw[jf];exact LS.out
      clear q1 q3 UF rt UG UH hx;go_wp2;go_roundw
      case rel=>exact⟨j+1,_,by omega,by first | rfl | go_num,by rw[List.length_set];exact Ii.out,XW.out,QK.out,XX.out⟩
      case measure=>simp[intOf];omega
     ·obtain rfl:j=N.aaa.length:=by omega
      have yZ:=JB;have QI:=Ih;have NW:=UD.out;have Ij:zH N { N with aaa:=ys }:=⟨rfl,Ii.out,rfl,fun k es he=>⟨es,he,rfl⟩⟩
      have Ce:=zh (rG.out.trans Ij)
      have LQ:=zh (iR.out.sh Ij (fun k es he e hm=>by
       obtain⟨a,b,fs,h1,h2,h3⟩:=iR.out.wf k es he e hm
       exact⟨a,b,fs,h1,h2,h3⟩))
      obtain⟨NZ,Jz⟩:∃z,z=({ N with aaa:=ys }:am):=⟨_,rfl⟩
      rw[<- Jz]at Ce LQ yZ;have XY:=zh Dd.out;clear Jz Ij JB vq hj
      have XZ:Hid (Q+2*N.aaa.length<=P+100000):=by show _<=_;have:=Dd.out;omega
      clear NW;have Ek:=yZ.out.box.cells;obtain⟨k0,k1,k2,-,-,-⟩:=Ek;have QJ:=QI.out.box.cells;obtain⟨e0,e1,e2,f0,f1,f2⟩:=QJ;go_wp2;refine bodyPost_ret (v:=.agg #[.slice (some ⟨g,0,none⟩) N.ends.length iN,.slice lX N.ids.length lY,.slice rh N.aaa.length n6]) (by simp[results,Tryz.results142,go_sem, *]) rfl ?_;refine⟨_,_,_,NZ,S2,rfl,yZ.out.own.aac (fun q hq=>?_),⟨Ce.out,LQ.out⟩,yZ.out.cur.mono XZ.out |>.aab (fun q hq=>?_),?_⟩
      ·have lQ:q≠pb+1:=fun e=>NS.out (e ▸ hq)
       rw[Below.heap_setCell _ _ _ q (by exact lQ),Below.heap_setCell _ _ _ q (by exact lQ),Below.heap_setCell _ _ _ q (by exact lQ)]
      ·have lQ:q≠pb+1:=by have:=cA.out;omega
       rw[Below.heap_setCell _ _ _ q (by exact lQ),Below.heap_setCell _ _ _ q (by exact lQ),Below.heap_setCell _ _ _ q (by exact lQ)]
      ·have iU:B<=pb+1:=by have:=cA.out;omega
       exact((yZ.out.far.setCell (p:=⟨pb+1,0,none⟩) (.inl iU) _).setCell (p:=⟨pb+1,1,none⟩) (.inl iU) _).setCell (p:=⟨pb+1,2,none⟩) (.inl iU) _
theorem fW {n:am} {v:Nat} (hv:v<n.ends.length) (e:Int×Int) (k:Nat):bg (kZ n v e) k=if k=v then bg n v++[e] else bg n k:=by
 unfold bg kZ
 simp only[zDd]
 by_cases h:k=v
 ·subst h;rw[if_pos rfl,List.getElem?_set_self hv];rfl
 ·rw[if_neg h,List.getElem?_set_ne (Ne.symm h)]
theorem j4 {n:am} {k:Nat} {es:List (Int×Int)} (h:n.ends[k]?=some es):bg n k=es:=by
 unfold bg;rw[zDd,h];rfl
theorem ww.add {n:am} {v:Nat} (hv:v<n.ends.length) (e:Int×Int) {x:Int×Int} (h:ww n x):ww (kZ n v e) x:=by
 obtain⟨a,b,fs,h1,h2,h3⟩:=h
 have ha:a<(kZ n v e).ends.length:=by rw[eQ];exact ai h2
 refine⟨a,b,_,h1,a_ ha,?_⟩;rw[fW hv,j4 h2]
 split
 ·rename_i h;subst h;rw[j4 h2,List.length_append];omega
 ·exact h3
theorem jZ.add {m n:am} {v:Nat} (h:jZ m n) (hv:v<n.ends.length) {e:Int×Int} (he:ww m e):jZ m (kZ n v e):=fun k es hk x hx=>by
 have h1:=j4 hk;rw[fW hv]at h1
 have mZ:k<n.ends.length:=by have:=ai hk;rwa [eQ]at this
 split at h1
 ·rw[<- h1]at hx;rcases List.mem_append.1 hx with h2 | h2
  ·exact h v _ (a_ hv) x h2
  ·rw[List.mem_singleton.1 h2];exact he
 ·rw[<- h1]at hx;exact h k _ (a_ mZ) x hx
theorem n7 {n:am} {v u:Nat} (h:Dl n) (hv:v<n.ends.length) (hu:u<n.ends.length):Dl (bC n v u):=by
 have LU:u<(kZ n v ((u:Int),if v=u then ((bg n u).length:Int)+1 else ((bg n u).length:Int))).ends.length:=by rw[eQ];exact hu
 have hl:(bC n v u).ends.length=n.ends.length:=by unfold bC;rw[eQ,eQ]
 have bT:∀k,bg (bC n v u) k=if k=u then (if u=v then bg n v++[((u:Int),if v=u then ((bg n u).length:Int)+1 else ((bg n u).length:Int))] else bg n u)++[((v:Int),((bg n v).length:Int))] else if k=v then bg n v++[((u:Int),if v=u then ((bg n u).length:Int)+1 else ((bg n u).length:Int))] else bg n k:=fun k=>by
  unfold bC;rw[fW LU,fW hv,fW hv]
 have h0:jZ (bC n v u) n:=fun k es hk x hx=>((h k es hk x hx).add hv _).add LU _
 have e1:ww (bC n v u) ((v:Int),((bg n v).length:Int)):=by
  refine⟨v,(bg n v).length,_,rfl,a_ (by omega),?_⟩;rw[bT]
  by_cases e:v=u
  ·subst e;simp
  ·rw[if_neg e,if_pos rfl];simp
 have e2:ww (bC n v u) ((u:Int),if v=u then ((bg n u).length:Int)+1 else ((bg n u).length:Int)):=by
  by_cases e:v=u
  ·subst e;refine⟨v,(bg n v).length+1,_,by simp,a_ (by omega),?_⟩
   rw[bT];simp
  ·refine⟨u,(bg n u).length,_,by rw[if_neg e],a_ (by omega),?_⟩
   rw[bT,if_pos rfl,if_neg (Ne.symm e)];simp
 exact(h0.add hv e2).add LU e1
theorem gY {n:am} {v u:Nat} (hv:v<n.ends.length) (hu:u<n.ends.length) (k:Nat):(bg (bC n v u) k).length=(bg n k).length+(if k=u then 1 else 0)+(if k=v then 1 else 0):=by
 have LU:u<(kZ n v ((u:Int),if v=u then ((bg n u).length:Int)+1 else ((bg n u).length:Int))).ends.length:=by rw[eQ];exact hu
 unfold bC;rw[fW LU,fW hv,fW hv]
 by_cases a:k=u
 ·subst a
  by_cases b:k=v
  ·subst b;simp
  ·simp[b]
 ·by_cases b:k=v
  ·subst b;simp[a]
  ·simp[a,b]
theorem b_ (n:am) (v u:Nat):(bC n v u).ends.length=n.ends.length:=by unfold bC;rw[eQ,eQ]
theorem Gd.join {R M:Nat} {n:am} {v u:Nat} (h:Gd R M n) (hv:v<n.ends.length) (hu:u<n.ends.length):Gd (R+2) M (bC n v u):=by
 refine⟨by rw[b_];exact h.ends,fun k es hk=>?_,h.ids,by rw[b_];exact h.aaa,n7 h.wf hv hu⟩
 have h1:=j4 hk
 have mZ:k<n.ends.length:=by have:=ai hk;rwa [b_]at this
 rw[<- h1,gY hv hu]
 have:=h.row k _ (a_ mZ)
 split <;> split <;> omega
theorem Gd.mono {R R' M M':Nat} {n:am} (h:Gd R M n) (hR:R<=R') (hM:M<=M'):Gd R' M' n:=⟨by have:=h.ends;omega,fun k es hk=>by have:=h.row k es hk;omega,by have:=h.ids;omega,h.aaa,h.wf⟩
theorem Gd.empty {M m:Nat} (hm:m<=M):Gd 0 M (bP m):=⟨by simp[bP];omega,fun k es hk=>by
 have:=List.mem_of_getElem? hk
 simp[bP]at this
 rw[this.2];simp,by simp[bP],by simp[bP],fun k es hk e he=>by
 have:=List.mem_of_getElem? hk
 simp[bP]at this
 rw[this.2]at he
 simp at he⟩
theorem El {n:am} {v:Nat} (h:Dl n) (hv:v<n.ends.length):Dl (gT n v):=by
 have h0:jZ (gT n v) n:=fun k es hk x hx=>(h k es hk x hx).add hv _
 have hl:(gT n v).ends.length=n.ends.length:=eQ _ _ _;refine h0.add hv ⟨v,(bg n v).length,_,rfl,a_ (by omega),?_⟩;unfold gT;rw[fW hv,if_pos rfl];simp
theorem Cf {n:am} {v:Nat} (hv:v<n.ends.length) (k:Nat):(bg (gT n v) k).length=(bg n k).length+(if k=v then 1 else 0):=by
 unfold gT;rw[fW hv]
 by_cases b:k=v
 ·subst b;simp
 ·simp[b]
theorem l3 (n:am) (v:Nat):(gT n v).ends.length=n.ends.length:=eQ _ _ _
theorem CB.aap {cb B b:Nat} {w w':World} {x y z:Value} (h:CB cb B w w') (hx:aT w b x y z) (hb:b<B) (hn:b≠cb):aT w' b x y z:=(h.block b hb hn).trans hx
theorem eV {cb P:Nat} {A:Option Addr} {L c:Nat} {w w0 W:World} {ve vi vn:Value} {N:am} {S:List Nat} (h0:aa w w0) (ho:ao W (w.heap.size+1) ve vi vn N S) (hc:cW W cb A L c P) (hf:CB cb (w.heap.size+1) w0 W) (jw:cb<w.heap.size):
  ao (aag W w.heap.size ve vi vn) w.heap.size ve vi vn N S/\cW (aag W w.heap.size ve vi vn) cb A L c P/\CB cb w.heap.size w (aag W w.heap.size ve vi vn):=by
 refine⟨(ho.aac (fun k hk=>bU _ _ _ _ _ (by have:=(ho.range k hk).1;omega))).mono (by omega),hc.aab (fun k hk=>bU _ _ _ _ _ (by omega)),?_⟩
 have h1:CB cb w.heap.size w W:=(CB.of h0.below).trans (hf.mono (by omega));exact((h1.setCell (p:=⟨w.heap.size,0,none⟩) (.inl (Nat.le_refl _)) _).setCell (p:=⟨w.heap.size,1,none⟩) (.inl (Nat.le_refl _)) _).setCell (p:=⟨w.heap.size,2,none⟩) (.inl (Nat.le_refl _)) _
def TN (R M:Nat) (N:am):Prop:=Gd R M N/\0<N.ends.length
theorem Cg (cb:Nat) (A:Option Addr) (L c P most M:Nat) (w:World) (hc:cW w cb A L c P) (hP:P<=4611686018425000000) (zv:1<=most) (qn:most<=M) (hM:M<=40):
  Calls Tryz.prog 136 #[.pointer (some ⟨cb,0,none⟩),.int .i64 most] w (tO cb w.heap.size A L c (P+200000) w (TN 100 M)):=by
 have jw:=hc.lt;obtain⟨B,rT⟩:∃z,z=w.heap.size+1:=⟨_,rfl⟩
 obtain⟨w0,au⟩:∃z,z=w.alloc (.cells #[.slice none 0 0,.slice none 0 0,.slice none 0 0] 27):=⟨_,rfl⟩
 have aX:aa w w0:=by rw[au];exact ae _ (ab _)
 have eS:w0.heap.size=B:=by rw[au,rT];simp
 have j1:aT w0 w.heap.size (.slice none 0 0) (.slice none 0 0) (.slice none 0 0):=by
  rw[au];show(w.heap.push _)[w.heap.size]?=_
  rw[Array.getElem?_push_size]
 have mI:=zh j1;have mJ:=zh aX;have bM:=zh au;have fI:=zh rT;have pV:=zh eS;have y5:=zh (hc.since aX);clear j1 aX au hc rT eS
 go_enter Tryz.func136,Tryz.ntmps136
 go_upto_region 1 with(fail);rw[<- bM.out];go_wp2_with fail;refine(dG cb A L c P most w0 y5.out (by omega) (by omega)).mono ?_;rintro e w1 ⟨x,rfl,hx,l4,kw⟩;obtain⟨m,hm⟩:∃m:Nat,m=x+1:=⟨_,rfl⟩
 have m1:IntKind.i64.wrap (1+(x:Int))=(m:Int):=by rw[aR _ (by omega) (by omega)];omega
 have JC:m<=M:=by omega
 have Hj:0<m:=by omega
 have qo:=zh l4;have y6:=zh kw;clear l4 kw hx;have Hm:=zh hm;clear hm;go_wp2_with fail;refine(jY m (by omega) w1).mono ?_;rintro e w2 ⟨NX,NY,N1,S0,rfl,ho,hb2⟩;obtain⟨N0,rU⟩:∃z,z=bP m:=⟨_,rfl⟩
 rw[<- rU]at ho
 have jG:N0.ends.length=m:=by rw[rU];simp[bP]
 have wK:Gd 0 M N0:=by rw[rU];exact Gd.empty JC
 obtain⟨A1,c1,rfl,-,tb,-⟩:=id ho.read.1;obtain⟨AI,cI,rfl,-,-,-⟩:=id ho.read.2.1;obtain⟨AN,cN,rfl,-,-,-⟩:=id ho.read.2.2;obtain⟨w3,h_⟩:∃z,z=w2.alloc (.cells #[.slice A1 N0.ends.length c1,.slice AI N0.ids.length cI,.slice AN N0.aaa.length cN] 27):=⟨_,rfl⟩
 obtain⟨pb,dy⟩:∃z,z=w2.heap.size:=⟨_,rfl⟩
 have xY:aa w2 w3:=by rw[h_];exact ae _ (ab _)
 have iU:B<=w1.heap.size:=by rw[<- pV.out];exact y6.out.size
 have pC:Mb cb B pb A L c (P+2) w0 w3 (.slice A1 N0.ends.length c1) (.slice AI N0.ids.length cI) (.slice AN N0.aaa.length cN) N0 S0:=
  ⟨(ho.aab xY.below).mono iU,by rw[h_,dy];exact aS.new _ _ _ _ _,fun hj=>by have:=(ho.range _ hj).2;omega,(qo.out.since hb2).since xY,(y6.out.mono (by have:=pV.out;omega)).trans ((CB.of (Below.trans hb2 (xY.below.mono hb2.size))).mono iU)⟩
 have rg:=zh pC
 have cA:Hid (B<=pb/\pb<w3.heap.size):=⟨by rw[dy];exact Nat.le_trans iU hb2.size,by rw[h_,dy];simp⟩
 have yP:=zh h_;have rV:=zh dy;have zI:=zh wK;have ei:=zh jG;have dx:=pC.box.cells.1
 have nO:cb<B:=by have:=fI.out;omega
 clear pC h_ dy wK jG ho hb2 xY rU iU;go_upto_region 2 with(fail);rw[<- yP.out,<- rV.out];rw[ei.out]at dx;have QL:=ei.out;go_wp2;clear dx QL
 go_loopw [15] (fun i wr=>∃(k:Nat) (ve vi vn:Value) (N:am) (S:List Nat),k<=m/\i=.int .i64 k/\Mb cb B pb A L c (P+2) w0 wr ve vi vn N S/\Gd (2*k) M N/\N.ends.length=m/\B<=wr.heap.size) (fun i _=>m-(intOf i).toNat)
 case atStart=>exact⟨0,_,_,_,N0,S0,Nat.zero_le _,rfl,rg.out,zI.out,ei.out,by have:=cA.out;omega⟩
 case round=>
  obtain⟨k,ve,vi,vn,N,S2,hk,rfl,hm,gA,jG,dM⟩:=hrel;obtain⟨zq,iN,rfl,-,Eg,-⟩:=id hm.own.read.1;obtain⟨lX,lY,rfl,-,-,-⟩:=id hm.own.read.2.1;obtain⟨rh,n6,rfl,-,-,-⟩:=id hm.own.read.2.2;have Hm:=zh hm;have iR:=zh gA;have ei:=zh jG;have li:=zh dM;clear hm gA jG dM
  by_cases aH:k<m
  ·have m4:IntKind.i64.wrap ((k:Int)+1)=(k:Int)+1:=aR _ (by omega) (by omega);obtain⟨q,hq⟩:∃q:Nat,q=(k+1)%m:=⟨_,rfl⟩
   have UI:q<m:=by rw[hq];exact Nat.mod_lt _ Hj
   have m5:((k:Int)+1).tmod (m:Int)=(q:Int):=by rw[hq,Int.tmod_eq_emod_of_nonneg (by omega)];simp
   have m6:((k:Int)+1)%(m:Int)=(q:Int):=by rw[hq];simp
   have m7:IntKind.i64.wrap (q:Int)=(q:Int):=aR _ (by omega) (by omega)
   have m8:((m:Int)=0)=False:=by simp;omega
   have m9:(m=0)=False:=by simp;omega
   have gz:pb≠cb:=by have:=cA.out;omega
   have rP:=zh (show wr.cell? ⟨pb,0,none⟩=some (.slice zq m iN)/\wr.cell? ⟨pb,1,none⟩=some (.slice lX N.ids.length lY)/\wr.cell? ⟨pb,2,none⟩=some (.slice rh N.aaa.length n6)from by obtain⟨a,b,d,-⟩:=Hm.out.box.cells;rw[ei.out]at a;exact⟨a,b,d⟩)
   clear hq;go_upto_region 5 with(fail);refine ar (fun W=>W.cell? ⟨pb,0,none⟩=some (.slice zq m iN)/\W.cell? ⟨pb,1,none⟩=some (.slice lX N.ids.length lY)/\W.cell? ⟨pb,2,none⟩=some (.slice rh N.aaa.length n6)) 9 [false,false,false,false,false,false,false,false,true] (by kernel_rfl) (by kernel_rfl) (show(World.drew wr).cell? ⟨pb,0,none⟩=some (.slice zq m iN)/\(World.drew wr).cell? ⟨pb,1,none⟩=some (.slice lX N.ids.length lY)/\(World.drew wr).cell? ⟨pb,2,none⟩=some (.slice rh N.aaa.length n6)from rP.out) ?_
   simp only[df,b8,zT]
   iterate 8 (apply aU rfl;(intro W hW;(obtain⟨k0,k1,k2⟩:=hW);go_simp;with_reducible rfl);simp only[zA])
   obtain⟨W,bB⟩:∃W,W=World.drew wr:=⟨_,rfl⟩
   rw[<- bB];have hW:=(show(World.drew wr).cell? ⟨pb,0,none⟩=some (.slice zq m iN)/\(World.drew wr).cell? ⟨pb,1,none⟩=some (.slice lX N.ids.length lY)/\(World.drew wr).cell? ⟨pb,2,none⟩=some (.slice rh N.aaa.length n6)from rP.out);rw[<- bB]at hW;have dX:=zh bB;clear bB;refine Or.inl ⟨rfl,?_⟩
   go_simp
   (with_reducible refine(jq _ _ _ N k q W (by rw[dX.out];have h9:=(Hm.out.own.aab (ah (ab _)).below).read;rw[ei.out]at h9;exact h9) (by rw[ei.out];exact aH) (by rw[ei.out];exact UI) ((iR.out.mono (R':=80) (M':=40) (by omega) hM).small (by omega) (by omega))).mono ?_)
   rintro e W' ⟨LK,LM,LN,S3,rfl,cy,hb2⟩;refine⟨_,rfl,And.intro (bc hb2 hW.1) (And.intro (bc hb2 hW.2.1) (bc hb2 hW.2.2)),?_⟩
   replace hW:=And.intro (bc hb2 hW.1) (And.intro (bc hb2 hW.2.1) (bc hb2 hW.2.2))
   have jA:aa wr W:=(by rw[dX.out];exact ah (ab _))
   have vE:=jA.after hb2;have X3:Hid (pb<W.heap.size):=Nat.lt_of_lt_of_le Hm.out.box.lt jA.below.size;clear jA
   (try simp only[zA])
   simp only[aQ];obtain⟨D0,d0,rfl,-,-,-⟩:=id cy.read.1;obtain⟨D1,d1,rfl,-,-,-⟩:=id cy.read.2.1;obtain⟨D2,d2,rfl,-,-,-⟩:=id cy.read.2.2;have tP:=Hm.out.assign (CB.of vE) (Hm.out.cur.since vE) cy X3.out nO cA.out.1 li.out;obtain⟨-,-,-,f0,f1,f2⟩:=(Hm.out.box.below vE Hm.out.box.lt).cells;obtain⟨k0,k1,k2⟩:=hW;have k_:=zh tP
   have j3:B<=(aag W' pb (.slice D0 (bC N k q).ends.length d0) (.slice D1 (bC N k q).ids.length d1) (.slice D2 (bC N k q).aaa.length d2)).heap.size:=by rw[ep];exact Nat.le_trans li.out vE.below.size
   have pD:=zh j3
   have Cd:=zh (iR.out.join (v:=k) (u:=q) (by rw[ei.out];exact aH) (by rw[ei.out];exact UI))
   have Ch:=zh ((b_ N k q).trans ei.out);clear tP cy hb2 vE j3;go_wp2;go_roundw
   case rel=>exact⟨k+1,_,_,_,bC N k q,S3,by omega,by first | rfl | go_num,k_.out,Cd.out.mono (by omega) (Nat.le_refl _),Ch.out,pD.out⟩
   case measure=>simp[intOf];omega
  ·obtain rfl:k=m:=by omega
   obtain⟨wo,rfl⟩:∃z,z=wr:=⟨_,rfl⟩
   have gW:=Hm.out.cur;have Ig:=zh gW;clear gW;go_wp2_with fail;refine(re cb A L c (P+2) 2 wo Ig.out (by omega) (by omega)).mono ?_;rintro e w5 ⟨b,rfl,nN,pu⟩;have gX:=zh (Hm.out.seen pu nN nO cA.out.1 li.out);have lZ:Hid (B<=w5.heap.size):=Nat.le_trans li.out pu.size;have y7:Hid (Gd 80 M N):=iR.out.mono (by omega) (Nat.le_refl _);clear nN pu;obtain⟨k0,k1,k2,-,-,-⟩:=gX.out.box.cells
   have fH:=gX.out.far.aap mI.out (by have:=fI.out;omega) (by omega)
   obtain⟨-,-,-,f0,f1,f2⟩:=fH.box.cells;obtain⟨e0,e1,e2,-,-,-⟩:=fH.box.cells;clear fH;cases b
   ·clear f0 f1 f2 e0 e1 e2;go_wp2_with fail
    refine(n5 cb A L c (P+2+2) B 80 M _ _ _ N S2 w5 gX.out.cur (by omega) gX.out.own nO lZ.out y7.out (by omega) (by omega) (by have:=ei.out;omega)).mono ?_
    rintro e w6 ⟨FP,FQ,FR,N6,S6,rfl,eu,⟨pE,nw⟩,fB,jH⟩;obtain⟨D0,d0,rfl,-,-,-⟩:=id eu.read.1;obtain⟨D1,d1,rfl,-,-,-⟩:=id eu.read.2.1;obtain⟨D2,d2,rfl,-,-,-⟩:=id eu.read.2.2;have bK:=(gX.out.far.mono (Nat.le_refl B)).trans jH
    have fH:=bK.aap mI.out (by have:=fI.out;omega) (by omega)
    obtain⟨e0,e1,e2,f0,f1,f2⟩:=fH.box.cells;have bh:=eu;rw[fI.out]at bh bK;have cw:=zh (eV mJ.out bh fB bK jw);have wL:=zh pE;have sp:=zh nw;clear bK fH bh pE nw fB jH eu k0 k1 k2;go_wp2;refine bodyPost_ret (v:=.agg #[.slice D0 N6.ends.length d0,.slice D1 N6.ids.length d1,.slice D2 N6.aaa.length d2]) (by simp[results,Tryz.results136,go_sem, *]) rfl ?_;obtain⟨r1,r2,r3⟩:=cw.out
    exact⟨_,_,_,N6,S6,rfl,r1,⟨sp.out.mono (by omega) (Nat.le_refl _),by have:=ei.out;have:=wL.out.len;omega⟩,r2.mono (by omega),r3⟩
   ·go_wp2;refine bodyPost_ret (v:=.agg #[.slice zq N.ends.length iN,.slice lX N.ids.length lY,.slice rh N.aaa.length n6]) (by simp[results,Tryz.results136,go_sem, *]) rfl ?_;have bh:=gX.out.own;rw[fI.out]at bh;have bK:=gX.out.far;rw[fI.out]at bK;obtain⟨r1,r2,r3⟩:=eV mJ.out bh gX.out.cur bK jw
    exact⟨_,_,_,N,S2,rfl,r1,⟨y7.out.mono (by omega) (Nat.le_refl _),by have:=ei.out;omega⟩,r2.mono (by omega),r3⟩
theorem Ci (f:Nat->Nat) (x:Nat):sn f 0 x=x:=rfl
theorem tQ (Q:Nat->Prop):∀t,Q t->∃m,Q m/\m<=t/\∀k,k<m->¬Q k
 | t,h=>by
  rcases Classical.em (∃k,k<t/\Q k)with⟨k,hk,hq⟩ | hn
  ·obtain⟨m,h1,h2,h3⟩:=tQ Q k hq;exact⟨m,h1,by omega,h3⟩
  ·exact⟨t,h,Nat.le_refl _,fun k hk hq=>hn ⟨k,hk,hq⟩⟩
termination_by t=>t
open Classical in
noncomputable def Cj (Q:Nat->Prop):Nat:=if h:∃m,Q m/\∀k,k<m->¬Q k then Classical.choose h else 0
theorem l5 {Q:Nat->Prop} {t:Nat} (h:Q t):Q (Cj Q)/\Cj Q<=t:=by
 obtain⟨m,h1,h2,h3⟩:=tQ Q t h;have he:∃m,Q m/\∀k,k<m->¬Q k:=⟨m,h1,h3⟩;unfold Cj;rw[dif_pos he];obtain⟨h4,h5⟩:=Classical.choose_spec he;refine⟨h4,?_⟩;rcases Nat.lt_or_ge t (Classical.choose he)with hl | hl
 ·exact absurd h (h5 t hl)
 ·exact hl
def l6 (v t0 s t:Nat):Prop:=byteOf (sn (fun s=>nx s 0) t (nx s 0))%v=t0
open Classical in
noncomputable def ny (L v t0 p s:Nat):Nat:=if p<L then (L-p)+281474976710656+1 else Cj (l6 v t0 s)
theorem Ck {v t0 s:Nat} (h:l6 v t0 s 0):byteOf (nx s 0)%v=t0:=by
 unfold l6 at h;rw[Ci]at h;exact h
theorem fuel_lt {L v t0 p s:Nat} (h:p<L):ny L v t0 p s=(L-p)+281474976710656+1:=if_pos h
theorem n9 {L v t0 p s:Nat} (h:L<=p):ny L v t0 p s=Cj (l6 v t0 s):=if_neg (by omega)
theorem wM {v t0:Nat} (s:Nat) (hv:v<=200) (ht:t0<v):∃t,t<281474976710656/\l6 v t0 s t:=by
 obtain⟨t,h1,h2⟩:=BQ (nx s 0) t0 (xU _ _) (by omega)
 exact⟨t,h1,by unfold l6;rw[h2,Nat.mod_eq_of_lt ht]⟩
theorem Em {L v t0:Nat} (p s:Nat) (hL:L<=1048576) (hv:v<=200) (ht:t0<v):ny L v t0 p s<=281474977759233:=by
 rcases Nat.lt_or_ge p L with hp | hp
 ·rw[fuel_lt hp];omega
 ·rw[n9 hp];obtain⟨t,h1,h2⟩:=wM s hv ht;have h3:=(l5 h2).2
  generalize Cj (l6 v t0 s)=m at *
  omega
theorem ri {L v t0 p s s' x:Nat} (hL:L<=1048576) (hv:v<=200) (ht:t0<v) (hx:x≠t0) (h:L<=p->s'=nx s 0/\x=byteOf s'%v):ny L v t0 (p+1) s'<ny L v t0 p s:=by
 have sd:Cj (l6 v t0 s')<281474976710656:=by
  obtain⟨t,h1,h2⟩:=wM s' hv ht;have h3:=(l5 h2).2
  generalize Cj (l6 v t0 s')=m at *
  omega
 rcases Nat.lt_or_ge p L with hp | hp
 ·rw[fuel_lt hp];rcases Nat.lt_or_ge (p+1) L with h2 | h2
  ·rw[fuel_lt h2];omega
  ·rw[n9 h2]
   generalize Cj (l6 v t0 s')=m at *
   omega
 ·rw[n9 hp,n9 (by omega)];obtain⟨hs,gC⟩:=h hp;rw[hs]at gC sd ⊢;clear hs;obtain⟨t,h1,h2⟩:=wM s hv ht;obtain⟨h3,h4⟩:=l5 h2
  generalize Cj (l6 v t0 s)=m at *
  cases m with
  | zero=>
   exfalso
   exact hx (gC.trans (Ck h3))
  | succ m=>
   have h5:l6 v t0 (nx s 0) m:=by
    unfold l6 at h3 ⊢
    rw[pp]at h3;exact h3
   have h6:=(l5 h5).2
   generalize Cj (l6 v t0 (nx s 0))=q at *
   omega
def kG (N:am):Nat->Nat
 | 0=>0
 | k+1=>kG N k+(bg N k).length
theorem Cm {N:am}:∀v,kG N v<4*v->∃t,t<v/\(bg N t).length<4
 | 0,h=>by simp at h
 | v+1,h=>by
  by_cases h1:(bg N v).length<4
  ·exact⟨v,by omega,h1⟩
  ·obtain⟨t,h2,h3⟩:=Cm (N:=N) v (by simp only[kG]at h;omega)
   exact⟨t,by omega,h3⟩
theorem tR {N:am} {u v:Nat} (hu:u<N.ends.length) (hv:v<N.ends.length):∀k,k<=v->kG (bC N u v) k=kG N k+(if u<k then 1 else 0)
 | 0,_=>by simp[kG]
 | k+1,hk=>by
  simp only[kG];rw[tR hu hv k (by omega),gY hu hv];have h1:k≠v:=by omega
  rw[if_neg h1]
  by_cases h2:k=u
  ·subst h2;simp;omega
  ·rw[if_neg h2]
   by_cases h3:u<k
   ·rw[if_pos h3,if_pos (by omega)];omega
   ·rw[if_neg h3,if_neg (by omega)];omega
structure qp (M v:Nat) (N:am):Prop where
 gd:Gd 4 M N
 tot:kG N v+2=2*v
 zero:∀k,v<=k->(bg N k).length=0
theorem qp.low {M v:Nat} {N:am} (h:qp M v N) (hv:1<=v):∃t,t<v/\(bg N t).length<4:=Cm v (by have:=h.tot;omega)
theorem qp.step {M v u:Nat} {N:am} (h:qp M v N) (hu:u<v) (hv:v<N.ends.length) (hr:(bg N u).length<4):qp M (v+1) (bC N u v):=by
 have GM:u<N.ends.length:=by omega
 refine⟨⟨by rw[b_];exact h.gd.ends,fun k es hk=>?_,h.gd.ids,by rw[b_];exact h.gd.aaa,n7 h.gd.wf GM hv⟩,?_,fun k hk=>?_⟩
 ·have h1:=j4 hk
  have mZ:k<N.ends.length:=by have:=ai hk;rwa [b_]at this
  rw[<- h1,gY GM hv];have h2:=h.gd.row k _ (a_ mZ)
  by_cases a:k=v
  ·subst a
   have:=h.zero k (Nat.le_refl _)
   rw[if_pos rfl,if_neg (by omega)];omega
  ·rw[if_neg a]
   by_cases b:k=u
   ·subst b;rw[if_pos rfl];omega
   ·rw[if_neg b];omega
 ·simp only[kG];rw[tR GM hv v (Nat.le_refl _),if_pos hu,gY GM hv,if_pos rfl,if_neg (by omega),h.zero v (Nat.le_refl _)]
  have:=h.tot
  omega
 ·rw[gY GM hv,if_neg (by omega),if_neg (by omega),h.zero k (by omega)]
theorem qp.empty {M m:Nat} (hm:m<=M):qp M 1 (bP m):=by
 have hz:∀k,(bg (bP m) k).length=0:=fun k=>by
  unfold bg bP
  simp only[zDd,List.getElem?_replicate]
  split <;> simp
 exact⟨(Gd.empty hm).mono (by omega) (Nat.le_refl _),by simp[kG,hz],fun k _=>hz k⟩
def pOf (cb:Nat) (W:World):Nat:=(intOf ((W.cell? ⟨cb,1,none⟩).getD undef)).toNat
def N3 (cb:Nat) (W:World):Nat:=(intOf ((W.cell? ⟨cb,2,none⟩).getD undef)).toNat
theorem so.pOf {W:World} {cb:Nat} {A:Option Addr} {L c p s:Nat} (h:so W cb A L c p s):pOf cb W=p/\N3 cb W=s:=by
 obtain⟨-,h1,h2⟩:=h.cellsOf
 unfold Go.Proofs.YtgjggeapebbcbaaGreat.pOf N3
 rw[h1,h2];simp[intOf]
open Classical in
noncomputable def Cn (L v t0 cb:Nat) (x:Value) (W:World):Nat:=if intOf x=(t0:Int) then 0 else 1+ny L v t0 (pOf cb W) (N3 cb W)
theorem Co {L v t0 cb:Nat} {x:Value} {W:World} (h:intOf x=(t0:Int)):Cn L v t0 cb x W=0:=if_pos h
theorem tS {L v t0 cb:Nat} {x:Value} {W:World} (h:¬intOf x=(t0:Int)):Cn L v t0 cb x W=1+ny L v t0 (pOf cb W) (N3 cb W):=if_neg h
end Go.Proofs.YtgjggeapebbcbaaGreat
