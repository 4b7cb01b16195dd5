/- Parts of the proof: walks of functions and plain laws. -/
import Derived.Test.YtgmdpppljkmabaaGreatP0
import Derived.Test.YtgmdpppljkmabaaGreatP1
import Derived.Test.YtgmdpppljkmabaaGreatP14
set_option maxRecDepth 100000
set_option maxHeartbeats 16000000
namespace Go.Proofs.YtgmdpppljkmabaaGreat
open Go Go.RowKit
def VC (w:World) (n:aj) (e:Ending) (w':World):Prop:=∃N,jl n N/\Mn N/\o_ w N e w'
theorem BY (ve vi vn vp:Value) (n:aj) (v:Nat) (xs:List Int) (w:World) (h:aC w ve vi vn n) (hv:v<n.ends.length) (hn:pB n) (VD:Mn n) (hp:aO w vp xs) (Be:xs.length=(cH n v).length) (fb:pA (cH n v).length xs):
  Calls Tryz.prog 208 #[.agg #[ve,vi,vn],.int .i64 v,vp] w (VC w n):=by
 obtain⟨xv,pE⟩:∃x,x=cH n v:=⟨_,rfl⟩
 rw[<- pE]at Be fb;have mC:=cD hv;rw[<- pE]at mC;have eO:=zh fb;have SS:=zh Be;have Rg:=zh mC;have FO:=zh hn;have Yz:=zh VD;have uW:Hid (xv.length<=1000):=hn.row _ _ mC;clear hn VD mC pE Be fb;obtain⟨AP,cP,rfl,hlP,hmP,-⟩:=id hp
 obtain⟨w0,A,c,A2,c2,A3,c3,rfl,rfl,rfl,fg,hm,f8,fP,HA,bS,aT,H,dP,d9,dV⟩:=zB h;clear h
 obtain⟨wa,jC⟩:∃wa,wa=w0.alloc (.cells #[.slice none 0 0,.slice none 0 0,.slice none 0 0] 27):=⟨_,rfl⟩
 have ll:ab w0 wa:=by rw[jC];exact ad _ (aa _)
 have kY:w0.heap.size=w.heap.size+1:=by rw[bS.out];simp
 have zH:Hid (wa.heap.size=w.heap.size+1+1):=by show _=_;rw[jC,<- kY];simp
 have CQ:Hid (∀X,ab wa X->aS X (w.heap.size+1) (.slice none 0 0) (.slice none 0 0) (.slice none 0 0)):=fun X hX=>by
  refine aS.since (W:=wa) ?_ hX;rw[jC,<- kY];show(w0.heap.push _)[w0.heap.size]?=_
  rw[Array.getElem?_push_size]
 have HP:=zh (show ∀X,ab wa X->aO X (.slice AP xs.length cP) xs from fun X hX=>(hp.keep aT.out).keep (ll.after hX).below)
 have HN:=zh (show ∀X,ab wa X->aC X (.slice A n.ends.length c) (.slice A2 n.ids.length c2) (.slice A3 n.acn.length c3) n from fun X hX=>H.out.keep (ll.after hX).below)
 have yU:=ag dP ll;have DX:=ag d9 ll;have DY:=ag dV ll;have Bx:=zh jC;have vT:=zh ll;have gO:Hid (Below w.heap.size w wa):=Below.trans aT.out (ll.below.mono aT.out.size);clear jC ll kY dP d9 dV hp
 go_enter Tryz.func208,Tryz.ntmps208
 go_upto_region 1 with(fail);rw[<- bS.out,<- Bx.out];have hs:ab wa wa:=aa _;go_wp2_with fail;refine(j6 _ _ _ n wa (HN.out _ hs) FO.out.ends FO.out.row FO.out.sz).mono ?_;rintro e w1 ⟨we,wi,wn,S,rfl,ho,aN⟩;obtain⟨A1,c1,rfl,-,-,-⟩:=id ho.read.1;obtain⟨AI,cI,rfl,-,-,-⟩:=id ho.read.2.1;obtain⟨AN,cN,rfl,-,-,-⟩:=id ho.read.2.2;obtain⟨g,rfl,-⟩:=ho.head (by omega);have dr:ab wa w1:=hs.trans aN;obtain⟨w2,iY⟩:∃z,z=w1.alloc (.cells #[.slice (some ⟨g,0,none⟩) n.ends.length c1,.slice AI n.ids.length cI,.slice AN n.acn.length cN] 27):=⟨_,rfl⟩
 obtain⟨bo,uV⟩:∃z,z=w1.heap.size:=⟨_,rfl⟩
 have kb:ab w1 w2:=by rw[iY];exact ad _ (aa _)
 have FQ:Cp wa w2 bo g c1 n.ends.length (.slice AI n.ids.length cI) (.slice AN n.acn.length cN) n S:=by
  refine⟨ho.keep kb.below,by rw[iY,uV];exact aY.new _ _ _ _ _,fun hj=>by have:=(ho.range _ hj).2;omega,dr.after kb⟩
 have Hcp:=zh FQ;have xQ:=zh iY;have Po:=zh uV;have fM:=dr.after kb
 have ze:Hid (wa.heap.size<=bo/\bo<w2.heap.size):=⟨by rw[uV];exact dr.below.size,by rw[iY,uV];simp⟩
 have HSr:Hid (∀j∈S,wa.heap.size<=j/\j<w2.heap.size):=FQ.own.range;obtain⟨br,tY,cr0,ur,hA0,-,hrc,hEr⟩:=fi (HN.out wa (aa _)).es Rg.out;cases hA0;obtain⟨A9,y9,rfl,dh,dt,FK⟩:=hEr;unfold maxLen at dt;have VE:=zh FK;have r0:=ag (ae hrc) fM;have m00:=ag yU fM;have m01:=ag DX fM;have m02:=ag DY fM;have dT:=FQ.box.cells.1;clear FK hrc FQ uV iY ho dr kb aN hs yU DX DY;go_upto_region 2 with(fail);rw[<- xQ.out,<- Po.out];have cW:=zh fM;clear fM dT;have r0':=r0 w2 (aa _);have m0':=m00 w2 (aa _);clear r0 m00 m01 m02;go_wp2;clear r0' m0'
 go_loopw [18] (fun i wr=>∃(k:Nat) (N:aj),k<=xv.length/\i=.int .i64 k/\Cp wa wr bo g c1 n.ends.length (.slice AI n.ids.length cI) (.slice AN n.acn.length cN) N S/\jl n N/\nu n N) (fun i _=>xv.length-(intOf i).toNat)
 case atStart=>exact⟨0,n,Nat.zero_le _,rfl,Hcp.out,jl.refl _,Yz.out⟩
 case round=>
  obtain⟨k,N,hk,rfl,FQ,SU,hal⟩:=hrel;have aav:=zh FQ;have KW:=zh SU;have Hal:=zh hal;have le:=zh FQ.since;clear SU hal
  by_cases az:k<xv.length
  ·obtain⟨e,he⟩:=aA xv k az;obtain⟨a,b,fs,rfl,hfa,rC⟩:=Yz.out v xv Rg.out e (List.mem_of_getElem? he);obtain⟨b9,o9,rfl,pN,sa⟩:=VE.out k _ he;have s1:=ae pN wr le.out;have s2:=ae sa wr le.out
   obtain⟨p,hp⟩:=aA xs k (by rw[SS.out];exact az)
   obtain⟨AP',cP',NI,-,-,hP⟩:=HP.out wr le.out;simp only[Value.slice.injEq]at NI;obtain⟨rfl,-,rfl⟩:=NI;obtain⟨bp,op,rfl,gX⟩:=hP k p hp;obtain⟨YA,YB⟩:=eO.out p (List.mem_of_getElem? hp);obtain⟨pn,rfl⟩:∃pn:Nat,p=(pn:Int):=⟨p.toNat,by omega⟩
   have Uh:pn<xv.length:=by omega
   have m4:IntKind.i64.wrap ((k:Int)+1)=(k:Int)+1:=aH _ (by omega) (by omega);obtain⟨w3,i8⟩:∃z,z=wr.alloc (.cells #[.int .i64 (a:Int),.int .i64 (b:Int)] 83):=⟨_,rfl⟩
   obtain⟨eb,za⟩:∃z,z=wr.heap.size:=⟨_,rfl⟩
   have h3:ab wr w3:=by rw[i8];exact ad _ (aa _)
   have SV:lK w3 eb #[.int .i64 (a:Int),.int .i64 (b:Int)]:=by rw[i8,za];exact lK.new _ _ _
   have HE3:=zh SV
   have NJ:Hid (eb∉S):=fun hj=>by have:=(FQ.own.range _ hj).2;omega
   have aaw:Hid (eb≠bo):=fun e=>by have:=FQ.box.lt;omega
   have aax:Hid (wa.heap.size<=eb):=by show _<=_;rw[za];exact FQ.since.below.size
   have Rh:=zh (FQ.keep h3);have t1:=(SV.cell 0 _ rfl).1;have t2:=(SV.cell 1 _ rfl).1;have f2:=(SV.cell 1 _ rfl).2;have pc3:=bc h3.below gX;have AC:=zh i8;have NC:=zh za;have Hp:=zh hp;have YC:=zh hfa;have Hx:=zh SV;have H3:=zh h3;clear FQ he pN sa YA YB hp gX hP i8 za SV h3 hfa;go_upto_region 5 with(fail);rw[<- AC.out,<- NC.out];clear s1 s2
   by_cases YD:a=v
   ·subst YD
    obtain rfl:fs=xv:=by have h1:=YC.out;rw[Rg.out]at h1;cases h1;rfl
    obtain⟨q,hq⟩:=aA xs b (by rw[SS.out];exact rC)
    obtain⟨AP',cP',NI,-,-,hP⟩:=HP.out w3 (le.out.after H3.out);simp only[Value.slice.injEq]at NI;obtain⟨NI,-,rfl⟩:=NI;obtain⟨bp',op',hA7,hqc⟩:=hP b q hq
    obtain⟨rfl,rfl⟩:bp=bp'/\op=op':=by rw[hA7]at NI;simpa using NI
    obtain⟨oo,rF⟩:=eO.out q (List.mem_of_getElem? hq);have zO:Hid (Eu n ((a:Int),q)):=⟨a,q.toNat,fs,by rw[Int.toNat_of_nonneg oo],Rg.out,by omega⟩
    clear NI hA7 hP hq oo rF;have htt:((a:Int)=(a:Int))=True:=by simp
    have ab0:b<xs.length:=by rw[SS.out];exact rC
    go_upto_region 8 with(fail);obtain⟨w4,gU⟩:∃z,z=w3.setCell ⟨eb,1,none⟩ (.int .i64 q):=⟨_,rfl⟩
    rw[<- gU]
    have Ri:lK w4 eb #[.int .i64 (a:Int),.int .i64 q]:=by rw[gU];exact ni Hx.out 1 _
    have Ev:Hid (Cp wa w4 bo g c1 n.ends.length (.slice AI n.ids.length cI) (.slice AN n.acn.length cN) N S):=by show Cp _ _ _ _ _ _ _ _ _ _;rw[gU];exact Rh.out.put (p:=⟨eb,1,none⟩) aax.out NJ.out aaw.out _
    clear pc3 t1 t2 f2 hqc htt gU;have KX:=zh Ev.out.since;obtain⟨gv,kF,aay⟩:=KW.out.row a fs Rg.out;obtain⟨gr,cr,jO,n1',n2',SW,n4',n5',VF,Bg,⟨z0',wI⟩,⟨Tz,Bf⟩,tp⟩:=Ev.out.port (j:=pn) kF (by omega);have tp:=tp ((a:Int),(q:Int));have Pu:=zh tp;have Fm:=zh kF;have tq:pn<gv.length:=by omega
    have VG:gr≠eb:=fun e=>NJ.out (e ▸ SW)
    clear tp kF;have t0:=ae Ev.out.box.cells.1;have t4:=ae jO;have NK:=ae (Ri.cell 0 _ rfl).1;have NL:=ae (Ri.cell 1 _ rfl).1;obtain⟨AP5,cP5,yM,-,-,H8⟩:=HP.out w4 KX.out;simp only[Value.slice.injEq]at yM;obtain⟨yM,-,rfl⟩:=yM;obtain⟨bp5,op5,VH,KY⟩:=H8 k _ Hp.out
    obtain⟨rfl,rfl⟩:bp=bp5/\op=op5:=by rw[VH]at yM;simpa using yM
    have VI:=ae KY
    have ZR:k<xs.length:=by rw[SS.out];exact az
    clear yM VH H8 KY Ri;refine eh (w0:=w4) 11 [false,false,false,false,false,false,false,false,false,false,false] (by kernel_rfl) (by kernel_rfl) (aa _) ?_;simp only[er,dS,zT]
    iterate 11 (apply bv rfl;(intro W hW;go_simp;with_reducible rfl);simp only[zA])
    simp only[kS,bh];obtain⟨W,cS⟩:∃W,W=World.drew w4:=⟨_,rfl⟩
    rw[<- cS]
    have hW:ab w4 W:=by rw[cS];exact ah (aa _)
    go_upto_region 9 with(fail);obtain⟨w5,mG⟩:∃X,X=World.drew ((w4.setCell ⟨gr,pn*2,none⟩ (.int .i64 (a:Int))).setCell ⟨gr,pn*2+1,none⟩ (.int .i64 (q:Int))):=⟨_,rfl⟩
    rw[<- mG]
    have Rj:Hid (Cp wa w5 bo g c1 n.ends.length (.slice AI n.ids.length cI) (.slice AN n.acn.length cN) ({ N with ends:=N.ends.set a (gv.set pn ((a:Int),(q:Int))) }:aj) S):=by show Cp _ _ _ _ _ _ _ _ _ _;rw[mG];exact Pu.out.keep (ah (aa _))
    have Rk:=zh (KW.out.put (j:=pn) Fm.out ((a:Int),(q:Int)));have Rl:=zh (Hal.out.put (j:=pn) Fm.out zO.out);clear mG Pu jO wI Bf VF Bg t0 t4 NK NL VI;go_wp2;go_roundw
    case rel=>exact⟨k+1,_,by omega,by first | rfl | go_num,Rj.out,Rk.out,Rl.out⟩
    case measure=>simp[intOf];omega
   ·have iJ:((a:Int)=(v:Int))=False:=by simp;omega
    obtain⟨ga,hga,ab1⟩:=KW.out.row a fs YC.out;obtain⟨gr,cr,jO,n1',n2',SW,n4',n5',VF,Bg,⟨z0',wI⟩,⟨Tz,Bf⟩,tp⟩:=Rh.out.port (j:=b) hga (by omega);have zO:Hid (Eu n ((v:Int),(pn:Int))):=⟨v,pn,xv,rfl,Rg.out,Uh⟩;have tp:=tp ((v:Int),(pn:Int));have Pu:=zh tp;have Hga:=zh hga;have tq:b<ga.length:=by omega
    have VG:gr≠eb:=fun e=>NJ.out (e ▸ SW)
    have hal:a<n.ends.length:=al YC.out
    have ab2:k<xs.length:=by rw[SS.out];exact az
    clear tp hga;go_upto_region 7 with(fail);clear iJ;have t0:=ae Rh.out.box.cells.1;have t4:=ae jO;have NK:=ae t1;have NL:=ae t2;have VI:=ae pc3;clear t1 t2 pc3;refine eh (w0:=w3) 15 [false,false,false,false,false,false,false,false,false,false,false,false,false,false,false] (by kernel_rfl) (by kernel_rfl) (aa _) ?_;simp only[er,dS,zT]
    iterate 15 (apply bv rfl;(intro W hW;go_simp;with_reducible rfl);simp only[zA])
    simp only[kS,bh];obtain⟨W,cS⟩:∃W,W=World.drew w3:=⟨_,rfl⟩
    rw[<- cS]
    have hW:ab w3 W:=by rw[cS];exact ah (aa _)
    go_upto_region 8 with(fail);obtain⟨w4,gU⟩:∃X,X=World.drew ((w3.setCell ⟨gr,b*2,none⟩ (.int .i64 (v:Int))).setCell ⟨gr,b*2+1,none⟩ (.int .i64 (pn:Int))):=⟨_,rfl⟩
    rw[<- gU]
    have KZ:Hid (Cp wa w4 bo g c1 n.ends.length (.slice AI n.ids.length cI) (.slice AN n.acn.length cN) ({ N with ends:=N.ends.set a (ga.set b ((v:Int),(pn:Int))) }:aj) S):=by show Cp _ _ _ _ _ _ _ _ _ _;rw[gU];exact Pu.out.keep (ah (aa _))
    have Ri:lK w4 eb #[.int .i64 (a:Int),.int .i64 (b:Int)]:=by rw[gU];exact(Hx.out.set (p:=⟨gr,b*2,none⟩) VG).set (p:=⟨gr,b*2+1,none⟩) VG
    have K0:=zh (KW.out.put (j:=b) Hga.out ((v:Int),(pn:Int)));have Pv:=zh (Hal.out.put (j:=b) Hga.out zO.out);obtain⟨N4,hN4⟩:∃z,z=({ N with ends:=N.ends.set a (ga.set b ((v:Int),(pn:Int))) }:aj):=⟨_,rfl⟩
    rw[<- hN4]at KZ K0 Pv;have Ev:=KZ;clear gU Pu jO wI Bf VF Bg t0 t4 NK NL VI n1' n2' SW n4' n5' VG f2 hN4 KZ;have VJ:Hid (Eu n ((a:Int),(b:Int))):=⟨a,b,fs,rfl,YC.out,rC⟩;clear zO;have zO:=VJ;clear VJ;have KX:=zh Ev.out.since;obtain⟨gv,kF,aay⟩:=K0.out.row v xv Rg.out;obtain⟨gr,cr,jO,n1',n2',SW,n4',n5',VF,Bg,⟨z0',wI⟩,⟨Tz,Bf⟩,tp⟩:=Ev.out.port (j:=pn) kF (by omega);have tp:=tp ((a:Int),(b:Int));have Pu:=zh tp;have Fm:=zh kF;have tq:pn<gv.length:=by omega
    have VG:gr≠eb:=fun e=>NJ.out (e ▸ SW)
    clear tp kF;have t0:=ae Ev.out.box.cells.1;have t4:=ae jO;have NK:=ae (Ri.cell 0 _ rfl).1;have NL:=ae (Ri.cell 1 _ rfl).1;obtain⟨AP5,cP5,yM,-,-,H8⟩:=HP.out w4 KX.out;simp only[Value.slice.injEq]at yM;obtain⟨yM,-,rfl⟩:=yM;obtain⟨bp5,op5,VH,KY⟩:=H8 k _ Hp.out
    obtain⟨rfl,rfl⟩:bp=bp5/\op=op5:=by rw[VH]at yM;simpa using yM
    have VI:=ae KY
    have ZR:k<xs.length:=by rw[SS.out];exact az
    clear yM VH H8 KY Ri;refine eh (w0:=w4) 11 [false,false,false,false,false,false,false,false,false,false,false] (by kernel_rfl) (by kernel_rfl) (aa _) ?_;simp only[er,dS,zT]
    iterate 11 (apply bv rfl;(intro W hW;go_simp;with_reducible rfl);simp only[zA])
    simp only[kS,bh];obtain⟨W,cS⟩:∃W,W=World.drew w4:=⟨_,rfl⟩
    rw[<- cS]
    have hW:ab w4 W:=by rw[cS];exact ah (aa _)
    go_upto_region 9 with(fail);obtain⟨w5,mG⟩:∃X,X=World.drew ((w4.setCell ⟨gr,pn*2,none⟩ (.int .i64 (a:Int))).setCell ⟨gr,pn*2+1,none⟩ (.int .i64 (b:Int))):=⟨_,rfl⟩
    rw[<- mG]
    have Rj:Hid (Cp wa w5 bo g c1 n.ends.length (.slice AI n.ids.length cI) (.slice AN n.acn.length cN) ({ N4 with ends:=N4.ends.set v (gv.set pn ((a:Int),(b:Int))) }:aj) S):=by show Cp _ _ _ _ _ _ _ _ _ _;rw[mG];exact Pu.out.keep (ah (aa _))
    have Rk:=zh (K0.out.put (j:=pn) Fm.out ((a:Int),(b:Int)));have Rl:=zh (Pv.out.put (j:=pn) Fm.out zO.out);clear mG Pu jO wI Bf VF Bg t0 t4 NK NL VI;go_wp2;go_roundw
    case rel=>exact⟨k+1,_,by omega,by first | rfl | go_num,Rj.out,Rk.out,Rl.out⟩
    case measure=>simp[intOf];omega
  ·obtain rfl:k=xv.length:=by omega
   have dJ:=CQ.out wr le.out;obtain⟨d0,d1,d2,-,-,-⟩:=aav.out.box.cells;obtain⟨e0,e1,e2,f0,f1,f2⟩:=dJ.box.cells;have Hc:=zh FQ;clear dJ FQ;go_wp2;refine bodyPost_ret (v:=.agg #[.slice (some ⟨g,0,none⟩) n.ends.length c1,.slice AI n.ids.length cI,.slice AN n.acn.length cN]) (by simp[results,Tryz.results208,go_sem, *]) rfl ?_;have Yy:=zH.out;refine⟨N,KW.out,Hal.out.wf KW.out,_,_,_,S,rfl,((Hc.out.own.aco (fun j hj=>?_)).mono (show w.heap.size<=wa.heap.size by omega)),?_⟩
   ·have rz:=(Hc.out.own.range j hj).1;rw[Below.heap_setCell _ _ _ j (by simp;omega),Below.heap_setCell _ _ _ j (by simp;omega),Below.heap_setCell _ _ _ j (by simp;omega)]
   ·have nO:Below w.heap.size w wr:=Below.trans gO.out (le.out.below.mono (by omega));exact((nO.setCell (by simp) _).setCell (by simp) _).setCell (by simp) _
structure IW (n N:aj):Prop where
 ids:N.ids.length=n.ids.length
 acn:N.acn.length=n.acn.length
 len:N.ends.length=n.ends.length
 row:∀(k:Nat) (es:List (Int×Int)),n.ends[k]?=some es->∃fs,N.ends[k]?=some fs/\fs.length=es.length
theorem jl.shp {n N:aj} (h:jl n N):IW n N:=⟨by rw[h.ids],by rw[h.acn],h.len,h.row⟩
theorem IW.refl (n:aj):IW n n:=(jl.refl n).shp
theorem IW.trans {a b c:aj} (h:IW a b) (h':IW b c):IW a c:=⟨h'.ids.trans h.ids,h'.acn.trans h.acn,h'.len.trans h.len,fun k es he=>by
 obtain⟨fs,h1,h2⟩:=h.row k es he;obtain⟨gs,h3,h4⟩:=h'.row k fs h1
 exact⟨gs,h3,by omega⟩⟩
structure Gd (R M:Nat) (n:aj):Prop where
 ends:n.ends.length<=M
 row:∀(k:Nat) (es:List (Int×Int)),n.ends[k]?=some es->es.length<=R
 ids:n.ids.length<=M
 acn:n.acn.length=n.ends.length
 wf:Mn n
theorem K2 {l:List (List (Int×Int))} {R:Nat} (h:∀es∈l,es.length<=R):oJ l<=2*R*l.length:=by
 induction l with
 | nil=>simp[oJ]
 | cons a l ih=>
  have h1:=ih (fun es he=>h es (List.mem_cons_of_mem _ he))
  have h2:=h a (by simp);simp only[oJ,List.length_cons];have h3:2*R*(l.length+1)=2*R*l.length+2*R:=by rw[Nat.mul_add,Nat.mul_one]
  omega
theorem FR (l:List (List (Int×Int))):Qd l<=l.length+oJ l:=by
 unfold Qd
 have:ym l<=oJ l:=by
  induction l with
  | nil=>simp[ym,oJ]
  | cons a r ih=>simp only[oJ,ym,List.map_cons,List.sum_cons]at *;omega
 omega
theorem Gd.small {R M:Nat} {n:aj} (h:Gd R M n) (hR:R<=100) (hM:M<=100):pB n:=by
 refine⟨by have:=h.ends;omega,fun k es he=>by have:=h.row k es he;omega,?_⟩
 have h1:oJ n.ends<=2*R*n.ends.length:=K2 (fun es he=>by
  obtain⟨k,hk⟩:=List.getElem?_of_mem he
  exact h.row k es hk)
 have h2:=FR n.ends
 have h3:2*R*n.ends.length<=2*100*100:=Nat.mul_le_mul (by omega) (by have:=h.ends;omega)
 have:=h.ends
 have:=h.ids
 have:=h.acn
 unfold iO;omega
theorem Gd.sh {R M:Nat} {n N:aj} (h:Gd R M n) (hs:IW n N) (hw:Mn N):Gd R M N:=by
 refine⟨by rw[hs.len];exact h.ends,fun k fs hf=>?_,by rw[hs.ids];exact h.ids,by rw[hs.acn,hs.len];exact h.acn,hw⟩
 obtain⟨es,he⟩:=aA n.ends k (by have:=al hf;have:=hs.len;omega)
 obtain⟨gs,hg,hl⟩:=hs.row k es he;rw[hf]at hg;cases hg
 have:=h.row k es he
 omega
structure Mb (cb B pb:Nat) (A:Option Addr) (L c P:Nat) (w W:World) (ve vi vn:Value) (N:aj) (S:List Nat):Prop where
 own:ar W B ve vi vn N S
 box:aY W pb ve vi vn
 nb:pb∉S
 cur:cG W cb A L c P
 far:CB cb B w W
theorem aY.blk {W W':World} {b:Nat} {x y z:Value} (h:aY W b x y z) (hb:W'.heap[b]?=W.heap[b]?):aY W' b x y z:=by
 obtain⟨r,hr⟩:=h;exact⟨r,hb.trans hr⟩
theorem Mb.seen {cb B pb:Nat} {A:Option Addr} {L c P P':Nat} {w W W':World} {ve vi vn:Value} {N:aj} {S:List Nat} (h:Mb cb B pb A L c P w W ve vi vn N S) (hs:dK cb W W') (Ew:cG W' cb A L c P') (hb:cb<B) (hp:B<=pb) (hB:B<=W.heap.size):Mb cb B pb A L c P' w W' ve vi vn N S:=
 ⟨h.own.seen hs hb,h.box.blk (hs.block pb h.box.lt (by omega)),h.nb,Ew,h.far.trans (CB.mono hs hB)⟩
theorem Mb.since {cb B pb:Nat} {A:Option Addr} {L c P:Nat} {w W W':World} {ve vi vn:Value} {N:aj} {S:List Nat} (h:Mb cb B pb A L c P w W ve vi vn N S) (hs:ab W W') (hb:cb<B) (hp:B<=pb) (hB:B<=W.heap.size):Mb cb B pb A L c P w W' ve vi vn N S:=h.seen (CB.of hs) (h.cur.since hs) hb hp hB
def acr (W:World) (b:Nat) (x y z:Value):World:=((W.setCell ⟨b,0,none⟩ x).setCell ⟨b,1,none⟩ y).setCell ⟨b,2,none⟩ z
theorem fX (W:World) (b:Nat) (x y z:Value):(acr W b x y z).heap.size=W.heap.size:=by simp[acr,iV]
theorem dY (W:World) (b:Nat) (x y z:Value) {j:Nat} (h:j≠b):(acr W b x y z).heap[j]?=W.heap[j]?:=by
 unfold acr;rw[Below.heap_setCell _ _ _ j (by exact h),Below.heap_setCell _ _ _ j (by exact h),Below.heap_setCell _ _ _ j (by exact h)]
theorem aY.acr {W:World} {b:Nat} {x y z:Value} (h:aY W b x y z) (x' y' z':Value):aY (acr W b x' y' z') b x' y' z':=by
 unfold Go.Proofs.YtgmdpppljkmabaaGreat.acr;exact((h.acF).acI).acJ
theorem Mb.assign {cb B pb:Nat} {A:Option Addr} {L c P P':Nat} {w W W1:World} {ve vi vn a b d:Value} {N N':aj} {S S':List Nat} {B':Nat} (h:Mb cb B pb A L c P w W ve vi vn N S) (hs:dK cb W W1) (Ew:cG W1 cb A L c P') (ho:ar W1 B' a b d N' S') (hB':pb<B') (hb:cb<B) (hp:B<=pb) (hB:B<=W.heap.size):
  Mb cb B pb A L c P' w (acr W1 pb a b d) a b d N' S':=by
 have hn:pb∉S':=fun hj=>by have:=(ho.range _ hj).1;omega
 refine⟨(ho.aco (fun k hk=>dY W1 pb a b d (fun e=>hn (e ▸ hk)))).mono (by omega),(h.box.blk (hs.block pb h.box.lt (by omega))).acr _ _ _,hn,Ew.keep (fun k hk=>dY W1 pb a b d (by omega)),?_⟩
 exact(((h.far.trans (CB.mono hs hB)).setCell (p:=⟨pb,0,none⟩) (.inl hp) _).setCell (p:=⟨pb,1,none⟩) (.inl hp) _).setCell (p:=⟨pb,2,none⟩) (.inl hp) _
theorem ar.acz {w:World} {base g c n:Nat} {ve vi:Value} {N:aj} {S:List Nat} (h:ar w base ve vi (.slice (some ⟨g,0,none⟩) n c) N S) {k:Nat} (x:Int) (_:k<N.acn.length):
  g∈S/\w.frozen? ⟨g,k,none⟩=false/\ar (w.setCell ⟨g,k,none⟩ (.int .i64 x)) base ve vi (.slice (some ⟨g,0,none⟩) n c) { N with acn:=N.acn.set k x } S:=by
 obtain⟨S1,S2,S3,h1,h2,h3,h4,h5⟩:=h
 have hg:g∈S3:=by rw[h3.2];simp[Value.ownBlock]
 have tK:=h5;rw[h4,List.nodup_append,List.nodup_append]at h5;have d1:∀j∈S1,j≠g:=fun j hj e=>h5.2.2 j hj g (List.mem_append_right _ hg) e
 have d2:∀j∈S2,j≠g:=fun j hj e=>h5.2.1.2.2 j hj g hg e
 exact⟨by rw[h4];exact List.mem_append_right _ (List.mem_append_right _ hg),h3.1.free k,S1,S2,S3,jw.aco h1 (fun j hj=>Below.heap_setCell _ _ _ _ (d1 j hj)),gm.aco h2 (fun j hj=>Below.heap_setCell _ _ _ _ (d2 j hj)),⟨h3.1.set x,h3.2⟩,h4,tK⟩
def sR (cb B:Nat) (A:Option Addr) (L c P:Nat) (w:World) (T:aj->Prop) (e:Ending) (w':World):Prop:=
 ∃ve vi vn N S,e=.returned (.agg #[ve,vi,vn])/\ar w' B ve vi vn N S/\T N/\cG w' cb A L c P/\CB cb B w w'
theorem ar.acP {w:World} {base k c:Nat} {A:Option Addr} {ve vi:Value} {N:aj} {S:List Nat} (h:ar w base ve vi (.slice A k c) N S) (h0:0<N.acn.length):∃g,A=some ⟨g,0,none⟩:=by
 obtain⟨S1,S2,S3,_,_,h3,_⟩:=h;rcases h3.1.cases with⟨-,h2⟩ | ⟨g,c',hv,_⟩
 ·rw[h2]at h0;simp at h0
 ·cases hv;exact⟨g,rfl⟩
theorem ar.acL {w:World} {base g k c j:Nat} {ve vi:Value} {N:aj} {S:List Nat} (h:ar w base ve vi (.slice (some ⟨g,0,none⟩) k c) N S) (hj:j<N.acn.length):∃z,w.cell? ⟨g,j,none⟩=some z:=by
 obtain⟨S1,S2,S3,_,_,h3,_⟩:=h;obtain⟨x,hx⟩:=aA N.acn j hj;exact⟨_,h3.1.cell hx⟩
theorem tr (cb:Nat) (A:Option Addr) (L c P B R M:Nat) (ve vi vn:Value) (n:aj) (S:List Nat) (w:World) (hc:cG w cb A L c P) (hP:P<=4611686018426000000) (h:ar w B ve vi vn n S) (ig:cb<B) (hBw:B<=w.heap.size) (hg:Gd R M n) (hR:R<=100) (hM:M<=100) (Z9:0<n.ends.length):
  Calls Tryz.prog 156 #[.pointer (some ⟨cb,0,none⟩),.agg #[ve,vi,vn]] w (sR cb B A L c (P+100000) w (fun N=>IW n N/\Gd R M N)):=by
 obtain⟨A1,c1,rfl,-,ru,-⟩:=id h.read.1;obtain⟨AI,cI,rfl,-,-,-⟩:=id h.read.2.1;obtain⟨AN,cN,rfl,-,-,-⟩:=id h.read.2.2;obtain⟨pb,fb⟩:∃z,z=w.heap.size:=⟨_,rfl⟩
 obtain⟨w0,bQ⟩:∃z,z=w.alloc (.cells #[.slice A1 n.ends.length c1,.slice AI n.ids.length cI,.slice AN n.acn.length cN] 27):=⟨_,rfl⟩
 obtain⟨wa,jC⟩:∃z,z=w0.alloc (.cells #[.slice none 0 0,.slice none 0 0,.slice none 0 0] 27):=⟨_,rfl⟩
 have aU:ab w w0:=by rw[bQ];exact ad _ (aa _)
 have dr:ab w0 wa:=by rw[jC];exact ad _ (aa _)
 have kY:w0.heap.size=w.heap.size+1:=by rw[bQ];simp
 have lV:aY w0 pb (.slice A1 n.ends.length c1) (.slice AI n.ids.length cI) (.slice AN n.acn.length cN):=by rw[bQ,fb];exact aY.new _ _ _ _ _
 have iy:aS wa (w.heap.size+1) (.slice none 0 0) (.slice none 0 0) (.slice none 0 0):=by
  rw[jC,<- kY];show(w0.heap.push _)[w0.heap.size]?=_
  rw[Array.getElem?_push_size]
 have CI:ab w wa:=aU.after dr
 have su:Mb cb B pb A L c P w wa (.slice A1 n.ends.length c1) (.slice AI n.ids.length cI) (.slice AN n.acn.length cN) n S:=
  ⟨h.keep CI.below,lV.below dr (by rw[kY,fb];omega),fun hj=>by have:=(h.range _ hj).2;omega,hc.since CI,CB.mono (CB.of CI) hBw⟩
 have eO:Hid (B<=pb/\pb+2=wa.heap.size/\pb=w.heap.size):=⟨by omega,by rw[fb,jC];simp;omega,fb⟩
 have HSp:Hid (∀j∈S,j<pb):=fun j hj=>by have:=(h.range j hj).2;omega
 have iH:=zh iy;have qW:=zh su;have Hg:=zh hg;have bS:=zh bQ;have Bx:=zh jC;have dT:=su.box.cells
 have H9:n.ends.length<=100:=by have:=hg.ends;omega
 clear hc h aU dr lV iy CI su hg bQ jC fb kY
 go_enter Tryz.func156,Tryz.ntmps156
 go_upto_region 1 with(fail);rw[<- bS.out,<- Bx.out,<- eO.out.2.2];obtain⟨x0,x1,x2,-,-,-⟩:=dT;clear hBw;go_wp2
 go_loopw [10] (fun i wr=>∃(k:Nat) (ve vi vn:Value) (N:aj) (S:List Nat),k<=n.ends.length/\i=.int .i64 k/\Mb cb B pb A L c (P+202*k) w wr ve vi vn N S/\IW n N/\Gd R M N/\aS wr (pb+1) (.slice none 0 0) (.slice none 0 0) (.slice none 0 0)/\pb+1∉S/\wa.heap.size<=wr.heap.size) (fun i _=>n.ends.length-(intOf i).toNat)
 case atStart=>exact⟨0,_,_,_,n,S,Nat.zero_le _,rfl,by simpa using qW.out,IW.refl _,Hg.out,by rw[eO.out.2.2];exact iH.out,fun hj=>by have:=HSp.out _ hj;omega,Nat.le_refl _⟩
 case round=>
  obtain⟨k,ve,vi,vn,N,S2,hk,rfl,hm,SU,iG,iy,hrn,fO⟩:=hrel;clear x0 x1 x2;obtain⟨Jf,jO,rfl,-,ww,-⟩:=id hm.own.read.1;obtain⟨pV,pW,rfl,-,-,-⟩:=id hm.own.read.2.1;obtain⟨xZ,ts,rfl,-,-,-⟩:=id hm.own.read.2.2;have ml:=SU.len;obtain⟨g,rfl,-⟩:=hm.own.head (by omega);have Hm:=zh hm;have KW:=zh SU;have iR:=zh iG;have NM:=zh iy;have YE:=zh hrn;have lm:=zh fO;have gQ:=zh ml
  have HBr:Hid (B<=wr.heap.size):=by show _<=_;have:=eO.out;omega
  have YF:=hm.cur;clear hm SU iG iy hrn fO ml
  by_cases az:k<n.ends.length
  ·have m4:IntKind.i64.wrap ((k:Int)+1)=(k:Int)+1:=aH _ (by omega) (by omega);have zg:=zh YF;clear YF;go_wp2_with fail;refine(k8 cb A L c (P+202*k) 2 wr zg.out (by omega) (by omega)).mono ?_;rintro e w2 ⟨b,rfl,mD,pU⟩;have kz:=zh (Hm.out.seen pU mD ig eO.out.1 HBr.out)
   have H_:Hid (aS w2 (pb+1) (.slice none 0 0) (.slice none 0 0) (.slice none 0 0)):=(pU.block _ NM.out.lt (by have:=eO.out;omega)).trans NM.out
   have pl:Hid (wa.heap.size<=w2.heap.size):=Nat.le_trans lm.out pU.size;have sS:=zh mD;clear mD pU;cases b
   ·go_wp2;go_roundw
    case rel=>exact⟨k+1,_,_,_,N,S2,by omega,by first | rfl | go_num,⟨kz.out.own,kz.out.box,kz.out.nb,sS.out.mono (by omega),kz.out.far⟩,KW.out,iR.out,H_.out,YE.out,pl.out⟩
    case measure=>simp[intOf];omega
   ·obtain⟨xv,pE⟩:∃z,z=cH N k:=⟨_,rfl⟩
    have mC:=cD (n:=N) (v:=k) (by have:=gQ.out;omega)
    rw[<- pE]at mC;have H6:=zh pE
    have uW:Hid (xv.length<=100):=by show _<=_;have:=iR.out.row _ _ mC;omega
    obtain⟨u,T,hu,-,hR,-,-,Dh⟩:=kz.out.own.acs mC;obtain⟨AU,cU,rfl,-,-,-⟩:=id hR.read
    have NN:g≠cb:=fun e=>by have:=(kz.out.own.range g Dh).1;omega
    have gX:pb≠cb:=by have:=eO.out;omega
    have SX:=zh mC;obtain⟨b0,b1,b2,-,-,-⟩:=kz.out.box.cells;have oy:=zh (And.intro b0 (And.intro b1 (And.intro b2 hu)))
    have HkN:Hid (k<N.ends.length):=by show _<_;have:=gQ.out;omega
    clear pE mC hR Dh b0 b1 b2 hu;go_upto_region 5 with(fail);have hkN:=HkN.out;refine ax (fun W=>W.cell? ⟨pb,0,none⟩=some (.slice (some ⟨g,0,none⟩) N.ends.length jO)/\W.cell? ⟨pb,1,none⟩=some (.slice pV N.ids.length pW)/\W.cell? ⟨pb,2,none⟩=some (.slice xZ N.acn.length ts)/\W.cell? ⟨g,k,none⟩=some (.slice AU xv.length cU)) 11 [false,false,false,false,false,false,false,false,false,true,true] (by kernel_rfl) (by kernel_rfl) (show(World.drew w2).cell? ⟨pb,0,none⟩=some (.slice (some ⟨g,0,none⟩) N.ends.length jO)/\(World.drew w2).cell? ⟨pb,1,none⟩=some (.slice pV N.ids.length pW)/\(World.drew w2).cell? ⟨pb,2,none⟩=some (.slice xZ N.acn.length ts)/\(World.drew w2).cell? ⟨g,k,none⟩=some (.slice AU xv.length cU)from oy.out) ?_
    simp only[er,dS,zT]
    iterate 9 (apply bs rfl;(intro W hW;(obtain⟨k0,k1,k2,k3⟩:=hW);go_simp;with_reducible rfl);simp only[zA])
    obtain⟨W,cS⟩:∃W,W=World.drew w2:=⟨_,rfl⟩
    rw[<- cS];have hW:=(show(World.drew w2).cell? ⟨pb,0,none⟩=some (.slice (some ⟨g,0,none⟩) N.ends.length jO)/\(World.drew w2).cell? ⟨pb,1,none⟩=some (.slice pV N.ids.length pW)/\(World.drew w2).cell? ⟨pb,2,none⟩=some (.slice xZ N.acn.length ts)/\(World.drew w2).cell? ⟨g,k,none⟩=some (.slice AU xv.length cU)from oy.out);rw[<- cS]at hW;have eY:=zh cS;clear cS;refine Or.inl ⟨rfl,?_⟩
    go_simp
    (with_reducible refine(Em cb A L c (P+202*k+2) xv.length W (by rw[eY.out];exact sS.out.since (ah (aa _))) (by omega) uW.out).mono ?_)
    rintro e W' ⟨gp,xs,rfl,s_,fb,eQ,hC⟩;refine⟨_,rfl,And.intro (au hW.1 gX _ hC) (And.intro (au hW.2.1 gX _ hC) (And.intro (au hW.2.2.1 gX _ hC) (au hW.2.2.2 NN _ hC))),?_⟩
    replace hW:=And.intro (au hW.1 gX _ hC) (And.intro (au hW.2.1 gX _ hC) (And.intro (au hW.2.2.1 gX _ hC) (au hW.2.2.2 NN _ hC)))
    have ox:ab w2 W:=(by rw[eY.out];exact ah (aa _))
    have pU:dK cb w2 W':=((dK.refl cb w2).after ox).trans hC;have Mo:=zh s_;have VK:=zh fb;have Ex:=zh eQ;have uT:=zh pU;clear s_ fb eQ hC pU ox;obtain⟨wp,rfl⟩:∃z,z=W':=⟨_,rfl⟩
    (try simp only[zA])
    refine Or.inl ⟨rfl,?_⟩
    go_simp
    (with_reducible refine(BY _ _ _ _ N k xs _ (kz.out.own.seen uT.out ig).read HkN.out (iR.out.small hR hM) iR.out.wf Mo.out.ints (by rw[<- H6.out];exact Mo.out.len) (by rw[<- H6.out];exact VK.out)).mono ?_)
    rintro e W' ⟨N2,fM,iY,VL,VM,VN,S3,rfl,cZ,bx⟩;refine⟨_,rfl,And.intro (bc bx hW.1) (And.intro (bc bx hW.2.1) (And.intro (bc bx hW.2.2.1) (bc bx hW.2.2.2))),?_⟩
    replace hW:=And.intro (bc bx hW.1) (And.intro (bc bx hW.2.1) (And.intro (bc bx hW.2.2.1) (bc bx hW.2.2.2)))
    skip
    (try simp only[zA])
    simp only[bh];obtain⟨D0,d0,rfl,-,-,-⟩:=id cZ.read.1;obtain⟨D1,d1,rfl,-,-,-⟩:=id cZ.read.2.1;obtain⟨D2,d2,rfl,-,-,-⟩:=id cZ.read.2.2;have nU:dK cb w2 W':=uT.out.after bx;have Be:pb<wp.heap.size:=Nat.lt_of_lt_of_le kz.out.box.lt uT.out.size
    have BZ:=kz.out.assign nU (Ex.out.since bx) cZ Be ig eO.out.1 (by have h1:=pl.out;have h2:=eO.out;omega)
    have B4:aY W' pb (.slice (some ⟨g,0,none⟩) N.ends.length jO) (.slice pV N.ids.length pW) (.slice xZ N.acn.length ts):=kz.out.box.blk (nU.block pb kz.out.box.lt gX)
    have VO:aS (acr W' pb (.slice D0 N2.ends.length d0) (.slice D1 N2.ids.length d1) (.slice D2 N2.acn.length d2)) (pb+1) (.slice none 0 0) (.slice none 0 0) (.slice none 0 0):=(dY W' pb _ _ _ (by omega)).trans ((nU.block _ H_.out.lt (by have:=eO.out;omega)).trans H_.out)
    have VP:pb+1∉S3:=fun hj=>by have h1:=(cZ.range _ hj).1;have h2:=uT.out.size;have h3:=pl.out;have h4:=eO.out;omega
    have nw:wa.heap.size<=(acr W' pb (.slice D0 N2.ends.length d0) (.slice D1 N2.ids.length d1) (.slice D2 N2.acn.length d2)).heap.size:=by rw[fX];exact Nat.le_trans pl.out nU.size
    obtain⟨-,-,-,f0,f1,f2⟩:=B4.cells;obtain⟨k0,k1,k2,k3⟩:=hW;have pH:=zh BZ;have aaz:=zh VO;have aaA:=zh VP;have vd:=zh nw;have cW:=zh (KW.out.trans fM.shp);have yv:=zh (iR.out.sh fM.shp iY);clear BZ B4 VO VP nw nU cZ bx fM iY hkN Be;go_wp2;go_roundw
    case rel=>exact⟨k+1,_,_,_,N2,S3,by omega,by first | rfl | go_num,⟨pH.out.own,pH.out.box,pH.out.nb,pH.out.cur.mono (by omega),pH.out.far⟩,cW.out,yv.out,aaz.out,aaA.out,vd.out⟩
    case measure=>simp[intOf];omega
  ·obtain rfl:k=n.ends.length:=by omega
   have zg:=zh YF;clear YF;obtain⟨wo,rfl⟩:∃z,z=wr:=⟨_,rfl⟩
   go_wp2_with fail;refine(k8 cb A L c (P+202*n.ends.length) 3 wo zg.out (by omega) (by omega)).mono ?_;rintro e w2 ⟨b,rfl,mD,pU⟩;have kz:=zh (Hm.out.seen pU mD ig eO.out.1 HBr.out)
   have H_:Hid (aS w2 (pb+1) (.slice none 0 0) (.slice none 0 0) (.slice none 0 0)):=(pU.block _ NM.out.lt (by have:=eO.out;omega)).trans NM.out
   have pl:Hid (wa.heap.size<=w2.heap.size):=Nat.le_trans lm.out pU.size;clear mD pU;cases b
   ·have Ia:=kz;have VQ:=H_;have K3:=KW;have JE:=iR;obtain⟨NZ,SY⟩:∃z,z=N:=⟨_,rfl⟩
    rw[<- SY]at K3 JE
    have VR:Hid (Mb cb B pb A L c (P+202*n.ends.length+2) w w2 (.slice (some ⟨g,0,none⟩) N.ends.length jO) (.slice pV N.ids.length pW) (.slice xZ N.acn.length ts) NZ S2):=by rw[SY];exact Ia
    clear Ia SY;have Ia:=VR;clear VR;have B4:=Ia.out.box.cells;obtain⟨k0,k1,k2,-,-,-⟩:=B4;have Pw:=VQ.out.box.cells;obtain⟨e0,e1,e2,f0,f1,f2⟩:=Pw;go_wp2;refine bodyPost_ret (v:=.agg #[.slice (some ⟨g,0,none⟩) N.ends.length jO,.slice pV N.ids.length pW,.slice xZ N.acn.length ts]) (by simp[results,Tryz.results156,go_sem, *]) rfl ?_;refine⟨_,_,_,NZ,S2,rfl,Ia.out.own.aco (fun q hq=>?_),⟨K3.out,JE.out⟩,Ia.out.cur.mono (by omega) |>.keep (fun q hq=>?_),?_⟩
    ·have rF:q≠pb+1:=fun e=>YE.out (e ▸ hq)
     rw[Below.heap_setCell _ _ _ q (by exact rF),Below.heap_setCell _ _ _ q (by exact rF),Below.heap_setCell _ _ _ q (by exact rF)]
    ·have rF:q≠pb+1:=by have:=eO.out;omega
     rw[Below.heap_setCell _ _ _ q (by exact rF),Below.heap_setCell _ _ _ q (by exact rF),Below.heap_setCell _ _ _ q (by exact rF)]
    ·have ia:B<=pb+1:=by have:=eO.out;omega
     exact((Ia.out.far.setCell (p:=⟨pb+1,0,none⟩) (.inl ia) _).setCell (p:=⟨pb+1,1,none⟩) (.inl ia) _).setCell (p:=⟨pb+1,2,none⟩) (.inl ia) _
   ·have gX:pb≠cb:=by have:=eO.out;omega
    have B4:=kz.out.box.cells;have k2:=B4.2.2.1
    have sk:Hid (N.acn.length<=100):=by show _<=_;have:=iR.out.acn;have:=iR.out.ends;omega
    clear B4;go_upto_region 9 with(fail);clear k2;obtain⟨Q,hQ⟩:∃z,z=P+202*n.ends.length+2:=⟨_,rfl⟩
    have HQ1:=zh hQ;rw[<- hQ]at kz;clear hQ
    go_loopw [32] (fun i wr=>∃(j:Nat) (ys:List Int),j<=N.acn.length/\i=.int .i64 j/\ys.length=N.acn.length/\Mb cb B pb A L c (Q+2*j) w wr (.slice (some ⟨g,0,none⟩) N.ends.length jO) (.slice pV N.ids.length pW) (.slice xZ N.acn.length ts) { N with acn:=ys } S2/\aS wr (pb+1) (.slice none 0 0) (.slice none 0 0) (.slice none 0 0)/\wa.heap.size<=wr.heap.size) (fun i _=>N.acn.length-(intOf i).toNat)
    case atStart=>exact⟨0,N.acn,Nat.zero_le _,rfl,rfl,kz.out,H_.out,pl.out⟩
    case round=>
     obtain⟨j,ys,hj,rfl,MJ,hm,iy,fO⟩:=hrel;have SZ:=zh hm;have Rm:=zh iy;have VS:=zh fO;have MK:=zh MJ;clear hm iy fO MJ
     have HBj:Hid (B<=wr.heap.size):=by show _<=_;have h1:=VS.out;have h2:=eO.out;omega
     by_cases sH:j<N.acn.length
     ·obtain⟨gi,rfl⟩:=SZ.out.own.acP (by show 0<ys.length;have:=MK.out;omega)
      have k2:=SZ.out.box.cells.2.2.1;have HK2:=zh k2
      have m5:IntKind.i64.wrap ((j:Int)+1)=(j:Int)+1:=aH _ (by omega) (by have:=sk.out;omega)
      clear k2;go_upto_region 11 with(fail);refine ax (fun W=>W.cell? ⟨pb,2,none⟩=some (.slice (some ⟨gi,0,none⟩) N.acn.length ts)) 5 [false,false,false,false,true] (by kernel_rfl) (by kernel_rfl) (show(World.drew wr).cell? ⟨pb,2,none⟩=some (.slice (some ⟨gi,0,none⟩) N.acn.length ts)from HK2.out) ?_
      simp only[er,dS,zT]
      iterate 4 (apply bs rfl;(intro W hW;(have k2:=hW);go_simp;with_reducible rfl);simp only[zA])
      obtain⟨W,cS⟩:∃W,W=World.drew wr:=⟨_,rfl⟩
      rw[<- cS];have hW:=(show(World.drew wr).cell? ⟨pb,2,none⟩=some (.slice (some ⟨gi,0,none⟩) N.acn.length ts)from HK2.out);rw[<- cS]at hW;have eY:=zh cS;clear cS;refine Or.inl ⟨rfl,?_⟩
      go_simp
      (with_reducible refine(db cb A L c (Q+2*j) 3 W (by rw[eY.out];exact SZ.out.cur.since (ah (aa _))) (by have:=HQ1.out;have:=sk.out;omega) (by omega)).mono ?_)
      rintro e W' ⟨x,rfl,hx,eQ,hC⟩;refine⟨_,rfl,au hW gX _ hC,?_⟩
      replace hW:=au hW gX _ hC
      have ox:ab wr W:=(by rw[eY.out];exact ah (aa _))
      have k7:dK cb wr W':=((dK.refl cb wr).after ox).trans hC;have Px:=zh (SZ.out.seen k7 eQ ig eO.out.1 HBj.out)
      have Hrw:Hid (aS W' (pb+1) (.slice none 0 0) (.slice none 0 0) (.slice none 0 0)):=(k7.block _ Rm.out.lt (by have:=eO.out;omega)).trans Rm.out
      have Q9:Hid (wa.heap.size<=W'.heap.size):=Nat.le_trans VS.out k7.size;clear hC eQ k7 ox
      (try simp only[zA])
      simp only[bh]
      obtain⟨q1,q2,q3⟩:=Px.out.own.acz (k:=j) (x:Int) (by show j<ys.length;have:=MK.out;omega)
      obtain⟨z0,q4⟩:=Px.out.own.acL (j:=j) (by show j<ys.length;have:=MK.out;omega)
      have Py:gi≠pb:=fun e=>Px.out.nb (e ▸ q1)
      have vJ:gi≠pb+1:=fun e=>YE.out (e ▸ q1)
      have hgB:=(Px.out.own.range gi q1).1
      have hmf:Mb cb B pb A L c (Q+2*(j+1)) w (W'.setCell ⟨gi,j,none⟩ (.int .i64 (x:Int))) (.slice (some ⟨g,0,none⟩) N.ends.length jO) (.slice pV N.ids.length pW) (.slice (some ⟨gi,0,none⟩) N.acn.length ts) { N with acn:=ys.set j (x:Int) } S2:=
       ⟨q3,Px.out.box.set Py,Px.out.nb,(Px.out.cur.mono (by omega)).keep (fun q hq=>Below.heap_setCell _ _ _ _ (by show q≠gi;omega)),Px.out.far.setCell (p:=⟨gi,j,none⟩) (.inl hgB) _⟩
      have Hmf:=zh hmf;have Hrf:Hid (aS (W'.setCell ⟨gi,j,none⟩ (.int .i64 (x:Int))) (pb+1) (.slice none 0 0) (.slice none 0 0) (.slice none 0 0)):=Hrw.out.other (Ne.symm vJ)
      have Hsf:Hid (wa.heap.size<=(W'.setCell ⟨gi,j,none⟩ (.int .i64 (x:Int))).heap.size):=by show _<=_;rw[iV];exact Q9.out
      clear q1 q3 Py vJ hgB hmf hx;go_wp2;go_roundw
      case rel=>exact⟨j+1,_,by omega,by first | rfl | go_num,by rw[List.length_set];exact MK.out,Hmf.out,Hrf.out,Hsf.out⟩
      case measure=>simp[intOf];omega
     ·obtain rfl:j=N.acn.length:=by omega
      have Ia:=SZ;have VQ:=Rm;have YG:=HQ1.out;have Rn:IW N { N with acn:=ys }:=⟨rfl,MK.out,rfl,fun k es he=>⟨es,he,rfl⟩⟩
      have K3:=zh (KW.out.trans Rn)
      have JE:=zh (iR.out.sh Rn (fun k es he e hm=>by
       obtain⟨a,b,fs,h1,h2,h3⟩:=iR.out.wf k es he e hm
       exact⟨a,b,fs,h1,h2,h3⟩))
      obtain⟨NZ,SY⟩:∃z,z=({ N with acn:=ys }:aj):=⟨_,rfl⟩
      rw[<- SY]at K3 JE Ia;have ab3:=zh sk.out;clear SY Rn SZ sH hj
      have HQ3:Hid (Q+2*N.acn.length<=P+100000):=by show _<=_;have:=sk.out;omega
      clear YG;have B4:=Ia.out.box.cells;obtain⟨k0,k1,k2,-,-,-⟩:=B4;have Pw:=VQ.out.box.cells;obtain⟨e0,e1,e2,f0,f1,f2⟩:=Pw;go_wp2;refine bodyPost_ret (v:=.agg #[.slice (some ⟨g,0,none⟩) N.ends.length jO,.slice pV N.ids.length pW,.slice xZ N.acn.length ts]) (by simp[results,Tryz.results156,go_sem, *]) rfl ?_;refine⟨_,_,_,NZ,S2,rfl,Ia.out.own.aco (fun q hq=>?_),⟨K3.out,JE.out⟩,Ia.out.cur.mono HQ3.out |>.keep (fun q hq=>?_),?_⟩
      ·have rF:q≠pb+1:=fun e=>YE.out (e ▸ hq)
       rw[Below.heap_setCell _ _ _ q (by exact rF),Below.heap_setCell _ _ _ q (by exact rF),Below.heap_setCell _ _ _ q (by exact rF)]
      ·have rF:q≠pb+1:=by have:=eO.out;omega
       rw[Below.heap_setCell _ _ _ q (by exact rF),Below.heap_setCell _ _ _ q (by exact rF),Below.heap_setCell _ _ _ q (by exact rF)]
      ·have ia:B<=pb+1:=by have:=eO.out;omega
       exact((Ia.out.far.setCell (p:=⟨pb+1,0,none⟩) (.inl ia) _).setCell (p:=⟨pb+1,1,none⟩) (.inl ia) _).setCell (p:=⟨pb+1,2,none⟩) (.inl ia) _
theorem jp {n:aj} {v:Nat} (hv:v<n.ends.length) (e:Int×Int) (k:Nat):cH (pC n v e) k=if k=v then cH n v++[e] else cH n k:=by
 unfold cH pC
 simp only[zDd]
 by_cases h:k=v
 ·subst h;rw[if_pos rfl,List.getElem?_set_self hv];rfl
 ·rw[if_neg h,List.getElem?_set_ne (Ne.symm h)]
theorem ny {n:aj} {k:Nat} {es:List (Int×Int)} (h:n.ends[k]?=some es):cH n k=es:=by
 unfold cH;rw[zDd,h];rfl
theorem Eu.add {n:aj} {v:Nat} (hv:v<n.ends.length) (e:Int×Int) {x:Int×Int} (h:Eu n x):Eu (pC n v e) x:=by
 obtain⟨a,b,fs,h1,h2,h3⟩:=h
 have ha:a<(pC n v e).ends.length:=by rw[io];exact al h2
 refine⟨a,b,_,h1,cD ha,?_⟩;rw[jp hv,ny h2]
 split
 ·rename_i h;subst h;rw[ny h2,List.length_append];omega
 ·exact h3
theorem nu.add {m n:aj} {v:Nat} (h:nu m n) (hv:v<n.ends.length) {e:Int×Int} (he:Eu m e):nu m (pC n v e):=fun k es hk x hx=>by
 have h1:=ny hk;rw[jp hv]at h1
 have pQ:k<n.ends.length:=by have:=al hk;rwa [io]at this
 split at h1
 ·rw[<- h1]at hx;rcases List.mem_append.1 hx with h2 | h2
  ·exact h v _ (cD hv) x h2
  ·rw[List.mem_singleton.1 h2];exact he
 ·rw[<- h1]at hx;exact h k _ (cD pQ) x hx
theorem tt {n:aj} {v u:Nat} (h:Mn n) (hv:v<n.ends.length) (hu:u<n.ends.length):Mn (dg n v u):=by
 have VT:u<(pC n v ((u:Int),if v=u then ((cH n u).length:Int)+1 else ((cH n u).length:Int))).ends.length:=by rw[io];exact hu
 have hl:(dg n v u).ends.length=n.ends.length:=by unfold dg;rw[io,io]
 have dm:∀k,cH (dg n v u) k=if k=u then (if u=v then cH n v++[((u:Int),if v=u then ((cH n u).length:Int)+1 else ((cH n u).length:Int))] else cH n u)++[((v:Int),((cH n v).length:Int))] else if k=v then cH n v++[((u:Int),if v=u then ((cH n u).length:Int)+1 else ((cH n u).length:Int))] else cH n k:=fun k=>by
  unfold dg;rw[jp VT,jp hv,jp hv]
 have h0:nu (dg n v u) n:=fun k es hk x hx=>((h k es hk x hx).add hv _).add VT _
 have e1:Eu (dg n v u) ((v:Int),((cH n v).length:Int)):=by
  refine⟨v,(cH n v).length,_,rfl,cD (by omega),?_⟩;rw[dm]
  by_cases e:v=u
  ·subst e;simp
  ·rw[if_neg e,if_pos rfl];simp
 have e2:Eu (dg n v u) ((u:Int),if v=u then ((cH n u).length:Int)+1 else ((cH n u).length:Int)):=by
  by_cases e:v=u
  ·subst e;refine⟨v,(cH n v).length+1,_,by simp,cD (by omega),?_⟩
   rw[dm];simp
  ·refine⟨u,(cH n u).length,_,by rw[if_neg e],cD (by omega),?_⟩
   rw[dm,if_pos rfl,if_neg (Ne.symm e)];simp
 exact(h0.add hv e2).add VT e1
theorem kA {n:aj} {v u:Nat} (hv:v<n.ends.length) (hu:u<n.ends.length) (k:Nat):(cH (dg n v u) k).length=(cH n k).length+(if k=u then 1 else 0)+(if k=v then 1 else 0):=by
 have VT:u<(pC n v ((u:Int),if v=u then ((cH n u).length:Int)+1 else ((cH n u).length:Int))).ends.length:=by rw[io];exact hu
 unfold dg;rw[jp VT,jp hv,jp hv]
 by_cases a:k=u
 ·subst a
  by_cases b:k=v
  ·subst b;simp
  ·simp[b]
 ·by_cases b:k=v
  ·subst b;simp[a]
  ·simp[a,b]
theorem dZ (n:aj) (v u:Nat):(dg n v u).ends.length=n.ends.length:=by unfold dg;rw[io,io]
theorem Gd.join {R M:Nat} {n:aj} {v u:Nat} (h:Gd R M n) (hv:v<n.ends.length) (hu:u<n.ends.length):Gd (R+2) M (dg n v u):=by
 refine⟨by rw[dZ];exact h.ends,fun k es hk=>?_,h.ids,by rw[dZ];exact h.acn,tt h.wf hv hu⟩
 have h1:=ny hk
 have pQ:k<n.ends.length:=by have:=al hk;rwa [dZ]at this
 rw[<- h1,kA hv hu]
 have:=h.row k _ (cD pQ)
 split <;> split <;> omega
theorem Gd.mono {R R' M M':Nat} {n:aj} (h:Gd R M n) (hR:R<=R') (hM:M<=M'):Gd R' M' n:=⟨by have:=h.ends;omega,fun k es hk=>by have:=h.row k es hk;omega,by have:=h.ids;omega,h.acn,h.wf⟩
theorem Gd.empty {M m:Nat} (hm:m<=M):Gd 0 M (dy m):=⟨by simp[dy];omega,fun k es hk=>by
 have:=List.mem_of_getElem? hk
 simp[dy]at this
 rw[this.2];simp,by simp[dy],by simp[dy],fun k es hk e he=>by
 have:=List.mem_of_getElem? hk
 simp[dy]at this
 rw[this.2]at he
 simp at he⟩
theorem NO {n:aj} {v:Nat} (h:Mn n) (hv:v<n.ends.length):Mn (kw n v):=by
 have h0:nu (kw n v) n:=fun k es hk x hx=>(h k es hk x hx).add hv _
 have hl:(kw n v).ends.length=n.ends.length:=io _ _ _;refine h0.add hv ⟨v,(cH n v).length,_,rfl,cD (by omega),?_⟩;unfold kw;rw[jp hv,if_pos rfl];simp
theorem K4 {n:aj} {v:Nat} (hv:v<n.ends.length) (k:Nat):(cH (kw n v) k).length=(cH n k).length+(if k=v then 1 else 0):=by
 unfold kw;rw[jp hv]
 by_cases b:k=v
 ·subst b;simp
 ·simp[b]
theorem qX (n:aj) (v:Nat):(kw n v).ends.length=n.ends.length:=io _ _ _
theorem CB.acv {cb B b:Nat} {w w':World} {x y z:Value} (h:CB cb B w w') (hx:aS w b x y z) (hb:b<B) (hn:b≠cb):aS w' b x y z:=(h.block b hb hn).trans hx
theorem cO {cb P:Nat} {A:Option Addr} {L c:Nat} {w w0 W:World} {ve vi vn:Value} {N:aj} {S:List Nat} (h0:ab w w0) (ho:ar W (w.heap.size+1) ve vi vn N S) (hc:cG W cb A L c P) (hf:CB cb (w.heap.size+1) w0 W) (ig:cb<w.heap.size):
  ar (acr W w.heap.size ve vi vn) w.heap.size ve vi vn N S/\cG (acr W w.heap.size ve vi vn) cb A L c P/\CB cb w.heap.size w (acr W w.heap.size ve vi vn):=by
 refine⟨(ho.aco (fun k hk=>dY _ _ _ _ _ (by have:=(ho.range k hk).1;omega))).mono (by omega),hc.keep (fun k hk=>dY _ _ _ _ _ (by omega)),?_⟩
 have h1:CB cb w.heap.size w W:=(CB.of h0.below).trans (hf.mono (by omega));exact((h1.setCell (p:=⟨w.heap.size,0,none⟩) (.inl (Nat.le_refl _)) _).setCell (p:=⟨w.heap.size,1,none⟩) (.inl (Nat.le_refl _)) _).setCell (p:=⟨w.heap.size,2,none⟩) (.inl (Nat.le_refl _)) _
def TN (R M:Nat) (N:aj):Prop:=Gd R M N/\0<N.ends.length
theorem Ey (cb:Nat) (A:Option Addr) (L c P aJ M:Nat) (w:World) (hc:cG w cb A L c P) (hP:P<=4611686018425000000) (zi:1<=aJ) (mm:aJ<=M) (hM:M<=40):
  Calls Tryz.prog 190 #[.pointer (some ⟨cb,0,none⟩),.int .i64 aJ] w (sR cb w.heap.size A L c (P+200000) w (TN 100 M)):=by
 have ig:=hc.lt;obtain⟨B,rS⟩:∃z,z=w.heap.size+1:=⟨_,rfl⟩
 obtain⟨w0,bQ⟩:∃z,z=w.alloc (.cells #[.slice none 0 0,.slice none 0 0,.slice none 0 0] 27):=⟨_,rfl⟩
 have aU:ab w w0:=by rw[bQ];exact ad _ (aa _)
 have gx:w0.heap.size=B:=by rw[bQ,rS];simp
 have iy:aS w0 w.heap.size (.slice none 0 0) (.slice none 0 0) (.slice none 0 0):=by
  rw[bQ];show(w.heap.push _)[w.heap.size]?=_
  rw[Array.getElem?_push_size]
 have iH:=zh iy;have jj:=zh aU;have bS:=zh bQ;have el:=zh rS;have mA:=zh gx;have Ez:=zh (hc.since aU);clear iy aU bQ hc rS gx
 go_enter Tryz.func190,Tryz.ntmps190
 go_upto_region 1 with(fail);rw[<- bS.out];go_wp2_with fail;refine(db cb A L c P aJ w0 Ez.out (by omega) (by omega)).mono ?_;rintro e w1 ⟨x,rfl,hx,lM,lL⟩;obtain⟨m,hm⟩:∃m:Nat,m=x+1:=⟨_,rfl⟩
 have m1:IntKind.i64.wrap (1+(x:Int))=(m:Int):=by rw[aH _ (by omega) (by omega)];omega
 have Pz:m<=M:=by omega
 have uf:0<m:=by omega
 have kB:=zh lM;have vV:=zh lL;clear lM lL hx;have Hm:=zh hm;clear hm;go_wp2_with fail;refine(np m (by omega) w1).mono ?_;rintro e w2 ⟨VU,VV,VW,S0,rfl,ho,bx⟩;obtain⟨N0,zj⟩:∃z,z=dy m:=⟨_,rfl⟩
 rw[<- zj]at ho
 have ml:N0.ends.length=m:=by rw[zj];simp[dy]
 have EA:Gd 0 M N0:=by rw[zj];exact Gd.empty Pz
 obtain⟨A1,c1,rfl,-,ru,-⟩:=id ho.read.1;obtain⟨AI,cI,rfl,-,-,-⟩:=id ho.read.2.1;obtain⟨AN,cN,rfl,-,-,-⟩:=id ho.read.2.2;obtain⟨w3,i8⟩:∃z,z=w2.alloc (.cells #[.slice A1 N0.ends.length c1,.slice AI N0.ids.length cI,.slice AN N0.acn.length cN] 27):=⟨_,rfl⟩
 obtain⟨pb,fb⟩:∃z,z=w2.heap.size:=⟨_,rfl⟩
 have mq:ab w2 w3:=by rw[i8];exact ad _ (aa _)
 have ia:B<=w1.heap.size:=by rw[<- mA.out];exact vV.out.size
 have su:Mb cb B pb A L c (P+2) w0 w3 (.slice A1 N0.ends.length c1) (.slice AI N0.ids.length cI) (.slice AN N0.acn.length cN) N0 S0:=
  ⟨(ho.keep mq.below).mono ia,by rw[i8,fb];exact aY.new _ _ _ _ _,fun hj=>by have:=(ho.range _ hj).2;omega,(kB.out.since bx).since mq,(vV.out.mono (by have:=mA.out;omega)).trans ((CB.of (Below.trans bx (mq.below.mono bx.size))).mono ia)⟩
 have qW:=zh su
 have eO:Hid (B<=pb/\pb<w3.heap.size):=⟨by rw[fb];exact Nat.le_trans ia bx.size,by rw[i8,fb];simp⟩
 have AC:=zh i8;have qY:=zh fb;have Eh:=zh EA;have gQ:=zh ml;have dT:=su.box.cells.1
 have jR:cb<B:=by have:=el.out;omega
 clear su i8 fb EA ml ho bx mq zj ia;go_upto_region 2 with(fail);rw[<- AC.out,<- qY.out];rw[gQ.out]at dT;have aaB:=gQ.out;go_wp2;clear dT aaB
 go_loopw [15] (fun i wr=>∃(k:Nat) (ve vi vn:Value) (N:aj) (S:List Nat),k<=m/\i=.int .i64 k/\Mb cb B pb A L c (P+2) w0 wr ve vi vn N S/\Gd (2*k) M N/\N.ends.length=m/\B<=wr.heap.size) (fun i _=>m-(intOf i).toNat)
 case atStart=>exact⟨0,_,_,_,N0,S0,Nat.zero_le _,rfl,qW.out,Eh.out,gQ.out,by have:=eO.out;omega⟩
 case round=>
  obtain⟨k,ve,vi,vn,N,S2,hk,rfl,hm,iG,ml,fO⟩:=hrel;obtain⟨Jf,jO,rfl,-,ww,-⟩:=id hm.own.read.1;obtain⟨pV,pW,rfl,-,-,-⟩:=id hm.own.read.2.1;obtain⟨xZ,ts,rfl,-,-,-⟩:=id hm.own.read.2.2;have Hm:=zh hm;have iR:=zh iG;have gQ:=zh ml;have lm:=zh fO;clear hm iG ml fO
  by_cases az:k<m
  ·have m4:IntKind.i64.wrap ((k:Int)+1)=(k:Int)+1:=aH _ (by omega) (by omega);obtain⟨q,hq⟩:∃q:Nat,q=(k+1)%m:=⟨_,rfl⟩
   have hqm:q<m:=by rw[hq];exact Nat.mod_lt _ uf
   have m5:((k:Int)+1).tmod (m:Int)=(q:Int):=by rw[hq,Int.tmod_eq_emod_of_nonneg (by omega)];simp
   have m6:((k:Int)+1)%(m:Int)=(q:Int):=by rw[hq];simp
   have m7:IntKind.i64.wrap (q:Int)=(q:Int):=aH _ (by omega) (by omega)
   have m8:((m:Int)=0)=False:=by simp;omega
   have m9:(m=0)=False:=by simp;omega
   have gX:pb≠cb:=by have:=eO.out;omega
   have oy:=zh (show wr.cell? ⟨pb,0,none⟩=some (.slice Jf m jO)/\wr.cell? ⟨pb,1,none⟩=some (.slice pV N.ids.length pW)/\wr.cell? ⟨pb,2,none⟩=some (.slice xZ N.acn.length ts)from by obtain⟨a,b,d,-⟩:=Hm.out.box.cells;rw[gQ.out]at a;exact⟨a,b,d⟩)
   clear hq;go_upto_region 5 with(fail);refine ax (fun W=>W.cell? ⟨pb,0,none⟩=some (.slice Jf m jO)/\W.cell? ⟨pb,1,none⟩=some (.slice pV N.ids.length pW)/\W.cell? ⟨pb,2,none⟩=some (.slice xZ N.acn.length ts)) 9 [false,false,false,false,false,false,false,false,true] (by kernel_rfl) (by kernel_rfl) (show(World.drew wr).cell? ⟨pb,0,none⟩=some (.slice Jf m jO)/\(World.drew wr).cell? ⟨pb,1,none⟩=some (.slice pV N.ids.length pW)/\(World.drew wr).cell? ⟨pb,2,none⟩=some (.slice xZ N.acn.length ts)from oy.out) ?_
   simp only[er,dS,zT]
   iterate 8 (apply bs rfl;(intro W hW;(obtain⟨k0,k1,k2⟩:=hW);go_simp;with_reducible rfl);simp only[zA])
   obtain⟨W,cS⟩:∃W,W=World.drew wr:=⟨_,rfl⟩
   rw[<- cS];have hW:=(show(World.drew wr).cell? ⟨pb,0,none⟩=some (.slice Jf m jO)/\(World.drew wr).cell? ⟨pb,1,none⟩=some (.slice pV N.ids.length pW)/\(World.drew wr).cell? ⟨pb,2,none⟩=some (.slice xZ N.acn.length ts)from oy.out);rw[<- cS]at hW;have eY:=zh cS;clear cS;refine Or.inl ⟨rfl,?_⟩
   go_simp
   (with_reducible refine(mj _ _ _ N k q W (by rw[eY.out];have h9:=(Hm.out.own.keep (ah (aa _)).below).read;rw[gQ.out]at h9;exact h9) (by rw[gQ.out];exact az) (by rw[gQ.out];exact hqm) ((iR.out.mono (R':=80) (M':=40) (by omega) hM).small (by omega) (by omega))).mono ?_)
   rintro e W' ⟨VL,VM,VN,S3,rfl,cZ,bx⟩;refine⟨_,rfl,And.intro (bc bx hW.1) (And.intro (bc bx hW.2.1) (bc bx hW.2.2)),?_⟩
   replace hW:=And.intro (bc bx hW.1) (And.intro (bc bx hW.2.1) (bc bx hW.2.2))
   have ox:ab wr W:=(by rw[eY.out];exact ah (aa _))
   have PA:=ox.after bx;have Qr:Hid (pb<W.heap.size):=Nat.lt_of_lt_of_le Hm.out.box.lt ox.below.size;clear ox
   (try simp only[zA])
   simp only[bh];obtain⟨D0,d0,rfl,-,-,-⟩:=id cZ.read.1;obtain⟨D1,d1,rfl,-,-,-⟩:=id cZ.read.2.1;obtain⟨D2,d2,rfl,-,-,-⟩:=id cZ.read.2.2;have BZ:=Hm.out.assign (CB.of PA) (Hm.out.cur.since PA) cZ Qr.out jR eO.out.1 lm.out;obtain⟨-,-,-,f0,f1,f2⟩:=(Hm.out.box.below PA Hm.out.box.lt).cells;obtain⟨k0,k1,k2⟩:=hW;have pH:=zh BZ
   have nw:B<=(acr W' pb (.slice D0 (dg N k q).ends.length d0) (.slice D1 (dg N k q).ids.length d1) (.slice D2 (dg N k q).acn.length d2)).heap.size:=by rw[fX];exact Nat.le_trans lm.out PA.below.size
   have vd:=zh nw
   have yv:=zh (iR.out.join (v:=k) (u:=q) (by rw[gQ.out];exact az) (by rw[gQ.out];exact hqm))
   have wQ:=zh ((dZ N k q).trans gQ.out);clear BZ cZ bx PA nw;go_wp2;go_roundw
   case rel=>exact⟨k+1,_,_,_,dg N k q,S3,by omega,by first | rfl | go_num,pH.out,yv.out.mono (by omega) (Nat.le_refl _),wQ.out,vd.out⟩
   case measure=>simp[intOf];omega
  ·obtain rfl:k=m:=by omega
   obtain⟨wo,rfl⟩:∃z,z=wr:=⟨_,rfl⟩
   have eQ:=Hm.out.cur;have zg:=zh eQ;clear eQ;go_wp2_with fail;refine(k8 cb A L c (P+2) 2 wo zg.out (by omega) (by omega)).mono ?_;rintro e w5 ⟨b,rfl,mD,pU⟩;have kz:=zh (Hm.out.seen pU mD jR eO.out.1 lm.out);have pl:Hid (B<=w5.heap.size):=Nat.le_trans lm.out pU.size;have Ib:Hid (Gd 80 M N):=iR.out.mono (by omega) (Nat.le_refl _);clear mD pU;obtain⟨k0,k1,k2,-,-,-⟩:=kz.out.box.cells
   have dJ:=kz.out.far.acv iH.out (by have:=el.out;omega) (by omega)
   obtain⟨-,-,-,f0,f1,f2⟩:=dJ.box.cells;obtain⟨e0,e1,e2,-,-,-⟩:=dJ.box.cells;clear dJ;cases b
   ·clear f0 f1 f2 e0 e1 e2;go_wp2_with fail
    refine(tr cb A L c (P+2+2) B 80 M _ _ _ N S2 w5 kz.out.cur (by omega) kz.out.own jR pl.out Ib.out (by omega) (by omega) (by have:=gQ.out;omega)).mono ?_
    rintro e w6 ⟨CV,CW,CX,N6,S6,rfl,dB,⟨vf,lv⟩,dq,ic⟩;obtain⟨D0,d0,rfl,-,-,-⟩:=id dB.read.1;obtain⟨D1,d1,rfl,-,-,-⟩:=id dB.read.2.1;obtain⟨D2,d2,rfl,-,-,-⟩:=id dB.read.2.2;have aD:=(kz.out.far.mono (Nat.le_refl B)).trans ic
    have dJ:=aD.acv iH.out (by have:=el.out;omega) (by omega)
    obtain⟨e0,e1,e2,f0,f1,f2⟩:=dJ.box.cells;have aI:=dB;rw[el.out]at aI aD;have bZ:=zh (cO jj.out aI dq aD ig);have EB:=zh vf;have zP:=zh lv;clear aD dJ aI vf lv dq ic dB k0 k1 k2;go_wp2;refine bodyPost_ret (v:=.agg #[.slice D0 N6.ends.length d0,.slice D1 N6.ids.length d1,.slice D2 N6.acn.length d2]) (by simp[results,Tryz.results190,go_sem, *]) rfl ?_;obtain⟨r1,r2,r3⟩:=bZ.out
    exact⟨_,_,_,N6,S6,rfl,r1,⟨zP.out.mono (by omega) (Nat.le_refl _),by have:=gQ.out;have:=EB.out.len;omega⟩,r2.mono (by omega),r3⟩
   ·go_wp2;refine bodyPost_ret (v:=.agg #[.slice Jf N.ends.length jO,.slice pV N.ids.length pW,.slice xZ N.acn.length ts]) (by simp[results,Tryz.results190,go_sem, *]) rfl ?_;have aI:=kz.out.own;rw[el.out]at aI;have aD:=kz.out.far;rw[el.out]at aD;obtain⟨r1,r2,r3⟩:=cO jj.out aI kz.out.cur aD ig
    exact⟨_,_,_,N,S2,rfl,r1,⟨Ib.out.mono (by omega) (Nat.le_refl _),by have:=gQ.out;omega⟩,r2.mono (by omega),r3⟩
theorem K5 (f:Nat->Nat) (x:Nat):zJ f 0 x=x:=rfl
theorem B5 (Q:Nat->Prop):∀t,Q t->∃m,Q m/\m<=t/\∀k,k<m->¬Q k
 | t,h=>by
  rcases Classical.em (∃k,k<t/\Q k)with⟨k,hk,hq⟩ | hn
  ·obtain⟨m,h1,h2,h3⟩:=B5 Q k hq;exact⟨m,h1,by omega,h3⟩
  ·exact⟨t,h,Nat.le_refl _,fun k hk hq=>hn ⟨k,hk,hq⟩⟩
termination_by t=>t
open Classical in
noncomputable def K6 (Q:Nat->Prop):Nat:=if h:∃m,Q m/\∀k,k<m->¬Q k then Classical.choose h else 0
theorem qZ {Q:Nat->Prop} {t:Nat} (h:Q t):Q (K6 Q)/\K6 Q<=t:=by
 obtain⟨m,h1,h2,h3⟩:=B5 Q t h;have he:∃m,Q m/\∀k,k<m->¬Q k:=⟨m,h1,h3⟩;unfold K6;rw[dif_pos he];obtain⟨h4,h5⟩:=Classical.choose_spec he;refine⟨h4,?_⟩;rcases Nat.lt_or_ge t (Classical.choose he)with hl | hl
 ·exact absurd h (h5 t hl)
 ·exact hl
def q7 (v t0 s t:Nat):Prop:=byteOf (zJ (fun s=>nx s 0) t (nx s 0))%v=t0
open Classical in
noncomputable def sw (L v t0 p s:Nat):Nat:=if p<L then (L-p)+281474976710656+1 else K6 (q7 v t0 s)
theorem K7 {v t0 s:Nat} (h:q7 v t0 s 0):byteOf (nx s 0)%v=t0:=by
 unfold q7 at h;rw[K5]at h;exact h
theorem fuel_lt {L v t0 p s:Nat} (h:p<L):sw L v t0 p s=(L-p)+281474976710656+1:=if_pos h
theorem tu {L v t0 p s:Nat} (h:L<=p):sw L v t0 p s=K6 (q7 v t0 s):=if_neg (by omega)
theorem EC {v t0:Nat} (s:Nat) (hv:v<=200) (ht:t0<v):∃t,t<281474976710656/\q7 v t0 s t:=by
 obtain⟨t,h1,h2⟩:=Ko (nx s 0) t0 (FM _ _) (by omega)
 exact⟨t,h1,by unfold q7;rw[h2,Nat.mod_eq_of_lt ht]⟩
theorem NP {L v t0:Nat} (p s:Nat) (hL:L<=1048576) (hv:v<=200) (ht:t0<v):sw L v t0 p s<=281474977759233:=by
 rcases Nat.lt_or_ge p L with hp | hp
 ·rw[fuel_lt hp];omega
 ·rw[tu hp];obtain⟨t,h1,h2⟩:=EC s hv ht;have h3:=(qZ h2).2
  generalize K6 (q7 v t0 s)=m at *
  omega
theorem x6 {L v t0 p s s' x:Nat} (hL:L<=1048576) (hv:v<=200) (ht:t0<v) (hx:x≠t0) (h:L<=p->s'=nx s 0/\x=byteOf s'%v):sw L v t0 (p+1) s'<sw L v t0 p s:=by
 have p8:K6 (q7 v t0 s')<281474976710656:=by
  obtain⟨t,h1,h2⟩:=EC s' hv ht;have h3:=(qZ h2).2
  generalize K6 (q7 v t0 s')=m at *
  omega
 rcases Nat.lt_or_ge p L with hp | hp
 ·rw[fuel_lt hp];rcases Nat.lt_or_ge (p+1) L with h2 | h2
  ·rw[fuel_lt h2];omega
  ·rw[tu h2]
   generalize K6 (q7 v t0 s')=m at *
   omega
 ·rw[tu hp,tu (by omega)];obtain⟨hs,pE⟩:=h hp;rw[hs]at pE p8 ⊢;clear hs;obtain⟨t,h1,h2⟩:=EC s hv ht;obtain⟨h3,h4⟩:=qZ h2
  generalize K6 (q7 v t0 s)=m at *
  cases m with
  | zero=>
   exfalso
   exact hx (pE.trans (K7 h3))
  | succ m=>
   have h5:q7 v t0 (nx s 0) m:=by
    unfold q7 at h3 ⊢
    rw[uM]at h3;exact h3
   have h6:=(qZ h5).2
   generalize K6 (q7 v t0 (nx s 0))=q at *
   omega
def oV (N:aj):Nat->Nat
 | 0=>0
 | k+1=>oV N k+(cH N k).length
theorem K8 {N:aj}:∀v,oV N v<4*v->∃t,t<v/\(cH N t).length<4
 | 0,h=>by simp at h
 | v+1,h=>by
  by_cases h1:(cH N v).length<4
  ·exact⟨v,by omega,h1⟩
  ·obtain⟨t,h2,h3⟩:=K8 (N:=N) v (by simp only[oV]at h;omega)
   exact⟨t,by omega,h3⟩
theorem B7 {N:aj} {u v:Nat} (hu:u<N.ends.length) (hv:v<N.ends.length):∀k,k<=v->oV (dg N u v) k=oV N k+(if u<k then 1 else 0)
 | 0,_=>by simp[oV]
 | k+1,hk=>by
  simp only[oV];rw[B7 hu hv k (by omega),kA hu hv];have h1:k≠v:=by omega
  rw[if_neg h1]
  by_cases h2:k=u
  ·subst h2;simp;omega
  ·rw[if_neg h2]
   by_cases h3:u<k
   ·rw[if_pos h3,if_pos (by omega)];omega
   ·rw[if_neg h3,if_neg (by omega)];omega
structure wX (M v:Nat) (N:aj):Prop where
 gd:Gd 4 M N
 tot:oV N v+2=2*v
 zero:∀k,v<=k->(cH N k).length=0
theorem wX.low {M v:Nat} {N:aj} (h:wX M v N) (hv:1<=v):∃t,t<v/\(cH N t).length<4:=K8 v (by have:=h.tot;omega)
theorem wX.step {M v u:Nat} {N:aj} (h:wX M v N) (hu:u<v) (hv:v<N.ends.length) (hr:(cH N u).length<4):wX M (v+1) (dg N u v):=by
 have PB:u<N.ends.length:=by omega
 refine⟨⟨by rw[dZ];exact h.gd.ends,fun k es hk=>?_,h.gd.ids,by rw[dZ];exact h.gd.acn,tt h.gd.wf PB hv⟩,?_,fun k hk=>?_⟩
 ·have h1:=ny hk
  have pQ:k<N.ends.length:=by have:=al hk;rwa [dZ]at this
  rw[<- h1,kA PB hv];have h2:=h.gd.row k _ (cD pQ)
  by_cases a:k=v
  ·subst a
   have:=h.zero k (Nat.le_refl _)
   rw[if_pos rfl,if_neg (by omega)];omega
  ·rw[if_neg a]
   by_cases b:k=u
   ·subst b;rw[if_pos rfl];omega
   ·rw[if_neg b];omega
 ·simp only[oV];rw[B7 PB hv v (Nat.le_refl _),if_pos hu,kA PB hv,if_pos rfl,if_neg (by omega),h.zero v (Nat.le_refl _)]
  have:=h.tot
  omega
 ·rw[kA PB hv,if_neg (by omega),if_neg (by omega),h.zero k (by omega)]
theorem wX.empty {M m:Nat} (hm:m<=M):wX M 1 (dy m):=by
 have hz:∀k,(cH (dy m) k).length=0:=fun k=>by
  unfold cH dy
  simp only[zDd,List.getElem?_replicate]
  split <;> simp
 exact⟨(Gd.empty hm).mono (by omega) (Nat.le_refl _),by simp[oV,hz],fun k _=>hz k⟩
def pOf (cb:Nat) (W:World):Nat:=(intOf ((W.cell? ⟨cb,1,none⟩).getD undef)).toNat
def YH (cb:Nat) (W:World):Nat:=(intOf ((W.cell? ⟨cb,2,none⟩).getD undef)).toNat
theorem zL.pOf {W:World} {cb:Nat} {A:Option Addr} {L c p s:Nat} (h:zL W cb A L c p s):pOf cb W=p/\YH cb W=s:=by
 obtain⟨-,h1,h2⟩:=h.cellsOf
 unfold Go.Proofs.YtgmdpppljkmabaaGreat.pOf YH
 rw[h1,h2];simp[intOf]
open Classical in
noncomputable def K9 (L v t0 cb:Nat) (x:Value) (W:World):Nat:=if intOf x=(t0:Int) then 0 else 1+sw L v t0 (pOf cb W) (YH cb W)
theorem K_ {L v t0 cb:Nat} {x:Value} {W:World} (h:intOf x=(t0:Int)):K9 L v t0 cb x W=0:=if_pos h
theorem B8 {L v t0 cb:Nat} {x:Value} {W:World} (h:¬intOf x=(t0:Int)):K9 L v t0 cb x W=1+sw L v t0 (pOf cb W) (YH cb W):=if_neg h
end Go.Proofs.YtgmdpppljkmabaaGreat
