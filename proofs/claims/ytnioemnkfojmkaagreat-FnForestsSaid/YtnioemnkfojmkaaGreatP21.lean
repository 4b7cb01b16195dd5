/- Parts of the proof: walks of functions and plain laws. -/
import Derived.Test.YtnioemnkfojmkaaGreatP20
set_option maxRecDepth 100000
set_option maxHeartbeats 16000000
namespace Go.Proofs.YtnioemnkfojmkaaGreat
open Go Go.RowKit
theorem tY (pa pb:Value) (p:aq) (vl:Value) (xs:List Int) (w:World) (h:el w pa pb p) (hl:bs w vl xs) (hs:eR p.nodes) (oU:p.nodes.length<=1048576) (hx:xs.length<=1000):
  Calls Tryz.prog 93 #[.agg #[.int .i64 p.labels,.int .i64 p.degree,pa,pb],vl] w fun e w'=>e=.returned (.bool (p.nodes.contains (dz xs)))/\Below w.heap.size w w':=by
 obtain⟨w0,P0,iG,P1,it,rfl,rfl,jj,jk,jl,jm,jn,jo,HP,cD,aY,fp,fE,fM,ku⟩:=UZ h;clear h
 obtain⟨Hs,HL⟩:=A_ hs (hl.agU aY.out);obtain⟨AL,cL,rfl,-,-,-⟩:=hl;have J9:=zh (show ∀X,ab w0 X->bS X (.slice P0 p.nodes.length iG) p.nodes from fun X hX=>(HP.out.agU hX).1)
 clear hs
 go_enter Tryz.func93,Tryz.ntmps93
 go_upto_region 1 with(fail);rw[<- cD.out];have aK:ab w0 w0:=aa _;go_wp2_with fail;obtain⟨r,hr⟩:=K_ (p.nodes.contains (dz xs))
 have Hr:=zh hr;clear hr;refine(Ae _ _ p.nodes xs _ (J9 _ aK) HL Hs oU hx).mono ?_;rw[Hr.out];rintro e w1 ⟨rfl,aP⟩;have HS:=zh (ab.trans aK aP);clear aP aK;go_wp2;go_ret;exact⟨bG Hr.symm,ab.after aY HS⟩
theorem De (pa pb:Value) (p:aq) (vl:Value) (xs:List Int) (w:World) (h:el w pa pb p) (hl:bs w vl xs) (eV:1<=p.labels/\p.labels<=8):
  Calls Tryz.prog 92 #[.agg #[.int .i64 p.labels,.int .i64 p.degree,pa,pb],vl] w fun e w'=>e=.returned (.bool (lX xs 0 (p.labels-1)))/\Below w.heap.size w w':=by
 obtain⟨w0,P0,iG,P1,it,rfl,rfl,jj,jk,jl,jm,jn,jo,HP,cD,aY,fp,fE,fM,ku⟩:=UZ h;clear h
 have HL:=zh (hl.agU aY.out);obtain⟨AL,cL,rfl,-,-,-⟩:=hl;have hwx:IntKind.i64.wrap (p.labels-1)=p.labels-1:=bU _ zO zO
 go_enter Tryz.func92,Tryz.ntmps92
 go_upto_region 1 with(fail);rw[<- cD.out];have aK:ab w0 w0:=aa _;go_wp2_with fail;refine(jN _ xs _ _ _ HL).mono ?_;rintro e w1 ⟨rfl,aP⟩;have HS:=zh (ab.trans aK aP);clear aP aK;go_wp2;go_ret;exact⟨rfl,ab.after aY HS⟩
theorem LG:∀args w,(callFunc 91 args).run Tryz.prog w=.ok (.enter 91 args) w:=enters_of Tryz.func91 zK rfl
theorem Xa (u:Value) (row:List Int) (bp:Nat) (pa pb:Value) (p:aq) (w:World) (h:bs w u row) (hp:el w pa pb p) (eV:1<=p.labels/\p.labels<=8)
  (xL:w.cell? ⟨bp,0,none⟩=some (.int .i64 p.labels)) (dk:w.cell? ⟨bp,1,none⟩=some (.int .i64 p.degree)) (jT:w.cell? ⟨bp,2,none⟩=some pa) (pC:w.cell? ⟨bp,3,none⟩=some pb):
  Calls Tryz.prog 91 #[u,.pointer (some ⟨bp,0,none⟩)] w fun e w'=>e=.returned (.bool (!lX row 0 (p.labels-1)))/\Below w.heap.size w w':=by
 obtain⟨H,HP⟩:=A_ h hp;obtain⟨A,c,rfl,-,-,-⟩:=h;obtain⟨⟨P0,z0,rfl,-,-,-⟩,⟨P1,z1,rfl,-,-,-⟩⟩:=hp
 go_enter Tryz.func91,Tryz.ntmps91
 go_wp2_with fail;refine(De _ _ p _ row _ HP H eV).mono ?_;rintro e w1 ⟨rfl,hb⟩;go_wp2;go_ret;exact⟨rfl,hb⟩
theorem Bz (pa pb ve vi vn vl:Value) (p:aq) (n:ao) (l:List (List Int)) (w:World) (hp:el w pa pb p) (h:aR w ve vi vn n) (hl:bS w vl l) (eV:1<=p.labels/\p.labels<=8):
  Calls Tryz.prog 42 #[.agg #[.int .i64 p.labels,.int .i64 p.degree,pa,pb],.agg #[ve,vi,vn],vl] w fun e w'=>e=.returned (.bool (iE p n l))/\Below w.heap.size w w':=by
 obtain⟨w0,A,c,A2,c2,A3,c3,P0,iG,P1,it,rfl,rfl,rfl,fR,hm,gC,jz,HA,H,rfl,rfl,jj,jk,jl,jm,jn,jo,HP,cD,aY,fp,fE,fM,ku,nY,oW,oX⟩:=Ah hp h;clear hp h
 obtain⟨HL,iD,gO⟩:=B_ (GQ (hl.agU aY.out)) (ET H.out) (Ai HP.out);obtain⟨AL,cL,rfl,-,-,-⟩:=hl;have U5:=zh (And.intro fp (And.intro fE (And.intro fM ku)))
 go_enter Tryz.func42,Tryz.ntmps42
 go_upto_region 1 with(fail);rw[<- cD.out];have hs:ab w0 w0:=aa _;go_wp2_with fail;refine(xI _ _ _ _ n l _ (iD _ hs) (HL _ hs)).mono ?_;rintro e W ⟨rfl,hb⟩;have hW:ab w0 W:=hs.trans hb;have HW:=zh hW;clear hb hs hW fp fE fM ku nY oW oX;cases dV:kC n l
 ·have Hr:Hid (iE p n l=false):=by show _=_;unfold iE;rw[dV];rfl
  clear dV;go_wp2;go_ret;exact⟨aJ Hr,ab.after aY HW⟩
 ·have Hr:Hid (iE p n l=Mw p l):=by show _=_;unfold iE;rw[dV];rfl
  clear dV;go_wp2_with fail;refine(j4 _ l 91 #[.pointer (some ⟨w.heap.size,0,none⟩)] (fun c => !lX c 0 (p.labels-1)) _ (HL _ HW) LG (fun c hc u X hX hu=>Xa u c _ _ _ p X hu (gO X (HW.after hX)) eV (U5.1 X (HW.after hX)) (U5.2.1 X (HW.after hX)) (U5.2.2.1 X (HW.after hX)) (U5.2.2.2 X (HW.after hX)))).mono ?_
  rintro e W2 ⟨rfl,hb⟩;have FP:=zh (HW.out.trans hb);clear hb;go_wp2;go_ret
  exact⟨bG (by rw[Hr.out];rfl),ab.after aY FP⟩
theorem Eb {p:aq} {n:ao} {l:List (List Int)} {v:Nat} (hv:v<l.length) (h:HH p n l v=false):wO p n l=false:=by
 rw[Bool.eq_false_iff];intro hs;unfold wO at hs;rw[Zbh.1 hs v (Zab.2 hv)]at h;cases h
theorem MR {a b c d:Bool} (h1:a=b) (h2:c=d):Ending.returned (.tuple #[.bool a,.bool c])=.returned (.tuple #[.bool b,.bool d]):=by rw[h1,h2]
theorem Tp {a b c d:Int} {x y:Bool} (h1:a=c) (h2:b=d) (h3:x=y):Ending.returned (.tuple #[.int .i64 a,.int .i64 b,.bool x])=.returned (.tuple #[.int .i64 c,.int .i64 d,.bool y]):=by rw[h1,h2,h3]
theorem rJ {f:Nat->Bool} {k:Nat} (h:(List.range k).all f=true) (hk:f k=true):(List.range (k+1)).all f=true:=by
 rw[Zaa,List.all_append,h];simp[hk]
theorem BA (pa pb ve vi vn vl:Value) (p:aq) (n:ao) (l:List (List Int)) (w:World) (hp:el w pa pb p) (h:aR w ve vi vn n) (hl:bS w vl l) (eZ:bV p=true) (hn:ar n=true) (hf:iE p n l=true) (PN:wB p<=1048576):
  Calls Tryz.prog 43 #[.agg #[.int .i64 p.labels,.int .i64 p.degree,pa,pb],.agg #[ve,vi,vn],vl] w fun e w'=>(∃x y:Int,e=.returned (.tuple #[.int .i64 x,.int .i64 y,.bool (!wO p n l)]))/\Below w.heap.size w w':=by
 obtain⟨hs,hr⟩:=AW hf;have hsE:eR p.agW:=(aE eZ).2
 have hsN:eR p.nodes:=by
  unfold bV at eZ;simp only[Zai]at eZ;exact jO eZ.2.2.1
 have gM:p.agW.length<=1048576:=by unfold wB CL at PN;omega
 have iM:p.nodes.length<=1048576:=by unfold wB CL at PN;omega
 have iX:=(bK hn).2
 obtain⟨w0,A,c,A2,c2,A3,c3,P0,iG,P1,it,rfl,rfl,rfl,fR,hm,gC,jz,HA,H,rfl,rfl,jj,jk,jl,jm,jn,jo,HP,cD,aY,fp,fE,fM,ku,nY,oW,oX⟩:=Ah hp h;clear hp h
 obtain⟨HL,HNe,gO⟩:=B_ (GQ (hl.agU aY.out)) (show ∀X,ab w0 X->oD X (.slice A n.ends.length c) n.ends from fun X hX=>(H.out.agU hX.below).es) (Ai HP.out);obtain⟨AL,cL,rfl,-,VR,sL⟩:=HL w0 (aa _);unfold maxLen at VR;obtain⟨HLL,Hs,Hn,HE,HN⟩:=D_ sL hs hn hsE hsN
 have Cj:l.length<=40:=by rw[hs.1];exact iX
 have jb:=zh hs.1;have aK:ab w0 w0:=aa _;clear hl sL hs hr hn hsE hsN eZ hf PN
 go_enter Tryz.func43,Tryz.ntmps43
 go_upto_region 1 with(fail);rw[<- cD.out];go_wp2
 go_loopw [16] (fun i wr=>∃v:Nat,v<=l.length/\i=.int .i64 v/\(List.range v).all (HH p n l)=true/\ab w0 wr) (fun i _=>l.length-(intOf i).toNat)
 case atStart=>exact⟨0,Zac _,rfl,rfl,aK⟩
 case round=>
  obtain⟨v,hv,rfl,c_,eD⟩:=hrel;have gS:=zh c_;clear c_ aK
  by_cases aA:v<l.length
  ·obtain⟨row,MS⟩:=au l v aA
   have hvn:v<n.ends.length:=zX jb.out
   obtain⟨es,aU⟩:=au n.ends v hvn
   have hre:row.length=es.length:=by have h9:=Hs.2 v;rw[ag MS,ag aU]at h9;exact h9
   have he6:es.length<=6:=(fO Hn aU).1;obtain⟨bL,oL,uL,rfl,Df,acY⟩:=HLL v row MS;obtain⟨AR,cR,rfl,hR1,vx,hAR⟩:=acY;unfold maxLen at vx;have dr:=ae Df;obtain⟨bE,oE,cE,uE,ja,Kv,Vo,acZ⟩:=iK (HNe w0 (aa _)) aU;cases ja;obtain⟨AE,zE,rfl,dP,dY,hAE⟩:=acZ;unfold maxLen at dY;have de:=ae Vo;obtain⟨HAR,HAE,dT,ni⟩:=C_ hAR hAE MS aU
   have MT:=zh (show ∀X,ab w0 X->bs X (.slice AR row.length cR) row from fun X hX=>by
    have h8:bs w0 (.slice AR row.length cR) row:=⟨AR,cR,rfl,hR1,by unfold maxLen;exact vx,hAR⟩
    exact h8.agU hX.below)
   have m3:=zw v;obtain⟨cf,Md⟩:=K_ (l_ p row)
   have Hcf:=zh Md;have nd:row.length<=1000:=zO
   have Hre:=zh hre;have dr0:=dr wr eD;clear MS aU Df Vo hAR hAE Md Kv hre;go_upto_region 4 with(fail);clear dr0
   go_cut [31]from 21 to 31 (fun t wx=>t=.bool (!cf)/\ab w0 wx)
   case first=>
    have q1:=fE wr eD;have q0:=fp wr eD;have q2:=fM wr eD;have q3:=ku wr eD;have qu:=zh eD
    by_cases hd:(row.length:Int)=p.degree
    ·have g1:((row.length:Int)==p.degree)=true:=by simp[hd]
     have Hd:=zh hd;have Vf:=tY _ _ p _ row wr (gO wr eD) (MT wr eD) HN iM nd
     rw[show p.nodes.contains (dz row)=cf from by rw[<- Hcf.out];unfold l_;rw[beq_iff_eq.2 Hd.out];rfl]at Vf
     have Hcn:=zh Vf;clear hd Vf eD;go_wp2_with fail;refine Hcn.mono ?_;rintro e w2 ⟨rfl,aS⟩;have eU:=zh (qu.out.after (show ab wr w2 from aS));clear aS q0 q1 q2 q3;go_wp2;go_meet
     exact⟨by first | rfl | simp,eU⟩
    ·have g1:((row.length:Int)==p.degree)=false:=by simp[hd]
     have Yn:cf=true:=by rw[<- Hcf.out];unfold l_;rw[beq_eq_false_iff_ne.2 hd];rfl
     subst Yn;clear hd eD;go_wp2;go_meet
     exact⟨by first | rfl | simp,qu⟩
   case rest=>
   obtain⟨rfl,O_⟩:=hcut;obtain⟨w5,rfl⟩:=J_ wc
   have jF:=zh O_;clear eD;cases cf
   ·have qo:Hid ((!wO p n l)=true):=by
     show _=_
     rw[Eb aA (by unfold HH;rw[ag dT.out,Hcf.out];rfl)]
     rfl
    clear O_;go_wp2
    go_ret3
    exact⟨⟨(v:Int),-1,Tp rfl rfl qo.symm⟩,ab.after aY jF⟩
   ·have de5:=de w5 O_;have q10:=nY w5 O_;clear O_;go_wp2;clear de5 q10
    go_loopw [39] (fun i wr=>∃j:Nat,j<=es.length/\i=.int .i64 j/\(List.range j).all (xR p n l v)=true/\ab w0 wr) (fun i _=>es.length-(intOf i).toNat)
    case atStart=>exact⟨0,Zac _,rfl,rfl,jF⟩
    case round=>
     obtain⟨i,hi,rfl,hai,wF⟩:=hrel;have Hai:=zh hai;clear hai;obtain⟨wo,rfl⟩:=J_ wr
     by_cases rq:i<es.length
     ·obtain⟨e,he⟩:=au es i rq
      have uy:bA n v i e:=by unfold bA;rw[ag ni.out];exact he
      obtain⟨-,f1,f2,f3,tj⟩:=dZ Hn uy;obtain⟨x,hx⟩:=Int.eq_ofNat_of_zero_le f1;obtain⟨j,hj⟩:=Int.eq_ofNat_of_zero_le f3;obtain⟨e1,e2⟩:=e;simp only at hx hj f2
      subst hx hj;have hxn:x<n.ends.length:=zO
      have ou:x<l.length:=zX jb.out
      obtain⟨yo,iY⟩:=au l x ou;simp only[Zag]at tj
      have FR:j<yo.length:=by
       have h9:=Hs.2 x;rw[ag iY]at h9;rw[h9];exact ah tj
      obtain⟨y1,VH⟩:=au row i (zX Hre.out)
      obtain⟨y2,VI⟩:=au yo j FR;have pc:i<row.length:=ah VH;obtain⟨b1,o1,rfl,ac0⟩:=HAR i y1 VH;obtain⟨b3,o3,u3,e3,pC,ac1⟩:=HLL x yo iY;cases e3;obtain⟨A3',z3,rfl,agB,aeV,ac2⟩:=ac1;obtain⟨b4,o4,rfl,ac3⟩:=ac2 j y2 VI;unfold maxLen at aeV;obtain⟨b5,o5,rfl,aaK,aaL⟩:=HAE i _ he;simp only at aaK aaL
      have t1:=ae aaK wo wF;have t2:=ae aaL wo wF;obtain⟨w8,lz⟩:=J_ (wo.alloc (.cells #[.int .i64 (x:Int),.int .i64 (j:Int)] 104))
      obtain⟨eb,tG⟩:=J_ wo.heap.size
      have h8:ab wo w8:=by rw[lz];exact ad _ (aa _)
      have z0:∀W,ab w8 W->W.cell? ⟨eb,0,none⟩=some (.int .i64 (x:Int)):=ae (by rw[lz,tG];simp)
      have z1:∀W,ab w8 W->W.cell? ⟨eb,1,none⟩=some (.int .i64 (j:Int)):=ae (by rw[lz,tG];simp)
      obtain⟨KF,Wm,j6⟩:=B_ lz tG (wF.after h8);have m4:=zw i;obtain⟨fb,tZ⟩:=K_ (tL n v i)
      have Fs:fb=(decide ((v:Int)<(x:Int))||(decide ((v:Int)=(x:Int))&&decide ((i:Int)<=(j:Int)))):=by rw[<- tZ];unfold tL;rw[ag (show(n.ends.getD v [])[i]?=some ((x:Int),(j:Int))from uy)]
      obtain⟨ez,hez⟩:=K_ (edgeB p y1 y2)
      have Ye:Hid (xR p n l v i = !(fb && !ez)):=by
       show _=_
       unfold xR ak cF
       rw[tZ,ag (show(n.ends.getD v [])[i]?=some ((x:Int),(j:Int))from uy),ag dT.out,ag VH]
       simp only[Zag];rw[ag iY,ag VI,hez]
      have Qk:=zh (show ∀X,ab w8 X->Calls Tryz.prog 94 #[.agg #[.int .i64 p.labels,.int .i64 p.degree,.slice P0 p.nodes.length iG,.slice P1 p.agW.length it],.int .i64 y1,.int .i64 y2] X fun e w'=>e=.returned (.bool ez)/\Below X.heap.size X w' from fun X hX=>by rw[<- hez];exact rh _ _ p y1 y2 X (gO X ((wF.after h8).after hX)) HE gM)
      have cy1:=ae ac0;have cy2:=ae ac3;have FX:=ae pC;have agC:=al cy1 (wF.after h8);have agD:=al cy2 (wF.after h8);have agE:=al FX (wF.after h8);have po0:=al fp (wF.after h8);have po1:=al fE (wF.after h8);have po2:=al fM (wF.after h8);have po3:=al ku (wF.after h8);have Hfe:=zh Fs;clear lz tG h8 tj uy he iY VH VI ac0 ac3 pC ac2 aaK aaL Fs tZ hez cy1 cy2 FX f1 f2 f3 wF;go_upto_region 9 with(fail);rw[<- KF.out,<- Wm.out];clear t1 t2
      go_cut [13]from 44 to 59 (fun t wx=>t=.bool fb/\wx=w8)
      case first=>
       have z00:=z0 w8 (aa _);have z10:=z1 w8 (aa _);have Fs:=Hfe.out
       by_cases q1:(v:Int)<(x:Int)
       ·obtain rfl:fb=true:=by rw[Fs,decide_eq_true q1];rfl
        have g1:decide ((v:Int)<(x:Int))=true:=decide_eq_true q1;clear Fs;go_wp2;go_meet
        exact⟨by first | rfl | simp,rfl⟩
       ·have g1:decide ((v:Int)<(x:Int))=false:=decide_eq_false q1
        by_cases q2:v=x
        ·subst q2
         by_cases q3:(i:Int)<=(j:Int)
         ·obtain rfl:fb=true:=by rw[Fs,decide_eq_true q3];simp
          have g3:decide ((i:Int)<=(j:Int))=true:=decide_eq_true q3;clear Fs;go_wp2;go_meet
          exact⟨by first | rfl | simp,rfl⟩
         ·obtain rfl:fb=false:=by rw[Fs,decide_eq_false q3,g1];simp
          have g3:decide ((i:Int)<=(j:Int))=false:=decide_eq_false q3;clear Fs;go_wp2;go_meet
          exact⟨by first | rfl | simp,rfl⟩
        ·have g2:((v:Int)==(x:Int))=false:=by rw[beq_eq_false_iff_ne];omega
         obtain rfl:fb=false:=by rw[Fs,g1,decide_eq_false zO];rfl
         clear Fs;go_wp2;go_meet
         exact⟨by first | rfl | simp,rfl⟩
      case rest=>
      obtain⟨dk,jT⟩:=hcut;subst dk;have pC:=jT.symm;clear jT;subst pC;go_upto_region 10 with(fail);refine ap 19 (ab w8) zK zK zS (aj (aa _)) ?_;simp only[zT]
      iterate 2 (refine ch rfl ?_;simp only[zA])
      iterate 14 (refine iT rfl rfl ?_;simp only[zA])
      apply bn rfl rfl;(intro hb;intro W hW;unfold a_;go_simp;with_reducible exact zQ (Qk.out W hW));simp only[zA]
      refine iT rfl rfl ?_;simp only[zA]
      (first | refine dy rfl rfl ?_ | (refine ch rfl ?_));simp only[zA]
      intro W hW;have RC:=zh (j6.out.after hW);clear hW;cases hz:(fb && !ez)
      ·have Hpt:Hid (xR p n l v i=true):=by show _=_;rw[Ye.out,hz];rfl
       clear hz;go_wp2;go_roundw
       exact⟨i+1,zO,zN,rJ Hai Hpt,RC⟩
       simp[intOf];omega
      ·have qo:Hid ((!wO p n l)=true):=by
        show _=_
        have h1:xR p n l v i=false:=by rw[Ye.out,hz];rfl
        rw[Eb aA (by
         unfold HH;rw[Zah]
         right
         rw[Bool.eq_false_iff];intro h2
         rw[Zbh.1 h2 i (Zab.2 (by rw[ag ni.out];exact rq))]at h1
         cases h1)]
        rfl
       clear hz;go_wp2
       go_ret3
       exact⟨⟨(v:Int),(i:Int),Tp rfl rfl qo.symm⟩,ab.after aY RC⟩
     ·obtain rfl:i=es.length:=zO
      have Hrf:Hid (HH p n l v=true):=by show _=_;unfold HH;rw[ag dT.out,Hcf.out,ag ni.out,Hai.out];rfl
      have Mk:=zh wF;clear wF;go_wp2;go_roundw
      exact⟨v+1,zO,zN,rJ gS Hrf,Mk⟩
      simp[intOf];omega
  ·obtain rfl:v=l.length:=zO
   have ZR:Hid ((!wO p n l)=false):=by show _=_;unfold wO;rw[gS.out];rfl
   have qu:=zh eD;clear eD;go_wp2
   go_ret3
   exact⟨⟨0,0,Tp rfl rfl ZR.symm⟩,ab.after aY qu⟩
theorem BB (pa pb ve vi vn vl:Value) (p:aq) (n:ao) (l:List (List Int)) (w:World) (hp:el w pa pb p) (h:aR w ve vi vn n) (hl:bS w vl l) (PN:wB p<=1048576) (rq:n.ids.length<=17592186044416):
  Calls Tryz.prog 10 #[.agg #[.int .i64 p.labels,.int .i64 p.degree,pa,pb],.agg #[ve,vi,vn],vl] w fun e w'=>e=.returned (.tuple #[.bool (pU p n l&&wO p n l),.bool (pU p n l)])/\Below w.heap.size w w':=by
 obtain⟨w0,A,c,A2,c2,A3,c3,P0,iG,P1,it,rfl,rfl,rfl,fR,hm,gC,jz,HA,H,rfl,rfl,jj,jk,jl,jm,jn,jo,HP,cD,aY,fp,fE,fM,ku,nY,oW,oX⟩:=Ah hp h;clear hp h
 obtain⟨HL,iD,gO⟩:=B_ (GQ (hl.agU aY.out)) (ET H.out) (Ai HP.out);obtain⟨AL,cL,rfl,-,-,-⟩:=hl;have aK:ab w0 w0:=aa _;obtain⟨q1,th⟩:=K_ (bV p)
 obtain⟨q2,EQ⟩:=K_ (ar n)
 obtain⟨q3,hq3⟩:=K_ (iE p n l)
 obtain⟨ok,eZ⟩:=K_ (pU p n l)
 have Qt:ok=(q1&&q2&&q3):=by rw[<- eZ];unfold pU;rw[th,EQ,hq3]
 rw[eZ];obtain⟨sz,fD⟩:=K_ (wO p n l)
 rw[fD];have kR:=zh fD;clear fD;obtain⟨Hq1,ZZ,Hq3,Jv⟩:=C_ th EQ hq3 Qt;clear th EQ hq3 eZ Qt
 go_enter Tryz.func10,Tryz.ntmps10
 go_upto_region 1 with(fail);rw[<- cD.out];go_wp2_with fail;refine(iq _ _ p w0 (gO w0 aK)).mono ?_;rw[Hq1.out];rintro e w1 ⟨rfl,aP⟩;have dw:ab w0 w1:=aP;clear aP aK;cases q1
 ·have di:=zh dw
  have Hf:Hid (ok=false):=by show _=_;rw[Jv.out];rfl
  clear dw;go_wp2
  go_ret2
  exact⟨MR (by rw[Hf.out];rfl) Hf.symm,ab.after aY di⟩
 go_wp2_with fail;refine(fZ _ _ _ n w1 (iD w1 dw) rq).mono ?_;rw[ZZ.out];rintro e w2 ⟨rfl,aS⟩;have fH:ab w0 w2:=dw.after (show ab w1 w2 from aS);clear aS dw;cases q2
 ·have di:=zh fH
  have Hf:Hid (ok=false):=by show _=_;rw[Jv.out];rfl
  clear fH;go_wp2
  go_ret2
  exact⟨MR (by rw[Hf.out];rfl) Hf.symm,ab.after aY di⟩
 go_wp2_with fail;refine(Bz _ _ _ _ _ _ p n l w2 (gO w2 fH) (iD w2 fH) (HL w2 fH) (aE Hq1).1).mono ?_;rw[Hq3.out];rintro e w3 ⟨rfl,er⟩;have oi:ab w0 w3:=fH.after (show ab w2 w3 from er);clear er fH;cases q3
 ·have di:=zh oi
  have Hf:Hid (ok=false):=by show _=_;rw[Jv.out];rfl
  clear oi;go_wp2
  go_ret2
  exact⟨MR (by rw[Hf.out];rfl) Hf.symm,ab.after aY di⟩
 have hlf:=BA _ _ _ _ _ _ p n l w3 (gO w3 oi) (iD w3 oi) (HL w3 oi) Hq1 ZZ Hq3 PN;rw[kR.out]at hlf;have Hlf:=zh hlf
 have Hf:Hid (ok=true):=by show _=_;rw[Jv.out];rfl
 clear hlf;go_wp2_with fail;refine Hlf.mono ?_;rintro e w4 ⟨⟨x,y,rfl⟩,pu⟩;have kD:=zh (oi.after (show ab w3 w4 from pu));clear pu oi;go_wp2
 go_ret2
 exact⟨MR (by rw[Hf.out];simp) Hf.symm,ab.after aY kD⟩
def aO (x:Int) (b:Nat):Bool:=x.toNat.testBit b
theorem Xb:∀x:Fin 256,∀b:Fin 8,IntKind.i64.wrap (((BitVec.ofInt 64 (Int.fdiv (x.1:Int) (2^b.1)) &&& BitVec.ofInt 64 1).toNat:Nat):Int)=if x.1.testBit b.1 then 1 else 0:=by decide +kernel
theorem Xc {x:Int} {b:Nat} (hx:0<=x/\x<256) (hb:b<8):IntKind.i64.wrap (((BitVec.ofInt 64 (Int.fdiv x (2^b)) &&& BitVec.ofInt 64 1).toNat:Nat):Int)=if aO x b then 1 else 0:=by
 have h:=Xb ⟨x.toNat,zO⟩ ⟨b,hb⟩
 simp only at h
 rw[show((x.toNat:Nat):Int)=x by omega]at h
 exact h
def Pa (x b:Nat):Nat:=if x.testBit b then x-2^b else x
theorem Tq:∀x:Fin 256,∀b:Fin 8,IntKind.i64.wrap (((BitVec.ofInt 64 (x.1:Int) &&& ~~~BitVec.ofInt 64 (IntKind.i64.wrap (1*2^b.1))).toNat:Nat):Int)=(Pa x.1 b.1:Int):=by decide +kernel
theorem Ts:∀x:Fin 256,∀b:Fin 8,∀c:Fin 8,(Pa x.1 b.1).testBit c.1=(x.1.testBit c.1 && !decide (c.1=b.1)):=by decide +kernel
theorem aaM {x b:Nat} (h:x.testBit b=true):Pa x b<x:=by
 unfold Pa;rw[if_pos h]
 have:=Nat.ge_two_pow_of_testBit h
 have:=Nat.two_pow_pos b
 omega
theorem aaN (x b:Nat):Pa x b<=x:=by unfold Pa;split;exact Nat.sub_le _ _;exact Zaj _
theorem Xd {x:Int} {b:Nat} (hx:0<=x/\x<256) (hb:b<8):∃y:Int,IntKind.i64.wrap (((BitVec.ofInt 64 x &&& ~~~BitVec.ofInt 64 (IntKind.i64.wrap (1*2^b))).toNat:Nat):Int)=y/\(0<=y/\y<256)/\(∀c,c<8->aO y c=(aO x c && !decide (c=b)))/\(aO x b=true->y<x):=by
 have h1:=Tq ⟨x.toNat,zO⟩ ⟨b,hb⟩
 simp only at h1
 rw[show((x.toNat:Nat):Int)=x by omega]at h1
 have h4:=aaN x.toNat b;refine⟨_,h1,zO,fun c hc=>?_,fun oc=>?_⟩
 ·have:=Ts ⟨x.toNat,zO⟩ ⟨b,hb⟩ ⟨c,hc⟩
  unfold aO;simpa using this
 ·have:=aaM oc
  omega
theorem rK {x:Int} {b:Nat} (hx:0<=x/\x<256) (hb:b<8):∃z:Int,bits BinOp.and IntKind.i64 (x/2^b) 1=z/\(aO x b=true->z=1)/\(aO x b=false->z=0)/\min b 64=b:=by
 have h:=Xc hx hb;rw[Int.fdiv_eq_ediv_of_nonneg _ (Int.le_of_lt (Int.pow_pos zO))]at h;refine⟨_,rfl,fun hb=>?_,fun hb=>?_,zO⟩
 ·show IntKind.i64.wrap _=1
  rw[if_pos hb]at h;exact h
 ·show IntKind.i64.wrap _=0
  rw[if_neg (by rw[hb];simp)]at h
  exact h
theorem Tt (x:Nat):∀b,x.testBit b=decide (x/2^b%2=1):=fun b=>by
 rw[Nat.testBit_eq_decide_div_mod_eq]
theorem Pb (x b:Nat) (w:World) (hx:x<256) (hb:b<=8):
  Calls Tryz.prog 155 #[.int .i64 x,.int .i64 b] w fun e w'=>e=.returned (.int .i64 (if x.testBit b then (1:Int) else 0))/\w=w':=by
 obtain⟨Z,hZ⟩:=J_ (if x.testBit b then (1:Int) else 0)
 rw[<- hZ];have HZ:=zh hZ;clear hZ
 go_enter Tryz.func155,Tryz.ntmps155
 go_upto_region 1 with(fail)
 go_loopw [0,1] (fun y i wr=>∃k:Nat,k<=b/\i=.int .i64 k/\y=.int .i64 ((x/2^(b-k):Nat):Int)/\wr=w) (fun _ i _=>(intOf i).toNat)
 case atStart=>exact⟨b,Zaj _,rfl,zS,rfl⟩
 case round=>
  obtain⟨k,hk,rfl,rfl,rfl⟩:=hrel
  by_cases h0:0<k
  ·obtain⟨j,rfl⟩:∃j,k=j+1:=⟨k-1,zO⟩
   have ht:(((j+1:Nat):Int)>0)=True:=eq_true zO
   have lD:IntKind.i64.wrap (((j+1:Nat):Int)-1)=(j:Int):=by rw[bU _ zO zO];omega
   obtain⟨y,hy⟩:=K_ (x/2^(b-(j+1)))
   have VI:x/2^(b-j)=y/2:=by rw[show b-j=b-(j+1)+1 by omega,Nat.pow_succ,<- Nat.div_div_eq_div_mul,hy]
   have Qc:y<256:=by rw[<- hy];exact Nat.lt_of_le_of_lt (Nat.div_le_self _ _) hx
   rw[hy]
   have hd:(y:Int).tdiv 2=((y/2:Nat):Int):=by rw[Int.tdiv_eq_ediv_of_nonneg zO];simp
   have ip:IntKind.i64.wrap ((y/2:Nat):Int)=((y/2:Nat):Int):=bU _ zO zO;have Hy2:=zh VI;clear VI hy;go_wp2;go_roundw
   exact⟨j,zO,rfl,by rw[Hy2.out];simp,trivial⟩
   case measure=>simp[intOf]
  ·obtain rfl:k=0:=zO
   obtain⟨y,hy⟩:=K_ (x/2^(b-0))
   have Qc:y<256:=by rw[<- hy];exact Nat.lt_of_le_of_lt (Nat.div_le_self _ _) hx
   have Hb:Hid (x.testBit b=decide (y%2=1)):=by show _=_;rw[Tt,<- hy];rfl
   rw[hy]
   have hd:(y:Int).tmod 2=((y%2:Nat):Int):=by rw[Int.tmod_eq_emod_of_nonneg zO];simp
   have ip:IntKind.i64.wrap ((y%2:Nat):Int)=((y%2:Nat):Int):=bU _ zO zO;clear hy;go_wp2;go_ret
   have hv:Z=(y:Int)%2:=by
    rw[HZ.out,Hb.out]
    by_cases e:y%2=1
    ·rw[if_pos (decide_eq_true e)];omega
    ·rw[if_neg (by simpa using e)];omega
   rw[hv];exact⟨rfl,rfl⟩
theorem mT (x:Int) (b:Nat) (w:World) (hx:0<=x/\x<256) (hb:b<=8):
  Calls Tryz.prog 111 #[.int .i64 x,.int .i64 b] w fun e w'=>e=.returned (.bool (aO x b))/\w=w':=by
 obtain⟨X,rfl⟩:=Int.eq_ofNat_of_zero_le hx.1;have hN:=Pb X b w zO hb
 have Vc:aO (X:Int) b=X.testBit b:=by unfold aO;simp
 rw[Vc];clear Vc;obtain⟨bb,yP⟩:=J_ (X.testBit b)
 rw[<- yP]at hN ⊢;clear yP;cases bb
 ·have HN:=zh hN;clear hN
  go_enter Tryz.func111,Tryz.ntmps111
  go_wp2_with fail;refine HN.mono ?_;rintro e w1 ⟨rfl,rfl⟩;go_wp2;go_ret;exact⟨rfl,rfl⟩
 ·have HN:=zh hN;clear hN
  go_enter Tryz.func111,Tryz.ntmps111
  go_wp2_with fail;refine HN.mono ?_;rintro e w1 ⟨rfl,rfl⟩;go_wp2;go_ret;exact⟨rfl,rfl⟩
def aF (x:Nat):Nat:=min x 1000000000001
theorem yW (a b:Nat):aF (aF a+aF b)=aF (a+b):=by unfold aF;omega
theorem eH (a:Nat):aF a<=1000000000001:=Nat.min_le_right _ _
theorem yX {a:Nat}:0<aF a↔0<a:=by unfold aF;omega
theorem sM (a b:Nat):aF (aF a*aF b)=aF (a*b):=by
 unfold aF;rcases Zbi a 1000000000001 with ha | ha
 ·rcases Zbi b 1000000000001 with hb | hb
  ·rw[Nat.min_eq_left (Zcd ha),Nat.min_eq_left (Zcd hb)]
  ·rw[Nat.min_eq_left (Zcd ha),Nat.min_eq_right hb];rcases Zbk a with h0 | h0
   ·subst h0;simp
   ·rw[Nat.min_eq_right (Zak zO (Nat.mul_le_mul h0 (Zaj 1000000000001))),Nat.min_eq_right (Zak zO (Nat.mul_le_mul h0 hb))]
 ·rw[Nat.min_eq_right ha];rcases Zbk b with h0 | h0
  ·subst h0;simp
  ·have h1:1<=min b 1000000000001:=zO
   rw[Nat.min_eq_right (Zak zO (Nat.mul_le_mul (Zaj 1000000000001) h1)),Nat.min_eq_right (Zak zO (Nat.mul_le_mul ha h0))]
theorem Ec {a b:Nat} (ha:a<=1000000000001) (hb:b<=1000000000001):(0<a->1000000000001/a<b->aF (a*b)=1000000000001)/\(¬(0<a/\1000000000001/a<b)->a*b<=1000000000001/\aF (a*b)=a*b):=by
 unfold aF;refine⟨fun h1 h2=>?_,fun h=>?_⟩
 ·rw[Nat.div_lt_iff_lt_mul h1]at h2;rw[Nat.mul_comm];omega
 ·rcases Zbk a with h0 | h0
  ·subst h0;simp
  ·have h2:¬1000000000001/a<b:=fun h3=>h ⟨h0,h3⟩
   rw[Nat.div_lt_iff_lt_mul h0,Nat.mul_comm]at h2;omega
theorem pX (a b:Nat) (w:World) (ha:a<=1000000000001) (hb:b<=1000000000001):
  Calls Tryz.prog 160 #[.int .i64 a,.int .i64 b] w fun e w'=>e=.returned (.int .i64 (aF (a+b):Nat))/\w=w':=by
 have lD:IntKind.i64.wrap ((a:Int)+(b:Int))=((a+b:Nat):Int):=by rw[bU _ zO zO];omega
 have HL:=zh (iV ((a+b:Nat):Int) 1000000000001 w)
 have He:Hid (min ((a+b:Nat):Int) 1000000000001=((aF (a+b):Nat):Int)):=by show _=_;unfold aF;omega
 go_enter Tryz.func160,Tryz.ntmps160
 go_wp2_with fail;refine HL.mono ?_;rintro e w1 ⟨rfl,rfl⟩;rw[He.out];go_wp2;go_ret;exact⟨rfl,rfl⟩
theorem rL (a b:Nat) (w:World) (ha:a<=1000000000001) (hb:b<=1000000000001):
  Calls Tryz.prog 115 #[.int .i64 a,.int .i64 b] w fun e w'=>e=.returned (.int .i64 (aF (a*b):Nat))/\w=w':=by
 obtain⟨s1,s2⟩:=Ec ha hb
 by_cases h0:a=0
 ·subst h0;have HL:=zh (iV 0 1000000000001 w)
  have He:Hid (min (0:Int) 1000000000001=0):=by show _=_;omega
  have H0:Hid (((aF (0*b):Nat):Int)=0):=by show _=_;simp[aF]
  rw[H0.out];clear s1 s2
  go_enter Tryz.func115,Tryz.ntmps115
  go_wp2_with fail;refine HL.mono ?_
  rintro e w1 ⟨rfl,rfl⟩;rw[He.out]
  go_wp2;go_ret;exact⟨rfl,rfl⟩
 ·obtain⟨q,hq⟩:=K_ (1000000000001/a)
  rw[hq]at s1 s2
  have X_:q<=1000000000001:=by rw[<- hq];exact Nat.div_le_self _ _
  have hd:(1000000000001:Int).tdiv (a:Int)=(q:Int):=by rw[Int.tdiv_eq_ediv_of_nonneg zO,<- hq];simp
  have ip:IntKind.i64.wrap (q:Int)=(q:Int):=bU _ zO zO;have mA:0<a:=zO
  have ha0:¬((a:Int)=0):=zO
  have Cw:¬(a=0):=h0
  by_cases hc:q<b
  ·have H0:Hid (((aF (a*b):Nat):Int)=1000000000001):=by show _=_;rw[s1 mA hc];rfl
   rw[H0.out];clear s1 s2 hq
   have jT:((b:Int)>(q:Int))=True:=by simp;omega
   go_enter Tryz.func115,Tryz.ntmps115
   go_wp2;go_ret;exact⟨rfl,rfl⟩
  ·obtain⟨k1,k2⟩:=s2 (fun h=>hc h.2)
   have H0:Hid (((aF (a*b):Nat):Int)=((a*b:Nat):Int)):=by show _=_;rw[k2]
   rw[H0.out];obtain⟨m,hm⟩:=K_ (a*b)
   have QU:(a:Int)*(b:Int)=(m:Int):=by rw[<- hm];simp
   rw[hm];rw[hm]at k1;have lD:IntKind.i64.wrap (m:Int)=(m:Int):=bU _ zO zO;have HL:=zh (iV (m:Int) 1000000000001 w)
   have He:Hid (min (m:Int) 1000000000001=(m:Int)):=by show _=_;omega
   clear s1 s2 hq k2 H0 hm
   have jT:((b:Int)>(q:Int))=False:=by simp;omega
   go_enter Tryz.func115,Tryz.ntmps115
   go_wp2_with fail;refine HL.mono ?_
   rintro e w1 ⟨rfl,rfl⟩;rw[He.out]
   go_wp2;go_ret;exact⟨rfl,rfl⟩
theorem xc (a b:Nat) (w:World) (ha:a<=1000000000001) (hb:b<=1000000000001):
  Calls Tryz.prog 61 #[.int .i64 a,.int .i64 b] w fun e w'=>e=.returned (.int .i64 (aF (a*b):Nat))/\w=w':=by
 obtain⟨s1,s2⟩:=Ec ha hb
 by_cases h0:a=0
 ·subst h0;have HL:=zh (iV 0 1000000000001 w)
  have He:Hid (min (0:Int) 1000000000001=0):=by show _=_;omega
  have H0:Hid (((aF (0*b):Nat):Int)=0):=by show _=_;simp[aF]
  rw[H0.out];clear s1 s2
  go_enter Tryz.func61,Tryz.ntmps61
  skip;skip;skip;go_wp2;go_ret;exact⟨rfl,rfl⟩
 ·obtain⟨q,hq⟩:=K_ (1000000000001/a)
  rw[hq]at s1 s2
  have X_:q<=1000000000001:=by rw[<- hq];exact Nat.div_le_self _ _
  have hd:(1000000000001:Int).tdiv (a:Int)=(q:Int):=by rw[Int.tdiv_eq_ediv_of_nonneg zO,<- hq];simp
  have ip:IntKind.i64.wrap (q:Int)=(q:Int):=bU _ zO zO;have mA:0<a:=zO
  have ha0:¬((a:Int)=0):=zO
  have Cw:¬(a=0):=h0
  by_cases hc:q<b
  ·have H0:Hid (((aF (a*b):Nat):Int)=1000000000001):=by show _=_;rw[s1 mA hc];rfl
   rw[H0.out];clear s1 s2 hq
   have jT:((b:Int)>(q:Int))=True:=by simp;omega
   go_enter Tryz.func61,Tryz.ntmps61
   go_wp2;go_ret;exact⟨rfl,rfl⟩
  ·obtain⟨k1,k2⟩:=s2 (fun h=>hc h.2)
   have H0:Hid (((aF (a*b):Nat):Int)=((a*b:Nat):Int)):=by show _=_;rw[k2]
   rw[H0.out];obtain⟨m,hm⟩:=K_ (a*b)
   have QU:(a:Int)*(b:Int)=(m:Int):=by rw[<- hm];simp
   rw[hm];rw[hm]at k1;have lD:IntKind.i64.wrap (m:Int)=(m:Int):=bU _ zO zO;have HL:=zh (iV (m:Int) 1000000000001 w)
   have He:Hid (min (m:Int) 1000000000001=(m:Int)):=by show _=_;omega
   clear s1 s2 hq k2 H0 hm
   have jT:((b:Int)>(q:Int))=False:=by simp;omega
   go_enter Tryz.func61,Tryz.ntmps61
   skip;skip;skip;go_wp2;go_ret;exact⟨rfl,rfl⟩
theorem bs.drop {w:World} {A:Option Addr} {c:Nat} {xs:List Int} (h:bs w (.slice A xs.length c) xs) {k:Nat} (hk:k<=xs.length):∃A',(if c=k then A else A.map fun x=>x.add k)=A'/\bs w (.slice A' (xs.length-k) (c-k)) (xs.drop k):=by
 obtain⟨A0,c0,e,h2,h3,h4⟩:=h;cases e
 refine⟨_,rfl,_,_,by rw[List.length_drop],by rw[List.length_drop];omega,by unfold maxLen at h3 ⊢;omega,fun j x hj=>?_⟩
 rw[List.getElem?_drop]at hj;obtain⟨b,off,e1,e2⟩:=h4 (k+j) x hj;have aA:=ah hj
 refine⟨b,off+k,?_,by rw[show off+k+j=off+(k+j)by omega];exact e2⟩
 rw[if_neg zO,e1];show some (Addr.add _ k)=_
 unfold Addr.add
 by_cases h0:k=0
 ·rw[if_pos h0,h0];rfl
 ·rw[if_neg h0]
theorem bs.ahv {w:World} {b o c:Nat} {xs:List Int} (h:bs w (.slice (some ⟨b,o,none⟩) xs.length c) xs) {k:Nat} (hk:k<=xs.length):∃A',(if c=k then some (⟨b,o,none⟩:Addr) else some ⟨b,o+k,none⟩)=A'/\bs w (.slice A' (xs.length-k) (c-k)) (xs.drop k):=by
 obtain⟨A',h1,h2⟩:=bs.drop h hk;refine⟨A',?_,h2⟩;rw[<- h1]
 by_cases e:c=k
 ·rw[if_pos e,if_pos e]
 ·rw[if_neg e,if_neg e];show _=some (Addr.add _ k)
  unfold Addr.add
  by_cases h0:k=0
  ·rw[if_pos h0,h0];rfl
  ·rw[if_neg h0]
theorem kU {w:World} {A:Option Addr} {c:Nat} {xs:List Int} {k:Nat} {x:Int} (h:bs w (.slice A xs.length c) xs) (hx:xs[k]?=some x):∃b off,A=some ⟨b,off,none⟩/\w.cell? ⟨b,off+k,none⟩=some (.int .i64 x):=by
 obtain⟨A0,c0,e,h2,h3,h4⟩:=h;cases e;exact h4 k x hx
def skipB (x:List Int) (j:Nat):Bool:=decide (0<j)&&decide (x.getD (j-1) 0=x.getD j 0)
def lH (ms:List Int):Nat->Nat->List Int->Bool
 | 0,_,_=>true
 | r+1,k,x=>(List.range x.length).any fun j => !skipB x j&&(aO (ms.getD k 0) (x.getD j 0).toNat&&lH ms r (k+1) (x.take j++x.drop (j+1)))
def rM (ms:List Int) (r k:Nat) (x:List Int) (j:Nat):Bool:=!skipB x j&&(aO (ms.getD k 0) (x.getD j 0).toNat&&lH ms r (k+1) (x.take j++x.drop (j+1)))
theorem rN (ms:List Int) (r k:Nat) (x:List Int):lH ms (r+1) k x=(List.range x.length).any (rM ms r k x):=rfl
theorem Ft {N:Nat} {f:Nat->Bool} (h:∀j,j<N->f j=false):(List.range N).any f=false:=by
 rw[List.any_eq_false];intro j hj;rw[h j (Zab.1 hj)];simp
theorem Dg {N j:Nat} {f:Nat->Bool} (hj:j<N) (h:f j=true):(List.range N).any f=true:=Zcg.2 ⟨j,Zab.2 hj,h⟩
theorem yd (ms:List Int) (hm8:ms.length<=100) (hmr:∀y∈ms,0<=y/\y<256):∀(r k:Nat) (v um:Value) (x:List Int) (w:World),bs w v x->bs w um ms->ms.length=k+r->x.length<=100->(∀y∈x,0<=y/\y<8) ->
  Calls Tryz.prog 210 #[v,um,.int .i64 k] w fun e w'=>e=.returned (.bool (lH ms r k x))/\Below w.heap.size w w'
 | 0,k,v,um,x,w,hv,hu,hr,hx,hy=>by
  obtain⟨A,c,rfl,-,-,-⟩:=hv;obtain⟨A2,c2,rfl,-,-,-⟩:=hu;have hk:k=ms.length:=zO
  subst hk;clear hr
  go_enter Tryz.func210,Tryz.ntmps210
  go_wp2;go_ret;exact⟨rfl,Zaf _ _⟩
 | r+1,k,v,um,x,w,hv,hu,hr,hx,hy=>by
  have IH0:=yd ms hm8 hmr r (k+1);rw[show((k+1:Nat):Int)=(k:Int)+1 by omega]at IH0
  have IH:=zh IH0;clear IH0;obtain⟨HV,HU⟩:=A_ hv hu;obtain⟨A,c,rfl,fR,DJ,-⟩:=hv;obtain⟨A2,c2,rfl,J4,aaO,-⟩:=hu;unfold maxLen at DJ aaO;obtain⟨m,hm⟩:=au ms k zO;have ac4:=hmr m (Zaq hm);obtain⟨b2,o2,rfl,jT⟩:=kU HU hm;obtain⟨Hm,Hr,Hy⟩:=B_ hm hr hy
  have aeW:((k:Int)==(ms.length:Int))=false:=by rw[beq_eq_false_iff_ne];omega
  have oV:k<ms.length:=zO
  have m3:=zw k;have Hms:Hid (ms.getD k 0=m):=ag hm;clear hm hr hy hmr
  go_enter Tryz.func210,Tryz.ntmps210
  go_upto_region 4 with(fail)
  go_loopw [15] (fun i wr=>∃j:Nat,j<=x.length/\i=.int .i64 j/\(∀j',j'<j->rM ms r k x j'=false)/\ab w wr) (fun i _=>x.length-(intOf i).toNat)
  case atStart=>exact⟨0,Zac _,rfl,fun j' h=>zO,aa _⟩
  case round=>
   obtain⟨j,hj,rfl,i_,hs⟩:=hrel;obtain⟨qo,Hs⟩:=A_ i_ hs;clear i_
   by_cases aA:j<x.length
   ·obtain⟨y,J2⟩:=au x j aA;have qv:=Hy y (Zaq J2);obtain⟨a,rfl⟩:=Int.eq_ofNat_of_zero_le qv.1;obtain⟨b,o,rfl,dk⟩:=kU HV J2;have e1:=bc hs.below dk;have e2:=bc hs.below jT;have YV:Hid (x.getD j 0=(a:Int)):=ag J2;have m4:=zw j;obtain⟨sk,hsk⟩:=J_ (skipB x j || !aO m a)
    have HT:Hid (rM ms r k x j=(!sk&&lH ms r (k+1) (x.take j++x.drop (j+1)))):=by
     show _=_
     unfold rM;rw[YV.out,Hms.out,hsk,Zag]
     cases skipB x j <;> cases aO m a <;> rfl
    have KY:=zh hsk;clear hsk dk J2;go_upto_region 6 with(fail)
    go_cut [39]from 20 to 39 (fun t wx=>t=.bool sk/\wx=wr)
    case first=>
     rcases Zbk j with h0 | h0
     ·subst h0
      have aK:sk = !aO m a:=by rw[KY.out];rfl
      have ic:=zh aK;clear aK;go_wp2_with fail;refine(mT m a wr ac4 zO).mono ?_;rintro e w1 ⟨rfl,rfl⟩;go_wp2;go_meet
      exact⟨by rw[ic.out],rfl⟩
     ·obtain⟨q,rfl⟩:∃q,j=q+1:=⟨j-1,zO⟩
      obtain⟨z,hz⟩:=au x q zO;obtain⟨b',o',e',pC⟩:=kU HV hz;cases e';have e3:=bc hs.below pC
      have m5:IntKind.i64.wrap (((q+1:Nat):Int)-1)=(q:Int):=by rw[bU _ zO zO];omega
      have mA:(((q+1:Nat):Int)>0)=True:=eq_true zO
      by_cases hzy:z=(a:Int)
      ·have aK:sk=true:=by rw[KY.out];unfold skipB;rw[YV.out,show q+1-1=q by omega,ag hz,hzy];simp
       have ic:=zh aK;clear aK pC hz;go_wp2;go_meet
       exact⟨by rw[ic.out],rfl⟩
      ·have aK:sk = !aO m a:=by rw[KY.out];unfold skipB;rw[YV.out,show q+1-1=q by omega,ag hz,decide_eq_false hzy];simp
       have ic:=zh aK;have hzf:(z==(a:Int))=false:=by simp[hzy]
       clear aK pC hz;go_wp2_with fail;refine(mT m a wr ac4 zO).mono ?_;rintro e w1 ⟨rfl,rfl⟩;go_wp2;go_meet
       exact⟨by rw[ic.out],rfl⟩
    case rest=>
    obtain⟨dk,jT⟩:=hcut;subst dk;have pC:=jT.symm;clear jT;subst pC;cases sk
    ·have h1:j<=x.length:=zO
     have h2:j+1<=x.length:=zO
     have h3:j<=c:=zO
     have h4:0<=(j:Int)+1:=zO
     have h5:(j:Int)+1<=(x.length:Int):=zO
     obtain⟨A',eA',HD'⟩:=bs.ahv HV h2;obtain⟨Htk,HD⟩:=A_ (HV.out.take j h1) HD'
     have Wj:Hid ((x.take j).length+(x.drop (j+1)).length<=17592186044416):=by show _<=_;rw[Zby,List.length_drop];omega
     have Htl:Hid ((x.take j).length<=17592186044416):=by show _<=_;rw[Zby];omega
     have Hx':Hid ((x.take j++x.drop (j+1)).length<=100):=by show _<=_;rw[Zay,Zby,List.length_drop];omega
     have Hy':Hid (∀y∈x.take j++x.drop (j+1),0<=y/\y<8):=fun y hy=>by
      rcases Zar.1 hy with hy | hy
      ·exact Hy y (List.mem_of_mem_take hy)
      ·exact Hy y (List.mem_of_mem_drop hy)
     have eD:ab wr wr:=aa _;obtain⟨z,hz⟩:=K_ (lH ms r (k+1) (x.take j++x.drop (j+1)))
     have Hz:=zh hz;clear HD' hz hs e1 e2;go_upto_region 7 with(fail);refine dO (w0:=wr) 13 [false,false,false,true,false,false,false,false,true,false,false,false,true] zK zK (eD) ?_;simp only[ew,dM,zT]
     iterate 10 (apply ef rfl;(intro W hW;go_simp;with_reducible rfl);simp only[zA])
     intro W hW;refine Or.inl ⟨rfl,?_⟩
     go_simp
     (with_reducible refine((iU _ (x.take j) W (Htk.out.agU (Hs.out.after hW).below) Htl.out).mono (fun e w' ⟨u,h1,h2,h3⟩=>(⟨u,h1,h2.mono hW.below.size,h3⟩:∃u,e=Ending.returned u/\Own w' wr.heap.size u (x.take j)/\Below W.heap.size W w'))).mono ?_)
     rintro e W' ⟨u1,rfl,ho,hb⟩;refine⟨_,rfl,hW.trans hb,?_⟩
     replace hW:=hW.trans hb
     have Ho:=zh ho;clear ho
     (try simp only[zA])
     refine dA (fun Q' HQ=>?_)
     (refine fQ (base:=wr.heap.size) rfl _ _ rfl rfl Ho rfl (HD.agU (Hs.after hW).below) Wj hW.below.size ?_);intro v' w9 T gj fg OZ;have Xe:=aV.since hW fg (fun q hq=>(Zad Ho q (Zcm.1 hq)).1);obtain⟨BC,-⟩:=id gj;have Hi9:=zh BC.ints;clear BC gj fg OZ;refine HQ _ _ Xe ?_
     (try simp only[zA])
     refine Or.inl ⟨rfl,?_⟩
     go_simp
     (with_reducible refine(IH.out _ _ _ w9 Hi9.out (HU.out.agU (Hs.out.after Xe).below) (zX Hr.out) Hx'.out Hy'.out).mono ?_)
     rintro e W' ⟨rfl,hb⟩;refine⟨_,rfl,Xe.trans hb,?_⟩
     replace hW:=Xe.trans hb
     skip
     (try simp only[zA])
     simp only[bP];have yL:=zh (Hs.out.after hW);clear hW;rw[Hz.out];cases z
     ·have Hf:Hid (rM ms r k x j=false):=by show _=_;rw[HT.out,Hz.out];rfl
      go_wp2;go_roundw
      exact⟨j+1,zO,zN,fun j' h=>(by rcases Zbi j' j with h2 | h2;exact qo j' h2;rw[show j'=j by omega];exact Hf),yL⟩
      simp[intOf];omega
     ·have Hf:Hid (lH ms (r+1) k x=true):=by
       show _=_
       rw[rN]
       exact Dg aA (by rw[HT.out,Hz.out];rfl)
      have vC:=zh yL.out.below;go_wp2;go_ret
      exact⟨by rw[Hf.out];rfl,vC⟩
    ·have Hf:Hid (rM ms r k x j=false):=by show _=_;rw[HT.out];rfl
     go_wp2;go_roundw
     exact⟨j+1,zO,zN,fun j' h=>(by rcases Zbi j' j with h2 | h2;exact qo j' h2;rw[show j'=j by omega];exact Hf),Hs⟩
     simp[intOf];omega
   ·have LH:Hid (lH ms (r+1) k x=false):=by
     show _=_
     rw[rN];exact Ft fun j' h=>qo j' zO
    have eU:=zh Hs.out.below;clear hs;go_wp2;go_ret
    exact⟨by rw[LH.out];rfl,eU⟩
theorem IF (b c:Nat) (x:Int) (N:Nat) (w:World) (Ke:N<=1000000) (hc:w.cell? ⟨b,0,none⟩=some (.int .i64 x)):
  Calls Tryz.prog 97 #[.slice (some ⟨b,0,none⟩) 1 c,.int .i64 N] w fun e w'=>∃u,e=.returned u/\Own w' w.heap.size u (List.replicate N x)/\Below w.heap.size w w':=by
 rcases Zbk N with rfl | h
 ·exact xH b c x w hc
 ·exact nH b c x N w h Ke hc
def chooseB (p:aq) (ms:List Int):Bool:=p.nodes.any (lH ms ms.length 0)
theorem BE {p:aq} (cC:bV p=true) {c:List Int} (hc:c∈p.nodes):c.length<=100/\∀y∈c,0<=y/\y<8:=by
 obtain⟨h1,-,h3⟩:=iu cC hc;have vP:=cC;unfold bV at vP;simp only[Zai,aB]at vP
 exact⟨zO,fun y hy=>zX (h3 y hy)⟩
theorem Fu (pa pb um:Value) (p:aq) (ms:List Int) (w:World) (hp:el w pa pb p) (hm:bs w um ms) (cC:bV p=true) (hl:ms.length<=100) (hmr:∀y∈ms,0<=y/\y<256):
  Calls Tryz.prog 189 #[.agg #[.int .i64 p.labels,.int .i64 p.degree,pa,pb],um] w fun e w'=>e=.returned (.bool (chooseB p ms))/\Below w.heap.size w w':=by
 have HM:=zh hm;obtain⟨AM,cM,rfl,-,-,-⟩:=hm;obtain⟨jB,Hmr⟩:=A_ cC hmr
 obtain⟨w0,P0,iG,P1,it,rfl,rfl,jj,jk,jl,jm,jn,jo,HP,cD,aY,fp,fE,fM,ku⟩:=UZ hp;clear hp
 have gO:=zh (show ∀X,ab w0 X->bS X (.slice P0 p.nodes.length iG) p.nodes from fun X hX=>(HP.out.agU hX).1)
 have aK:ab w0 w0:=aa _;have Cn:=zh (zpI (HM.out.agU aY.out));clear cC hmr
 go_enter Tryz.func189,Tryz.ntmps189
 go_upto_region 1 with(fail);rw[<- cD.out];go_upto_region 2 with(fail)
 go_loopw [10] (fun i wr=>∃k:Nat,k<=p.nodes.length/\i=.int .i64 k/\(∀j c,j<k->p.nodes[j]?=some c->lH ms ms.length 0 c=false)/\ab w0 wr) (fun i _=>p.nodes.length-(intOf i).toNat)
 case atStart=>exact⟨0,Zac _,rfl,fun j c h=>zO,aK⟩
 case round=>
  obtain⟨k,hk,rfl,i_,hs⟩:=hrel;obtain⟨qo,Hs⟩:=A_ i_ hs;clear i_ aK
  by_cases aA:k<p.nodes.length
  ·obtain⟨y,hy⟩:=au p.nodes k aA;have Kf:=BE jB (Zaq hy);have Hy:=zh hy;obtain⟨AL,cl,eL,-,-,sL⟩:=gO wr hs;cases eL;obtain⟨bL,oL,uL,rfl,Df,s9⟩:=sL k y hy;obtain⟨AR,cR,rfl,-,-,-⟩:=id s9;have Hc:=zh (yd ms hl Hmr.out ms.length 0 _ (.slice AM ms.length cM) y wr s9 (Cn.out wr hs) zO Kf.1 Kf.2);have m3:=zw k;obtain⟨z,hz⟩:=K_ (lH ms ms.length 0 y)
   rw[hz]at Hc;have Hz:=zh hz;clear hz hy sL s9 Kf;go_wp2_with fail;refine Hc.mono ?_;rintro e w1 ⟨rfl,hb⟩;have di:=zh (Hs.out.after (show ab wr w1 from hb));clear hb Df hs;cases z
   ·go_wp2;go_roundw
    exact⟨k+1,zO,zN,fun j c hj hc=>(by rcases Zbi j k with h2 | h2;exact qo j c h2 hc;rw[show j=k by omega,Hy.out]at hc;rw[<- Zbx hc];exact Hz),di⟩
    simp[intOf];omega
   ·have Hf:Hid (chooseB p ms=true):=Zcg.2 ⟨y,Zaq Hy,Hz⟩;have dH:Hid (Below w.heap.size w w1):=ab.after aY di;go_wp2;go_ret
    exact⟨by rw[Hf.out];rfl,dH⟩
  ·have Hf:Hid (chooseB p ms=false):=by
    show _=_
    unfold chooseB;rw[List.any_eq_false];intro c hc;obtain⟨j,hj⟩:=List.getElem?_of_mem hc;rw[qo.out j c (zX (ah hj)) hj];simp
   have dH:Hid (Below w.heap.size w wr):=ab.after aY Hs;clear hs;go_wp2;go_ret
   exact⟨by rw[Hf.out];rfl,dH⟩
def Xf (p:aq) (pa pb va vb vc vm:Value):Array Value:=#[.int .i64 p.labels,.int .i64 p.degree,pa,pb,va,vb,vc,vm]
theorem eC {W:World} {mb:Nat} {p:aq} {pa pb va vb vc vm:Value} (h:fF W mb (Xf p pa pb va vb vc vm)):W.cell? ⟨mb,0,none⟩=some (.int .i64 p.labels)/\W.cell? ⟨mb,1,none⟩=some (.int .i64 p.degree)/\W.cell? ⟨mb,2,none⟩=some pa/\W.cell? ⟨mb,3,none⟩=some pb/\W.cell? ⟨mb,4,none⟩=some va/\W.cell? ⟨mb,5,none⟩=some vb/\W.cell? ⟨mb,6,none⟩=some vc/\W.cell? ⟨mb,7,none⟩=some vm:=
 ⟨(h.cell 0 _ rfl).1,(h.cell 1 _ rfl).1,(h.cell 2 _ rfl).1,(h.cell 3 _ rfl).1,(h.cell 4 _ rfl).1,(h.cell 5 _ rfl).1,(h.cell 6 _ rfl).1,(h.cell 7 _ rfl).1⟩
structure uA (n:ao) (M:List (List Int)):Prop where
 shp:dv n M
 rng:∀(v:Nat) (row:List Int) (i:Nat) (x:Int),M[v]?=some row->row[i]?=some x->0<=x/\x<256
theorem uA.at {n:ao} {M:List (List Int)} (h:uA n M) {k j:Nat} {es:List (Int×Int)} (hk:n.ends[k]?=some es) (hj:j<es.length):∃row x,M[k]?=some row/\row.length=es.length/\row[j]?=some x/\ak M k j=x/\(0<=x/\x<256):=by
 obtain⟨row,aG⟩:=au M k (by rw[h.shp.1];exact ah hk)
 have hl:row.length=es.length:=by rw[gz h.shp aG,ag hk]
 obtain⟨x,hx⟩:=au row j zO
 exact⟨row,x,aG,hl,hx,by unfold ak;rw[ag aG,ag hx],h.rng k row j x aG hx⟩
def s_ (p:aq) (n:ao) (M:List (List Int)) (v i:Nat) (a:Int):Bool:=
 if (n.ends.getD v []).getD i (0,0)=((v:Int),(i:Int)) then edgeB p a a else (List.range p.labels.toNat).any fun b=>aO (ak M (cF n v i).1 (cF n v i).2) b&&edgeB p a (b:Int)
theorem IG (mb:Nat) (pa pb va vb vc vm:Value) (p:aq) (n:ao) (M:List (List Int)) (v i a:Nat) (w:World) (hB:fF w mb (Xf p pa pb va vb vc vm)) (hp:el w pa pb p) (h:aR w va vb vc n) (hm:bS w vm M) (cC:bV p=true) (hn:ar n=true) (hM:uA n M) (gM:p.agW.length<=1048576) {es:List (Int×Int)} (aU:n.ends[v]?=some es) (hi:i<es.length):
  Calls Tryz.prog 144 #[.pointer (some ⟨mb,0,none⟩),.int .i64 v,.int .i64 i,.int .i64 a] w fun e w'=>e=.returned (.bool (s_ p n M v i a))/\Below w.heap.size w w':=by
 obtain⟨eV,hst⟩:=aE cC;obtain⟨f,hf⟩:=au es i hi;obtain⟨k,j,NQ,rfl,qE,hj⟩:=pM hn aU hf;obtain⟨yo,x,iY,CK,hx,ti,pc⟩:=hM.at qE hj
 have hR:Hid (s_ p n M v i a=if ((k:Int),(j:Int))=((v:Int),(i:Int)) then edgeB p a a else (List.range p.labels.toNat).any fun b=>aO x b&&edgeB p a (b:Int)):=by
  show _=_
  have e1:(n.ends.getD v []).getD i (0,0)=((k:Int),(j:Int)):=by rw[ag aU,ag hf]
  unfold s_ cF
  simp only[e1,Zag,ti]
 obtain⟨A,c,rfl⟩:∃A c,va=.slice A n.ends.length c:=by obtain⟨A,c,e,-⟩:=h.es;exact⟨A,c,e⟩
 obtain⟨A2,c2,rfl⟩:∃A c,vb=.slice A n.ids.length c:=by obtain⟨A,c,e,-⟩:=h.2.1;exact⟨A,c,e⟩
 obtain⟨A3,c3,rfl⟩:∃A c,vc=.slice A n.agT.length c:=by obtain⟨A,c,e,-⟩:=h.2.2;exact⟨A,c,e⟩
 obtain⟨AM,cM,rfl⟩:∃A c,vm=.slice A M.length c:=by obtain⟨A,c,e,-⟩:=hm;exact⟨A,c,e⟩
 obtain⟨P0,iG,rfl⟩:∃A c,pa=.slice A p.nodes.length c:=by obtain⟨A,c,e,-⟩:=hp.1;exact⟨A,c,e⟩
 obtain⟨P1,it,rfl⟩:∃A c,pb=.slice A p.agW.length c:=by obtain⟨A,c,e,-⟩:=hp.2;exact⟨A,c,e⟩
 have gO:=zh (Ai hp);obtain⟨d0,d1,d2,d3,d4,d5,d6,d7⟩:=eC hB;obtain⟨b1,o1,b2,o2,z1,rfl,l8,yG,FX⟩:=wG h.es aU hf;obtain⟨b5,o5,b6,o6,z3,rfl,VV,c7'⟩:=kB hm iY hx;have s0:=ae d0;have s1:=ae d1;have s2:=ae d2;have s3:=ae d3;have s4:=ae d4;have s7:=ae d7;have q1:=ae l8;have q2:=ae yG;have q3:=ae FX;have q6:=ae VV;have q7:=ae c7';have hvn:v<n.ends.length:=ah aU;have oV:k<M.length:=ah iY;have FR:j<yo.length:=ah hx;have nr:=zh hst;have hx8:=pc;clear d0 d1 d2 d3 d4 d5 d6 d7 l8 yG FX VV c7' hst pc ti hx iY CK hf aU qE hj hM hn cC hm h hp hB
 go_enter Tryz.func144,Tryz.ntmps144
 have aK:ab w w:=aa _;go_upto_region 2 with(fail);obtain⟨bx,dK⟩:=J_ w.heap.size
 obtain⟨W1,sl⟩:=J_ (w.alloc (.cells #[.int .i64 k,.int .i64 j] 104))
 have dw:ab w W1:=by rw[sl];exact ad _ aK
 have g1:∀W,ab W1 W->W.cell? ⟨bx,0,none⟩=some (.int .i64 k):=ae (by rw[dK,sl];simp)
 have g2:∀W,ab W1 W->W.cell? ⟨bx,1,none⟩=some (.int .i64 j):=ae (by rw[dK,sl];simp)
 rw[<- sl,<- dK];have di:=zh dw;have r0:=al s0 dw;have r1:=al s1 dw;have r2:=al s2 dw;have r3:=al s3 dw;have r7:=al s7 dw;have t6:=al q6 dw;have t7:=al q7 dw;clear aK sl dK dw q1 q2 q3 q6 q7 s0 s1 s2 s3 s4 s7;have Pc:ab W1 W1:=aa _
 by_cases NV:k=v/\j=i
 ·have he:wg ((k:Int),(j:Int)) ((v:Int),(i:Int))=true:=by unfold wg;simp[NV.1,NV.2]
  have vx:Hid (s_ p n M v i a=edgeB p a a):=by
   show _=_
   rw[hR.out,if_pos (by rw[NV.1,NV.2])]
  clear NV;go_wp2_with fail;refine(rh _ _ p a a W1 (gO W1 di) nr gM).mono ?_;rintro e w2 ⟨rfl,aS⟩;have hsf:ab w w2:=di.after aS;clear aS;go_wp2;go_ret;exact⟨bG (by rw[vx.out]),hsf⟩
 ·have he:wg ((k:Int),(j:Int)) ((v:Int),(i:Int))=false:=by unfold wg;simp;omega
  obtain⟨lb,eK⟩:∃z:Nat,p.labels=(z:Int):=⟨p.labels.toNat,zO⟩
  have pY:1<=lb/\lb<=8:=zO
  have vx:Hid (s_ p n M v i a=(List.range lb).any fun b=>aO x b&&edgeB p a (b:Int)):=by
   show _=_
   rw[hR.out,if_neg (fun h=>NV (by simp at h;omega)),eK]
   rfl
  have ka:=zh eK;have yt:=r0;rw[eK]at yt;obtain⟨Rm,aeX⟩:=A_ yt r0;clear NV r0 eK eV;have r0:=yt;clear yt;go_upto_region 5 with(fail);clear r0
  go_loopw [39] (fun i wr=>∃b:Nat,b<=lb/\i=.int .i64 b/\((List.range b).any fun b=>aO x b&&edgeB p a (b:Int))=false/\ab W1 wr) (fun i _=>lb-(intOf i).toNat)
  case atStart=>exact⟨0,Zac _,rfl,rfl,Pc⟩
  case round=>
   obtain⟨b,hb,rfl,jQ,eD⟩:=hrel;obtain⟨qV,qu⟩:=A_ jQ eD;clear jQ Pc
   by_cases aA:b<lb
   ·obtain⟨z,hz,dP,e_,hm⟩:=rK hx8 (show b<8 by omega)
    obtain⟨yN,iS⟩:=A_ dP e_;have m1:=zw b
    have kj:(List.range (b+1)).any (fun b=>aO x b&&edgeB p a (b:Int))=(aO x b&&edgeB p a (b:Int)):=by
     rw[Zaa,List.any_append,qV.out];simp
    have ym:=zh kj;have r0:=fun W (hW:ab wr W)=>aeX W (qu.after hW)
    have r1':=al r1 eD;have r2':=al r2 eD;have r3':=al r3 eD;have r7':=al r7 eD;have t6':=al t6 eD;have t7':=al t7 eD;have g1':=al g1 eD;have g2':=al g2 eD;obtain⟨wo,rfl⟩:=J_ wr
    clear dP e_ kj eD;go_upto_region 7 with(fail);cases oc:aO x b
    ·have D9:z=0:=iS oc;subst D9;refine ap 25 (ab wo) zK zK zS (aj (aa _)) ?_;simp only[zT]
     iterate 17 (refine ch rfl ?_;simp only[zA])
     iterate 7 (refine mf rfl rfl (by simp[*]) ?_;simp only[zA])
     (first | refine dy rfl rfl ?_ | (refine ch rfl ?_));simp only[zA]
     intro W hW;have Hf:Hid (ab W1 W):=qu.after hW;clear hW r0 r1' r2' r3' r7' t6' t7' g1' g2' hz hm;go_wp2;go_roundw
     exact⟨b+1,zO,zN,by rw[ym.out,oc];rfl,Hf⟩
     simp[intOf];omega
    ·have D9:z=1:=yN oc;subst D9;refine ap 25 (ab wo) zK zK zS (aj (aa _)) ?_;simp only[zT]
     iterate 17 (refine ch rfl ?_;simp only[zA])
     iterate 6 (refine iT rfl rfl ?_;simp only[zA])
     apply bn rfl rfl;(intro hb;intro W hW;unfold a_;go_simp;with_reducible exact zQ (rh _ _ p a b W (gO.out W ((di.out.after qu.out).after hW)) nr.out gM));simp only[zA]
     (first | refine dy rfl rfl ?_ | (refine ch rfl ?_));simp only[zA]
     intro W hW;have Hf:Hid (ab W1 W):=qu.after hW;clear hW r0 r1' r2' r3' r7' t6' t7' g1' g2' hz hm;cases tG:edgeB p a b
     ·go_wp2;go_roundw
      exact⟨b+1,zO,zN,by rw[ym.out,oc,tG];rfl,Hf⟩
      simp[intOf];omega
     ·go_wp2;go_ret;refine⟨bG ?_,di.after Hf⟩;rw[vx.out]
      symm
      rw[Zcg]
      exact⟨b,Zab.2 aA,by rw[oc,tG];rfl⟩
   ·obtain rfl:b=lb:=zO
    go_wp2;go_ret;exact⟨bG (by rw[vx.out,qV.out]),di.after qu⟩
def iZ (p:aq) (row:List Int) (i:Nat) (a:Int) (L:Nat):Nat->List Int->Bool
 | 0,xs=>p.nodes.contains (dz xs)
 | r+1,xs=>if xs.length=i then iZ p row i a L r (xs++[a]) else (List.range L).any fun b=>aO (row.getD xs.length 0) b&&iZ p row i a L r (xs++[(b:Int)])
structure FlC (wL:World) (mb b4 b9 b6 yu b5 gl cl d bm om br ob zb lm cm lb:Nat) (p:aq) (pa pb:Value) (row:List Int) (v i:Nat) (a:Int):Prop where
 q4:∀W,ab wL W->W.cell? ⟨b4,0,none⟩=some (.pointer (some ⟨mb,0,none⟩))
 q6:∀W,ab wL W->W.cell? ⟨b6,0,none⟩=some (.int .i64 i)
 q5:∀W,ab wL W->W.cell? ⟨b5,0,none⟩=some (.int .i64 v)
 m0:∀W,ab wL W->W.cell? ⟨mb,0,none⟩=some (.int .i64 lb)
 m1:∀W,ab wL W->W.cell? ⟨mb,1,none⟩=some (.int .i64 d)
 m2:∀W,ab wL W->W.cell? ⟨mb,2,none⟩=some pa
 m3:∀W,ab wL W->W.cell? ⟨mb,3,none⟩=some pb
 m7:∀W,ab wL W->W.cell? ⟨mb,7,none⟩=some (.slice (some ⟨bm,om,none⟩) lm cm)
 rw:∀W,ab wL W->W.cell? ⟨bm,om+v,none⟩=some (.slice (some ⟨br,ob,none⟩) d zb)
 rr:∀(k:Nat) (x:Int),row[k]?=some x->∀W,ab wL W->W.cell? ⟨br,ob+k,none⟩=some (.int .i64 x)
 pr:∀W,ab wL W->el W pa pb p
 st:eR p.nodes
 nl:p.nodes.length<=1048576
 rl:row.length=d
 rb:∀(k:Nat) (x:Int),row[k]?=some x->0<=x/\x<256
 lab:p.labels=(lb:Int)
 deg:p.degree=(d:Int)
 lb8:1<=lb/\lb<=8
 d4:d<=4
 id:i<d
 vm:v<lm
 n9:b9≠gl
 n10:yu≠gl
 g9:wL.heap.size<=gl
 f9:wL.heap.size<=b9
 f10:wL.heap.size<=yu
structure JD (wL:World) (b4 b9 b6 yu b5 gl cl d:Nat) (i:Nat) (a:Int) (k:Nat) (xs L:List Int) (w:World):Prop where
 sn:ab wL w
 c9:w.cell? ⟨b9,0,none⟩=some (.slice (some ⟨gl,0,none⟩) d cl)
 c10:w.cell? ⟨yu,0,none⟩=some (.func (.func 184) #[] #[.pointer (some ⟨b4,0,none⟩),.pointer (some ⟨b9,0,none⟩),.pointer (some ⟨b6,0,none⟩),.pointer (some ⟨yu,0,none⟩),.pointer (some ⟨b5,0,none⟩)])
 ow:Own w wL.heap.size (.slice (some ⟨gl,0,none⟩) d cl) L
 ln:L.length=d
 tk:L.take k=xs
 ai:L[i]?=some a
theorem JD.agU {wL w w':World} {b4 b9 b6 yu b5 gl cl d i k:Nat} {a:Int} {xs L:List Int} (h:JD wL b4 b9 b6 yu b5 gl cl d i a k xs L w) (hs:ab w w'):JD wL b4 b9 b6 yu b5 gl cl d i a k xs L w':=
 ⟨h.sn.after hs,(ae h.c9) w' hs,(ae h.c10) w' hs,h.ow.since hs,h.ln,h.tk,h.ai⟩
theorem JD.put {wL w:World} {b4 b9 b6 yu b5 gl cl d i k:Nat} {a:Int} {xs L:List Int} (h:JD wL b4 b9 b6 yu b5 gl cl d i a k xs L w) (hk:k<d) (nR:k≠i) (ou:xs.length=k) (h9:b9≠gl) (h10:yu≠gl) (hg:wL.heap.size<=gl) (y:Int):
  JD wL b4 b9 b6 yu b5 gl cl d i a (k+1) (xs++[y]) (L.set k y) (w.setCell ⟨gl,k,none⟩ (.int .i64 y)):=by
 refine⟨h.sn.setCell hg _,?_,?_,by have:=h.ow.set (k:=k) y;simpa using this,by rw[Zau];exact h.ln,?_,by rw[Zaw nR];exact h.ai⟩
 ·rw[Zam (Zan _ _ _ b9 (by exact h9))];exact h.c9
 ·rw[Zam (Zan _ _ _ yu (by exact h10))];exact h.c10
 ·rw[<- h.tk,List.take_set,List.take_add_one]
  rw[List.set_append_right _ _ (by simp;rw[h.ln];omega)]
  have hl:(L.take k).length=k:=by simp;rw[h.ln];omega
  obtain⟨z,hz⟩:=au L k (by rw[h.ln];exact hk)
  rw[hl,Nat.sub_self,hz];simp
theorem JD.one {wL w:World} {b4 b9 b6 yu b5 gl cl d i:Nat} {a:Int} {xs L:List Int} (h:JD wL b4 b9 b6 yu b5 gl cl d i a i xs L w):JD wL b4 b9 b6 yu b5 gl cl d i a (i+1) (xs++[a]) L w:=
 ⟨h.sn,h.c9,h.c10,h.ow,h.ln,by rw[List.take_add_one,h.tk,h.ai];rfl,h.ai⟩
theorem JD.back {wL w:World} {b4 b9 b6 yu b5 gl cl d i k:Nat} {a y:Int} {xs L:List Int} (h:JD wL b4 b9 b6 yu b5 gl cl d i a (k+1) (xs++[y]) L w) (ou:xs.length=k):JD wL b4 b9 b6 yu b5 gl cl d i a k xs L w:=
 ⟨h.sn,h.c9,h.c10,h.ow,h.ln,by
  have h1:=congrArg (List.take k) h.tk;rw[List.take_take,Nat.min_eq_left zO]at h1
  rw[h1,List.take_append_of_le_length zO,Zbz zO],h.ai⟩
theorem Tw {wL:World} {mb b4 b9 b6 yu b5 gl cl d bm om br ob zb lm cm lb:Nat} {p:aq} {pa pb:Value} {row:List Int} {v i:Nat} {a:Int} (hC:FlC wL mb b4 b9 b6 yu b5 gl cl d bm om br ob zb lm cm lb p pa pb row v i a):
  ∀(r k:Nat) (xs L:List Int) (w:World),r+k=d->xs.length=k->JD wL b4 b9 b6 yu b5 gl cl d i a k xs L w ->
  Calls Tryz.prog 184 #[.int .i64 k,.pointer (some ⟨b4,0,none⟩),.pointer (some ⟨b9,0,none⟩),.pointer (some ⟨b6,0,none⟩),.pointer (some ⟨yu,0,none⟩),.pointer (some ⟨b5,0,none⟩)] w fun e w'=>e=.returned (.bool (iZ p row i a lb r xs))/\∃L',JD wL b4 b9 b6 yu b5 gl cl d i a k xs L' w':=by
 intro r
 induction r with
 | zero=>
  intro k xs L w hk ou hS;obtain rfl:k=d:=zO
  obtain⟨HC,HS⟩:=A_ hC hS;have c4:=hC.q4 w hS.sn;have e1:=hC.m1 w hS.sn;have e0:=hC.m0 w hS.sn;have e2:=hC.m2 w hS.sn;have e3:=hC.m3 w hS.sn;have c9:=hS.c9;have p4:=fun W (hW:ab w W)=>hC.q4 W (hS.sn.after hW)
  have p0:=fun W (hW:ab w W)=>hC.m0 W (hS.sn.after hW)
  have p1:=fun W (hW:ab w W)=>hC.m1 W (hS.sn.after hW)
  have p2:=fun W (hW:ab w W)=>hC.m2 W (hS.sn.after hW)
  have p3:=fun W (hW:ab w W)=>hC.m3 W (hS.sn.after hW)
  have p9:=ae hS.c9
  have hLx:L=xs:=by rw[<- hS.tk,Zbz (by rw[hS.ln];exact Zaj _)]
  have HL:=zh hLx;have Zv:=hC.d4;have md:=zh ou;clear hC hS hLx hk ou
  go_enter Tryz.func184,Tryz.ntmps184
  have HcN:=zh (show ∀W,ab w W->Calls Tryz.prog 93 #[.agg #[.int .i64 lb,.int .i64 k,pa,pb],.slice (some ⟨gl,0,none⟩) k cl] W fun e w'=>e=.returned (.bool (p.nodes.contains (dz xs)))/\Below W.heap.size W w' from fun W hW=>by
   have h1:=tY pa pb p (.slice (some ⟨gl,0,none⟩) k cl) L W (HC.pr W (HS.sn.after hW)) (HS.ow.since hW).ints HC.st HC.nl (by rw[HS.out.ln];omega)
   rw[HC.out.lab,HC.out.deg,HL.out]at h1
   exact h1)
  go_upto_region 2 with(fail);refine ap 7 (ab w) zK zK zS (aj (aa _)) ?_;simp only[zT]
  iterate 5 (refine ch rfl ?_;simp only[zA])
  apply dE _ rfl;(intro W hW;unfold a_;go_simp;with_reducible exact zQ (HcN.out W hW));simp only[zA]
  refine ch rfl ?_;simp only[zA]
  intro W hW;have HW:Hid (ab w W):=hW;clear hW c4 e0 e1 e2 e3 c9 p4 p0 p1 p2 p3 p9;go_wp2;go_ret;exact⟨bG (by simp[iZ]),L,HS.agU HW⟩
 | succ r ih=>
  intro k xs L w hk ou hS;obtain⟨HC,HS⟩:=A_ hC hS;have c4:=hC.q4 w hS.sn;have c6:=hC.q6 w hS.sn;have e1:=hC.m1 w hS.sn;have e0:=hC.m0 w hS.sn;have c10:=hS.c10;have Zv:=hC.d4;have pY:=hC.lb8;have md:=zh ou;have Hk:Hid (k<d/\r+(k+1)=d):=⟨zO,zO⟩
  have hkd:((k:Int)=(d:Int))=False:=by simp;omega
  have aeY:(k=d)=False:=by simp;omega
  have hkb:((k:Int)==(d:Int))=false:=by simp;omega
  have aeZ:(k==d)=false:=by simp;omega
  have agF:k<4:=zO
  have m1:IntKind.i64.wrap ((k:Int)+1)=((k+1:Nat):Int):=by rw[bU _ zO zO];omega
  have Hih:=zh ih;clear hC hS ou hk ih
  go_enter Tryz.func184,Tryz.ntmps184
  by_cases nR:k=i
  ·have eki:((k:Int)=(i:Int))=True:=by simp;omega
   have ae0:(k=i)=True:=by simp;omega
   have ekb:((k:Int)==(i:Int))=true:=by simp;omega
   have Hki:=zh nR;clear nR;go_wp2_with fail
   refine(Hih (k+1) (xs++[a]) L w Hk.2 (by rw[Zay,md.out];rfl) (by have h:=HS.out;rw[Hki.out]at h ⊢;exact h.one)).mono ?_
   rintro e w1 ⟨rfl,L1,nq⟩;have HS1:=zh nq;clear nq c4 c6 e1 e0 c10;go_wp2;go_ret;refine⟨bG ?_,L1,HS1.back md⟩
   have h9:iZ p row i a lb (r+1) xs=iZ p row i a lb r (xs++[a]):=by rw[iZ,if_pos (by rw[md.out];exact Hki)]
   exact h9.symm
  ·have eki:((k:Int)=(i:Int))=False:=by simp;omega
   have ae0:(k=i)=False:=by simp;omega
   have ekb:((k:Int)==(i:Int))=false:=by simp;omega
   obtain⟨x,hx⟩:=au row k (by rw[HC.out.rl];exact Hk.1)
   have CS:=HC.rb k x hx;have Hx:=zh hx
   have hrd:row.getD xs.length 0=x:=by rw[md.out];exact ag hx
   have YW:Hid (iZ p row i a lb (r+1) xs=(List.range lb).any fun b=>aO x b&&iZ p row i a lb r (xs++[(b:Int)])):=by
    show _=_
    rw[iZ,if_neg (by rw[md.out];exact nR),hrd]
   clear hx hrd;go_upto_region 6 with(fail);clear c4 c6 e1 e0 c10
   go_loopw [36] (fun j wr=>∃(b:Nat) (L:List Int),b<=lb/\j=.int .i64 b/\((List.range b).any fun b=>aO x b&&iZ p row i a lb r (xs++[(b:Int)]))=false/\JD wL b4 b9 b6 yu b5 gl cl d i a k xs L wr) (fun j _=>lb-(intOf j).toNat)
   case atStart=>exact⟨0,L,Zac _,rfl,rfl,HS⟩
   case round=>
    clear HS;obtain⟨b,L,hb,rfl,jQ,hS⟩:=hrel;obtain⟨qV,HS⟩:=A_ jQ hS;clear jQ hS
    by_cases aA:b<lb
    ·obtain⟨z,hz,dP,e_,hm⟩:=rK CS (show b<8 by omega)
     obtain⟨yN,iS⟩:=A_ dP e_;have m2:=zw b
     have kj:(List.range (b+1)).any (fun b=>aO x b&&iZ p row i a lb r (xs++[(b:Int)]))=(aO x b&&iZ p row i a lb r (xs++[(b:Int)])):=by
      rw[Zaa,List.any_append,qV.out];simp
     have ym:=zh kj;have p4:=fun W (hW:ab wr W)=>HC.q4 W (HS.sn.after hW)
     have p5:=fun W (hW:ab wr W)=>HC.q5 W (HS.sn.after hW)
     have p7:=fun W (hW:ab wr W)=>HC.m7 W (HS.sn.after hW)
     have pw:=fun W (hW:ab wr W)=>HC.rw W (HS.sn.after hW)
     have px:=fun W (hW:ab wr W)=>HC.rr k x Hx W (HS.sn.after hW)
     have hvm:=HC.vm;have ac5:=Hk.1;obtain⟨wo,rfl⟩:=J_ wr
     clear dP e_ kj;go_upto_region 8 with(fail);refine ap 14 (ab wo) zK zK zS (aj (aa _)) ?_;simp only[zT]
     iterate 14 (refine ch rfl ?_;simp only[zA])
     intro W hW;have HW:Hid (ab wo W):=hW;have FT:=zh (HS.out.agU hW);clear hW p4 p5 p7 pw px hvm;cases oc:aO x b
     ·have D9:(z=1)=False:=by rw[iS.out oc];simp
      have Qj:(z==1)=false:=by rw[iS.out oc];rfl
      go_wp2;go_roundw
      exact⟨b+1,L,zO,zN,by rw[ym.out,oc];rfl,FT⟩
      simp[intOf];omega
     ·have D9:(z=1)=True:=by rw[yN.out oc];simp
      have Qj:(z==1)=true:=by rw[yN.out oc];rfl
      have c9:=FT.c9
      obtain⟨yk,WO⟩:=au L k (by rw[FT.out.ln];exact ac5)
      have ck:=FT.ow.cell WO;have fk:=FT.ow.free k;have hSp:=FT.put ac5 nR md HC.n9 HC.n10 HC.g9 (b:Int);have Ys:=zh hSp;have c10:=hSp.c10;clear WO hSp;go_wp2_with fail
      refine(Hih (k+1) (xs++[(b:Int)]) _ _ Hk.2 (by rw[Zay,md.out];rfl) Ys).mono ?_
      rintro e w1 ⟨rfl,L1,nq⟩;have HS1:=zh (nq.back md.out);clear nq c9 ck fk c10;cases tZ:iZ p row i a lb r (xs++[(b:Int)])
      ·go_wp2;go_roundw
       exact⟨b+1,L1,zO,zN,by rw[ym.out,oc,tZ];rfl,HS1⟩
       simp[intOf];omega
      ·go_wp2;go_ret;refine⟨bG ?_,L1,HS1⟩;rw[YW.out]
       symm
       rw[Zcg]
       exact⟨b,Zab.2 aA,by rw[oc,tZ];rfl⟩
    ·obtain rfl:b=lb:=zO
     go_wp2;go_ret;exact⟨bG (by rw[YW.out,qV.out]),L,HS⟩
end Go.Proofs.YtnioemnkfojmkaaGreat
