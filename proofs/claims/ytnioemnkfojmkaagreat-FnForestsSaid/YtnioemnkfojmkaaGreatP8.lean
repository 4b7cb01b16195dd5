/- Parts of the proof: walks of functions and plain laws. -/
import Derived.Test.YtnioemnkfojmkaaGreatP5
set_option maxRecDepth 100000
set_option maxHeartbeats 16000000
namespace Go.Proofs.YtnioemnkfojmkaaGreat
open Go Go.RowKit
theorem mi (ve vi vn:Value) (n:ao) (w:World) (h:aR w ve vi vn n) (iX:n.ends.length<=1000) (aG:∀(k:Nat) (es:List (Int×Int)),n.ends[k]?=some es->es.length<=1000) (fD:qm n<=1048576):
  Calls Tryz.prog 150 #[.agg #[ve,vi,vn]] w (tB w n):=by
 have rq:n.ids.length<=17592186044416:=by unfold qm at fD;omega
 have iM:n.agT.length<=17592186044416:=by unfold qm at fD;omega
 have V2:Hid (∀(k:Nat) (es:List (Int×Int)),n.ends[k]?=some es->es.length<=1000):=aG;obtain⟨Ao,Rl⟩:=A_ rq iM;clear rq iM aG fD
 obtain⟨w0,A,c,A2,c2,A3,c3,rfl,rfl,rfl,fR,hm,gC,jz,HA,H,cD,aY,fp,fE,fM⟩:=zB h;clear h
 obtain⟨wa,mF⟩:=J_ (w0.alloc (.cells #[.slice none 0 0,.slice none 0 0,.slice none 0 0] 30))
 have pQ:ab w0 wa:=by rw[mF];exact ad _ (aa _)
 have GR:Hid (wa.heap.size=w0.heap.size+1):=by show _=_;rw[mF];simp
 have Ap:Hid (∀X,ab wa X->bD X w0.heap.size (.slice none 0 0) (.slice none 0 0) (.slice none 0 0)):=fun X hX=>by
  refine bD.since (W:=wa) ?_ hX;rw[mF];show(w0.heap.push _)[w0.heap.size]?=_
  rw[Zbc]
 have U6:=al fp pQ;have U7:=al fE pQ;have U8:=al fM pQ;obtain⟨HNe,ZH,iD⟩:=B_ (show ∀X,ab wa X->oD X (.slice A n.ends.length c) n.ends from fun X hX=>(H.out.agU (pQ.after hX).below).es) (show ∀X,ab wa X->bs X (.slice A2 n.ids.length c2) n.ids from fun X hX=>by have:=H.out.agU (pQ.after hX).below;exact this.2.1) (show ∀X,ab wa X->bs X (.slice A3 n.agT.length c3) n.agT from fun X hX=>by have:=H.agU (pQ.after hX).below;exact this.2.2)
 obtain⟨Kr,py⟩:=A_ mF pQ;clear mF pQ fp fE fM
 go_enter Tryz.func150,Tryz.ntmps150
 go_upto_region 1 with(fail);rw[<- cD.out,<- Kr.out];refine nV (w0:=wa) [fun V W=>V 0=.pointer (some ⟨w.heap.size,1,none⟩),fun V W=>V 1=.slice A2 n.ids.length c2,fun V W=>Own W wa.heap.size (V 2) n.ids,fun V W=>V 3=.pointer (some ⟨w.heap.size,2,none⟩),fun V W=>V 4=.slice A3 n.agT.length c3,fun V W=>Own W wa.heap.size (V 5) n.agT/\∀j,(V 2).ownBlock=some j->(V 5).ownBlock≠some j,fun V W=>V 6=.agg #[.slice none 0 0,V 2,V 5],fun V W=>rf W wa.heap.size (V 7)] ?_ ?_ 8 zK zK zK (aa _) ?_ ?_
 ·intro r hr V W W' h hs;simp only[Zbe,List.not_mem_nil,or_false]at hr;rcases hr with rfl | rfl | rfl | rfl | rfl | rfl | rfl | rfl
  ·exact h
  ·exact h
  ·exact(Own.since h hs)
  ·exact h
  ·exact h
  ·exact(⟨Own.since h.1 hs,h.2⟩)
  ·exact(h)
  ·exact(h.agU hs)
 ·intro j r hj V V' W h1 h2 h
  match j,hj with
  | 0,hj=>
   obtain rfl:=Zbx hj
   have h3:V 0=.pointer (some ⟨w.heap.size,1,none⟩):=h;show V' 0=.pointer (some ⟨w.heap.size,1,none⟩)
   rw[<- h1];exact h3
  | 1,hj=>
   obtain rfl:=Zbx hj
   have h3:V 1=.slice A2 n.ids.length c2:=h;show V' 1=.slice A2 n.ids.length c2
   rw[<- h1];exact h3
  | 2,hj=>
   obtain rfl:=Zbx hj
   have h3:Own W wa.heap.size (V 2) n.ids:=h;show Own W wa.heap.size (V' 2) n.ids
   rw[<- h1];exact h3
  | 3,hj=>
   obtain rfl:=Zbx hj
   have h3:V 3=.pointer (some ⟨w.heap.size,2,none⟩):=h;show V' 3=.pointer (some ⟨w.heap.size,2,none⟩)
   rw[<- h1];exact h3
  | 4,hj=>
   obtain rfl:=Zbx hj
   have h3:V 4=.slice A3 n.agT.length c3:=h;show V' 4=.slice A3 n.agT.length c3
   rw[<- h1];exact h3
  | 5,hj=>
   obtain rfl:=Zbx hj
   have ZI:=h2 _ rfl 2 (by decide +kernel);have h3:Own W wa.heap.size (V 5) n.agT/\∀j,(V 2).ownBlock=some j->(V 5).ownBlock≠some j:=h;show Own W wa.heap.size (V' 5) n.agT/\∀j,(V' 2).ownBlock=some j->(V' 5).ownBlock≠some j
   rw[<- h1,<- ZI];exact h3
  | 6,hj=>
   obtain rfl:=Zbx hj
   have ZI:=h2 _ rfl 2 (by decide +kernel);have h25:=h2 _ rfl 5 (by decide +kernel);have h3:V 6=.agg #[.slice none 0 0,V 2,V 5]:=h;show V' 6=.agg #[.slice none 0 0,V' 2,V' 5]
   rw[<- h1,<- ZI,<- h25];exact h3
  | 7,hj=>
   obtain rfl:=Zbx hj
   have h3:rf W wa.heap.size (V 7):=h;show rf W wa.heap.size (V' 7)
   rw[<- h1];exact h3
  | j+8,hj=>simp at hj
 ·intro i o hi ho V W hW hd
  match i,ho with
  | 0,ho=>
   cases ho;clear hd hi;refine⟨rfl,?_⟩;simp only[bh,zR8,zG,zA]
   refine du (u:=.pointer (some ⟨w.heap.size,1,none⟩)) (W':=W) (by go_simp) ⟨aa _,?_⟩;exact bX V 0 _
  | 1,ho=>
   cases ho;have e0:V 0=.pointer (some ⟨w.heap.size,1,none⟩):=hd 0 (by decide +kernel);clear hd hi;refine⟨rfl,?_⟩;simp only[bh,zR8,zG,zA]
   refine du (u:=.slice A2 n.ids.length c2) (W':=W) (by go_simp) ⟨aa _,?_⟩;exact bX V 1 _
  | 2,ho=>
   cases ho;have e1:V 1=.slice A2 n.ids.length c2:=hd 1 (by decide +kernel);clear hd hi;refine⟨rfl,?_⟩;simp only[bh,zR8,zG,zA]
   unfold qq
   go_simp
   (with_reducible refine(iU _ n.ids W (ZH.out W hW) Ao.out).mono ?_)
   rintro e W1 ⟨u,rfl,ho,hb⟩;refine⟨_,rfl,hb,?_⟩;show Own _ _ (xF V 2 _ 2) _
   rw[bX];exact Own.mono ho hW.below.size
  | 3,ho=>
   cases ho;clear hd hi;refine⟨rfl,?_⟩;simp only[bh,zR8,zG,zA]
   refine du (u:=.pointer (some ⟨w.heap.size,2,none⟩)) (W':=W) (by go_simp) ⟨aa _,?_⟩;exact bX V 3 _
  | 4,ho=>
   cases ho;have e3:V 3=.pointer (some ⟨w.heap.size,2,none⟩):=hd 3 (by decide +kernel);clear hd hi;refine⟨rfl,?_⟩;simp only[bh,zR8,zG,zA]
   refine du (u:=.slice A3 n.agT.length c3) (W':=W) (by go_simp) ⟨aa _,?_⟩;exact bX V 4 _
  | 5,ho=>
   cases ho;have e4:V 4=.slice A3 n.agT.length c3:=hd 4 (by decide +kernel);have e2:Own W wa.heap.size (V 2) n.ids:=hd 2 (by decide +kernel);clear hd hi;refine⟨rfl,?_⟩;simp only[bh,zR8,zG,zA]
   unfold qq;have E2:=zh e2;clear e2
   go_simp
   (with_reducible refine(iU _ n.agT W (iD.out W hW) Rl.out).mono ?_)
   rintro e W1 ⟨u,rfl,ho,hb⟩;refine⟨_,rfl,hb,?_⟩;show Own _ _ (xF V 5 _ 5) _/\∀j,(xF V 5 _ 2).ownBlock=some j->(xF V 5 _ 5).ownBlock≠some j
   rw[bX,mC V _ (show(2:Nat)≠5 by decide)]
   exact⟨Own.mono ho hW.below.size,fun j hj hk=>zY ((Zad E2.out j hj).2) ((Zad ho j hk).1)⟩
  | 6,ho=>
   cases ho;have e2:Own W wa.heap.size (V 2) n.ids:=hd 2 (by decide +kernel);have e5:Own W wa.heap.size (V 5) n.agT/\∀j,(V 2).ownBlock=some j->(V 5).ownBlock≠some j:=hd 5 (by decide +kernel);clear hd hi;refine⟨rfl,?_⟩;simp only[bh,zR8,zG,zA]
   obtain⟨B6,d6,h6,-⟩:=Own.ints e2;obtain⟨B9,d9,h9,-⟩:=Own.ints e5.1;clear e2 e5
   refine du (u:=.agg #[.slice none 0 0,V 2,V 5]) (W':=W) (by rw[h6,h9];go_simp) ⟨aa _,?_⟩
   show xF V 6 _ 6=.agg #[.slice none 0 0,xF V 6 _ 2,xF V 6 _ 5]
   rw[bX,mC V _ (show(2:Nat)≠6 by decide),mC V _ (show(5:Nat)≠6 by decide)]
  | 7,ho=>
   cases ho;clear hd hi;refine⟨rfl,?_⟩;simp only[bh,zR8,zG,zA]
   refine du (u:=.pointer (some ⟨W.heap.size,0,none⟩)) (W':=W.alloc (.cells #[.slice none 0 0,.slice none 0 0,.slice none 0 0] 30)) (by go_simp) ⟨ad _ (aa _),?_⟩;show rf _ _ (xF V 7 _ 7)
   rw[bX];exact rf.new _ hW.below.size
  | i+8,ho=>omega
 intro V W hW hV;have e0:V 0=.pointer (some ⟨w.heap.size,1,none⟩):=hV 0 (by decide);have e1:V 1=.slice A2 n.ids.length c2:=hV 1 (by decide);have e2:Own W wa.heap.size (V 2) n.ids:=hV 2 (by decide);have e3:V 3=.pointer (some ⟨w.heap.size,2,none⟩):=hV 3 (by decide);have e4:V 4=.slice A3 n.agT.length c3:=hV 4 (by decide);have e5:Own W wa.heap.size (V 5) n.agT/\∀j,(V 2).ownBlock=some j->(V 5).ownBlock≠some j:=hV 5 (by decide);have e6:V 6=.agg #[.slice none 0 0,V 2,V 5]:=hV 6 (by decide);have e7:rf W wa.heap.size (V 7):=hV 7 (by decide);clear hV;simp only[bh,zR8,zG]
 (try simp only[zA])
 simp only[List.drop_succ_cons,List.drop_zero];obtain⟨ob,h7,CT,dK⟩:=e7;obtain⟨BI,dI,h2,-⟩:=id (Own.ints e2);obtain⟨BN,dN,h5,-⟩:=id (Own.ints e5.1);rw[h2,h5]at e6
 have Rn:Hid (Own W wa.heap.size (.slice BI n.ids.length dI) n.ids):=by show Own _ _ _ _;rw[<- h2];exact e2
 have Aq:Hid (Own W wa.heap.size (.slice BN n.agT.length dN) n.agT):=by show Own _ _ _ _;rw[<- h5];exact e5.1
 have Hd3:Hid (∀j,(Value.slice BI n.ids.length dI).ownBlock=some j->(Value.slice BN n.agT.length dN).ownBlock≠some j):=by show ∀j,_;rw[<- h2,<- h5];exact e5.2
 have NP:=zh dK;obtain⟨c0,c1,yG,f0,f1,f2⟩:=dK.box.cells;rw[e0,e1,h2,e3,e4,h5,e6,h7];clear e0 e1 e2 e3 e4 e5 e6 h2 h5 h7 dK V;go_upto_region 2 with(fail);have Ks:bD (((W.setCell ⟨ob,0,none⟩ (.slice none 0 0)).setCell ⟨ob,1,none⟩ (.slice BI n.ids.length dI)).setCell ⟨ob,2,none⟩ (.slice BN n.agT.length dN)) ob (.slice none 0 0) (.slice BI n.ids.length dI) (.slice BN n.agT.length dN):=((NP.out.ahb _).ahh _).ahe _;obtain⟨w4,km⟩:=J_ (((W.setCell ⟨ob,0,none⟩ (.slice none 0 0)).setCell ⟨ob,1,none⟩ (.slice BI n.ids.length dI)).setCell ⟨ob,2,none⟩ (.slice BN n.agT.length dN))
 rw[<- km]at Ks ⊢
 have VQ:Hid (ab wa w4):=by show ab _ _;rw[km];exact(((hW.setCell CT _).setCell CT _).setCell CT _)
 have CU:aV [ob] W w4:=by rw[km];exact((((aV.refl _ _).setCell (.inl zS) _).setCell (.inl zS) _).setCell (.inl zS) _)
 have Kt:=yC Rn NP;have Ku:=yC Aq NP
 have X9:Hid (aw w4 wa.heap.size (.slice none 0 0) (.slice BI n.ids.length dI) (.slice BN n.agT.length dN) ⟨[],n.ids,n.agT⟩ ((Value.slice BI n.ids.length dI).ownBlock.toList++(Value.slice BN n.agT.length dN).ownBlock.toList)/\ob∉(Value.slice BI n.ids.length dI).ownBlock.toList++(Value.slice BN n.agT.length dN).ownBlock.toList):=by
  show _/\_
  refine⟨?_,fun hm=>(Zar.1 hm).elim (fun hm=>Kt (by simpa using hm)) (fun hm=>Ku (by simpa using hm))⟩
  have h1:Own w4 wa.heap.size (.slice BI n.ids.length dI) n.ids:=aD Rn (fun j hj=>CU.block j (Zad Rn j (by simpa using hj)).2 (fun e=>Kt (by simp at e;subst e;simpa using hj)))
  have h2:Own w4 wa.heap.size (.slice BN n.agT.length dN) n.agT:=aD Aq (fun j hj=>CU.block j (Zad Aq j (by simpa using hj)).2 (fun e=>Ku (by simp at e;subst e;simpa using hj)))
  exact DA (S1:=[]) ⟨[],[],World.ownsRow_nil _ _ _ _,rfl,fun k u x T h=>by simp at h,rfl,zS⟩ h1 h2 zS zS Hd3.out
 obtain⟨GK,U9⟩:=A_ Ks CT;clear Ks km CU Kt Ku Hd3 Rn Aq NP c0 c1 yG f0 f1 f2 hW CT;have oh:=VQ.out;go_wp2
 go_loopw [16] (fun i wr=>∃(k:Nat) (v:Value) (S:List Nat),k<=n.ends.length/\i=.int .i64 k/\aw wr wa.heap.size v (.slice BI n.ids.length dI) (.slice BN n.agT.length dN) ⟨n.ends.take k,n.ids,n.agT⟩ S/\ob∉S/\(∀q,v.ownBlock=some q->ob+1<=q)/\bD wr ob v (.slice BI n.ids.length dI) (.slice BN n.agT.length dN)/\ab wa wr) (fun i _=>n.ends.length-(intOf i).toNat)
 case atStart=>exact⟨0,_,_,Zac _,rfl,by simpa using X9.out.1,X9.out.2,by simp[Value.ownBlock],GK.out,VQ.out⟩
 case round=>
  obtain⟨k,v,S,hk,rfl,eB,Ro,V3,dK,eD⟩:=hrel;obtain⟨AV,cV,hV,_⟩:=id eB.read.1;obtain⟨mV,ZJ⟩:=J_ ((n.ends.take k).length)
  simp only[<- ZJ]at hV;have HmV:=zh ZJ;clear ZJ;subst hV;obtain⟨Cs,Rp,U_,uZ⟩:=C_ eB Ro V3 dK;clear oh eB Ro V3
  by_cases aA:k<n.ends.length
  ·obtain⟨es,aU⟩:=au n.ends k aA;obtain⟨b,CV,cr,ur,ja,Kv,dk,aG⟩:=iK (HNe wa (aa _)) aU;cases ja;have q5:=ae dk;obtain⟨HE,ni,Nv⟩:=B_ (show ∀X,ab wa X->CF X ur es from fun X hX=>aG.agU hX.below) aU (V2.out k es aU);clear dk aG aU dK;go_upto_region 5 with(fail);obtain⟨wT,Va⟩:=J_ (kt wr (ob+1))
   have oU:ob+1<=wr.heap.size:=uZ.lt
   have hsT:ab wT wr:=by rw[Va];exact nE wr oU
   have hTs:wT.heap.size=ob+1:=by rw[Va];exact mB wr oU
   have hTb:bD wT ob (.slice AV mV cV) (.slice BI n.ids.length dI) (.slice BN n.agT.length dN):=by rw[Va];exact NH uZ
   have hTa:ab wa wT:=by rw[Va];exact xE eD oU (Nat.le_succ_of_le U9)
   have t0:=ae hTb.box.cells.1;have q5T:=al q5 hTa;obtain⟨HTs,HTa,qu,EX⟩:=C_ hTs hTa eD oU
   have kR:Hid (wT.heap.size<=wr.heap.size):=by show _<=_;rw[hTs];exact oU
   clear Va hTs hTb hTa eD q5 U6 U7 U8 oU;refine fl (w0:=wT) 7 [false,false,true,false,true,true,true] zK zK (hsT) ?_;simp only[ew,dM,zT]
   iterate 3 (apply ef rfl;(intro W hW;go_simp;with_reducible rfl);simp only[zA])
   obtain⟨W,dh⟩:=J_ (World.drew wr)
   rw[<- dh]
   have hW:ab wT W:=by rw[dh];exact aj (hsT)
   (try have fK:=zh dh)
   (try clear dh)
   refine nD (v:=?_) (ob:=?_) rfl ?_ hW ?_;rotate_left 2
   (go_simp;first | with_reducible rfl | (refine⟨?_,?_⟩ <;> with_reducible rfl))
   intro w2 Kw Rq
   replace hW:=Rq
   clear Rq
   have mg:Hid (eE w2 wr.heap.size (.slice (some ⟨wr.heap.size,0,none⟩) 0 0) [] [wr.heap.size]):=by show eE _ _ _ _ _;rw[Kw,fK.out];exact NI wr.drew
   have yH:Hid (ab wr w2):=by show ab _ _;rw[Kw,fK.out];exact ad _ (aj (aa _))
   rw[show W.heap.size=wr.heap.size from by rw[fK.out];rfl]
   clear Kw fK
   (try simp only[zA])
   refine dA (fun Q' HQ=>?_)
   (refine NG (w0:=wT) (v:=.slice (some ⟨wr.heap.size,0,none⟩) 0 0) (u:=ur) (xs:=[]) (ys:=es) (T:=[wr.heap.size]) rfl _ _ rfl rfl (gY.mono mg.out (kR.out)) (HE.out w2 (HTa.out.after hW)) rfl (by have:=Nv.out;simp;omega) hW ?_);intro v3 w3 T3 gZ hT3 Kx oi;refine HQ _ _ oi ?_;replace hW:=oi;have yI:Hid (ab wr w3):=(show ab _ _ from Zbw yH (Kx.below _ yH.below.size zS));have HT3:Hid (∀j∈T3,wr.heap.size<=j):=(fun j hj=>(hT3 j hj).elim (fun h=>Nat.le_of_eq (Zbm.1 h).symm) (fun h=>zX yH.out.below.size));obtain⟨AQ,mQ,cQ,hvQ⟩:=gY.one gZ;subst hvQ;have uU:=zh gZ;clear oi gZ hT3 Kx
   (try simp only[zA])
   (try have fK:=zh dh)
   (try clear dh)
   refine nD (v:=?_) (ob:=?_) rfl ?_ hW ?_;rotate_left 2
   (go_simp;first | with_reducible rfl | (refine⟨?_,?_⟩ <;> with_reducible rfl))
   intro w5 o_ u_
   replace hW:=u_
   clear u_
   have HE5:Hid (eE w5 wa.heap.size (.slice AQ mQ cQ) es T3):=by show eE _ _ _ _ _;rw[o_];have h5:eE w3 wT.heap.size (.slice AQ mQ cQ) es T3:=(by simpa using uU.out);exact gY.mono (gY.agU h5 (am _ _)) HTa.below.size
   have Hc5:Hid (w5.cell? ⟨w3.heap.size,0,none⟩=some (.slice AQ mQ cQ)):=by show _=_;rw[o_];simp
   have Mr:Hid (ab wr w5):=by show ab _ _;rw[o_];exact ad _ yI
   obtain⟨N3,Hd5⟩:=A_ (Cs.out.agU Mr.out.below) (show ∀j∈T3,j∉S from fun j hj hS=>zY (HT3.out j hj) ((Cs.out.range j hS).2))
   have Hl5:Hid ((n.ends.take k).length+1<=1000000):=(by show _<=_;rw[Zby];omega)
   have Ct:Hid (wa.heap.size<=w5.heap.size):=(Zak (HTa.below.size) hW.below.size)
   have Hq5:Hid (∀q,(Value.slice AV mV cV).ownBlock=some q->wT.heap.size<=q):=(fun q hq=>by rw[HTs.out];exact U_ q hq)
   clear o_
   (try simp only[zA])
   refine dA (fun Q' HQ=>?_)
   (refine rg (wT:=wT) (v:=.slice AV mV cV) (u:=.slice AQ mQ cQ) rfl _ _ rfl rfl N3 w3.heap.size rfl Hc5 HE5 Hd5 Hl5 hW Ct Hq5 ?_);intro v6 w6 S6 hv6 iz N7 tH yq;refine HQ _ _ yq ?_;obtain⟨Hv6,xJ,HS6,abV⟩:=C_ hv6 iz N7 tH;replace hW:=yq;clear hv6 iz N7 tH yq
   (try simp only[zA])
   simp only[bP];obtain⟨A6,c6,hV6,_⟩:=id xJ.out.read.1
   have Ms:(n.ends.take k++[es]).length=k+1:=by simp;omega
   simp only[Ms]at hV6;subst hV6;have N_:=zh ((uZ.out.since Mr.out).only abV.out Rp.out);have ad8:Hid (ab wa w6):=(HTa.after hW);obtain⟨c0,_,_,f0,_,_⟩:=N_.box.cells;clear hW t0 q5T;go_wp2;go_roundw
   case rel=>
    have Rr:ob∉S6:=fun hm=>by
     rcases HS6.out ob hm with h | h | h
     ·exact Rp h
     ·have:=HT3 ob h;have:=EX.out;omega
     ·have:=Mr.below.size;have:=EX.out;omega
    refine⟨k+1,.slice A6 (k+1) c6,S6,zO,zM,?_,Rr,?_,N_.out.ahb _,ad8.out.setCell U9.out _⟩
    ·have hx:=xJ.out.agV (w':=w6.setCell ⟨ob,0,none⟩ (.slice A6 (k+1) c6)) (fun j hj=>Zan w6 _ _ j (fun e=>Rr (by have e':j=ob:=e;exact e' ▸ hj)))
     rw[bJ ni.out];exact hx
    ·intro q hq;rcases Hv6.out q hq with h | h
     ·exact U_ q h
     ·have:=Mr.below.size;have:=EX.out;omega
   simp[intOf];omega
  ·obtain rfl:k=n.ends.length:=zO
   have pL:w0.heap.size=w.heap.size+1:=by rw[cD.out];simp
   have HR:=Ap wr eD;rw[pL]at HR
   have ZK:Hid (w.heap.size+1<wa.heap.size):=by show _<_;rw[GR.out];omega
   obtain⟨c0,c1,yG,_,_,_⟩:=uZ.box.cells;obtain⟨d0,d1,d2,f0,f1,f2⟩:=HR.box.cells;obtain⟨qu,HR'⟩:=A_ eD HR;clear HR dK eD aA hk pL;go_wp2;refine bodyPost_ret (v:=.agg #[.slice AV mV cV,.slice BI n.ids.length dI,.slice BN n.agT.length dN]) (by simp[results,Tryz.results150,go_sem, *]) rfl ?_;have hx:=Cs.out;rw[Zbq]at hx;refine⟨_,_,_,S,rfl,?_,?_⟩
   ·refine(hx.agV (fun j hj=>?_)).mono (Zak aY.size py.below.size)
    have zZ:=(Cs.range j hj).1;have CE:=ZK.out;rw[Zan _ _ _ j (by simp;omega),Zan _ _ _ j (by simp;omega),Zan _ _ _ j (by simp;omega)]
   ·exact(((Zbw aY.out ((py.out.after qu.out).below.mono aY.out.size)).setCell zS _).setCell zS _).setCell zS _
section
variable {P : Program} {ops : Array Oper}
end
structure Cr (wa W:World) (ob b1 b2 g c m:Nat) (vi vn:Value) (N:ao) (S:List Nat) (a e:Int×Int):Prop where
 own:aw W wa.heap.size (.slice (some ⟨g,0,none⟩) m c) vi vn N S
 len:N.ends.length=m
 box:bD W ob (.slice (some ⟨g,0,none⟩) m c) vi vn
 e1:E2 W 104 b1 a.1 a.2
 e2:E2 W 104 b2 e.1 e.2
 nb:ob∉S/\b1∉S/\b2∉S
 since:ab wa W
def lab (ls:List Int) (e:Int×Int):Int:=ls.getD e.1.toNat 0
theorem Ky (v:Value) (xs:List Int) (x:Int) (w:World) (h:bs w v xs):
  Calls Tryz.prog 146 #[v,.int .i64 x] w fun e w'=>∃i:Int,e=.returned (.int .i64 i)/\decide (0<=i)=nj xs x/\w=w':=by
 obtain⟨A,c,rfl,fR,hm,hA⟩:=h;unfold maxLen at hm;have HA:=zh hA;clear hA
 go_enter Tryz.func146,Tryz.ntmps146
 go_wp2
 go_loop [8] (fun i=>∃k:Nat,k<=xs.length/\i=.int .i64 k/\x∉xs.take k) (fun i=>xs.length-(intOf i).toNat)
 case atStart=>exact⟨0,Zac _,rfl,zS⟩
 case round=>
  obtain⟨k,hk,rfl,i_⟩:=hrel;have qo:=zh i_;clear i_
  by_cases aA:k<xs.length
  ·obtain⟨y,hy⟩:=au xs k aA;obtain⟨b,off,rfl,dU⟩:=HA k y hy;have Hy:=zh hy;clear hy;cases uN:(x==y)
   ·have Vb:=zh uN;go_wp2
    go_round
    case rel=>
     refine⟨k+1,zO,zM,?_⟩
     rw[bJ Hy.out];simp only[Zar,Zbm,not_or];exact⟨qo,by simpa using Vb.out⟩
    simp[intOf];omega
   ·have Vb:=zh uN;go_wp2;go_ret;refine⟨_,rfl,?_,rfl⟩;have e:x=y:=by simpa using Vb.out
    rw[e];unfold nj;simp[Zaq Hy.out]
  ·go_wp2;go_ret;refine⟨_,rfl,?_,rfl⟩
   have:=qo.out
   rw[oB xs aA]at this;unfold nj;simpa using this
theorem CW (v:Value) (xs:List Int) (x:Int) (w:World) (h:bs w v xs):
  Calls Tryz.prog 96 #[v,.int .i64 x] w fun e w'=>e=.returned (.bool (nj xs x))/\w=w':=by
 have H:=zh h;obtain⟨A,c,rfl,fR,hm,hA⟩:=h;clear hA
 go_enter Tryz.func96,Tryz.ntmps96
 go_wp2_with fail;refine(Ky _ xs x _ H).mono ?_;rintro e w1 ⟨i,rfl,hi,rfl⟩;have Hi:=zh hi;clear hi;go_wp2;go_ret;exact⟨bG Hi,rfl⟩
structure ad9 (n:ao) (p q:Int×Int):Prop where
 ok:ar n=true
 hp:bg n.ends p.1 p.2=true
 hq:bg n.ends q.1 q.2=true
 n1:p≠q
 n2:iJ n.ends p.1 p.2≠q
 n3:iJ n.ends p.1 p.2≠p
 n4:iJ n.ends q.1 q.2≠q
structure agd (n:ao) (ls:List Int) (p q:Int×Int):Prop extends ad9 n p q where
 s2:p.2=q.2
 t2:(iJ n.ends p.1 p.2).2=(iJ n.ends q.1 q.2).2
 s1:lab ls p=lab ls q
 t1:lab ls (iJ n.ends p.1 p.2)=lab ls (iJ n.ends q.1 q.2)
def bQ (cur:Int) (st:List Int×List Int) (x:Int):List Int×List Int:=if st.1.getD x.toNat 0<0 then (st.1.set x.toNat (st.1.getD cur.toNat 0+1),st.2++[x]) else st
def jq (n:ao) (cur:Int):List Int:=(n.ends.getD cur.toNat []).map fun e=>e.1
def DG (n:ao):Nat->List Int×List Int->Nat->List Int
 | 0,st,_=>st.1
 | f+1,st,i=>if i<st.2.length then DG n f ((jq n (st.2.getD i 0)).foldl (bQ (st.2.getD i 0)) st) (i+1) else st.1
def cZ (n:ao) (v:Nat):List Int×List Int:=((List.replicate n.ends.length (-1)).set v 0,[(v:Int)])
def cJ (n:ao) (v:Nat):List Int:=DG n (n.ends.length+1) (cZ n v) 0
structure BI (N:Nat) (st:List Int×List Int):Prop where
 len:st.1.length=N
 walk:∀x∈st.2,0<=x/\x<N
 cnt:st.2.length+st.1.countP (fun x=>decide (x<0))=N
 val:∀x∈st.1,-1<=x/\x<st.2.length
theorem BI.start {n:ao} {v:Nat} (hv:v<n.ends.length):BI n.ends.length (cZ n v) where
 len:=by simp[cZ]
 walk:=fun x hx=>by simp[cZ]at hx;omega
 cnt:=by
  unfold cZ;rw[List.countP_set (by simpa using hv)];simp[List.countP_replicate]
  omega
 val:=fun x hx=>by
  unfold cZ at hx ⊢
  rcases List.mem_or_eq_of_mem_set hx with hx | rfl
  ·have:=List.eq_of_mem_replicate hx
   subst this;simp
  ·simp
theorem BI.bd {N:Nat} {st:List Int×List Int} (h:BI N st):st.2.length<=N:=zX h.cnt
theorem BI.step {N:Nat} {st:List Int×List Int} (h:BI N st) {cur x:Int} (hc:0<=cur/\cur<N) (hx:0<=x/\x<N):BI N (bQ cur st x):=by
 unfold bQ
 split
 ·rename_i np
  have ou:x.toNat<st.1.length:=by rw[h.len];omega
  have lC:cur.toNat<st.1.length:=by rw[h.len];omega
  have yj:st.1[x.toNat]<0:=by rwa [zDd,Zbu ou]at np
  have EH : -1<=st.1.getD cur.toNat 0/\st.1.getD cur.toNat 0<st.2.length:=by
   rw[zDd,Zbu lC];exact h.val _ (Zbj lC)
  obtain⟨q,hq⟩:=J_ (st.1.getD cur.toNat 0)
  rw[<- hq]at EH ⊢;refine⟨by simp[h.len],fun y hy=>?_,?_,fun y hy=>?_⟩
  ·rcases Zar.1 hy with hy | hy
   ·exact h.walk y hy
   ·simp at hy;subst hy;exact hx
  ·have h2:=h.cnt;have h3:0<st.1.countP (fun x=>decide (x<0)):=List.countP_pos_iff.2 ⟨_,Zbj ou,by simpa using yj⟩
   have e1:(decide (st.1[x.toNat]<0))=true:=by simpa using yj
   have e2:(decide (q+1<0))=false:=by simp;omega
   show(st.2++[x]).length+_=_
   rw[List.countP_set ou,e1,e2,Zay];simp
   omega
  ·show _/\y<((st.2++[x]).length:Nat)
   rw[Zay];rcases List.mem_or_eq_of_mem_set hy with hy | rfl
   ·have:=h.val y hy;simp;omega
   ·simp;omega
 ·exact h
theorem BI.fold {N:Nat} {cur:Int} (hc:0<=cur/\cur<N):∀(xs:List Int) {st:List Int×List Int},BI N st->(∀x∈xs,0<=x/\x<N)->BI N (xs.foldl (bQ cur) st)
 | [],_,h,_=>h
 | x::xs,_,h,hx=>BI.fold hc xs (h.step hc (hx x zS)) (fun y hy=>hx y (Zbd _ hy))
theorem tI (cur:Int) (st:List Int×List Int) (x:Int):∃ys,(bQ cur st x).2=st.2++ys:=by
 unfold bQ
 split
 ·exact⟨_,rfl⟩
 ·exact⟨[],zS⟩
theorem mj (cur:Int):∀(xs:List Int) (st:List Int×List Int),∃ys,(xs.foldl (bQ cur) st).2=st.2++ys
 | [],st=>⟨[],zS⟩
 | x::xs,st=>by
  obtain⟨y1,h1⟩:=tI cur st x;obtain⟨y2,h2⟩:=mj cur xs (bQ cur st x);exact⟨y1++y2,by rw[List.foldl_cons,h2,h1,List.append_assoc]⟩
theorem DH {cur:Int} {xs:List Int} {st:List Int×List Int} {j:Nat} {x:Int} (hx:xs[j]?=some x):(xs.take (j+1)).foldl (bQ cur) st=bQ cur ((xs.take j).foldl (bQ cur) st) x:=by
 rw[bJ hx,List.foldl_append];rfl
theorem wJ {n:ao} (hn:ar n=true) {cur:Int} (hc:0<=cur/\cur<n.ends.length):∀x∈jq n cur,0<=x/\x<n.ends.length:=by
 obtain⟨k,rfl⟩:=Int.eq_ofNat_of_zero_le hc.1;obtain⟨es,aU⟩:=au n.ends k zO;obtain⟨-,cH⟩:=fO hn aU;intro x hx;unfold jq at hx;rw[Zag,zDd,aU]at hx;obtain⟨e,he,rfl⟩:=List.mem_map.1 hx;exact cH e he
theorem Rs {n:ao} (hn:ar n=true):∀(f:Nat) (st:List Int×List Int) (i:Nat),BI n.ends.length st->∀x∈DG n f st i,-1<=x/\x<n.ends.length
 | 0,st,_,h,x,hx=>zY (h.val x hx) h.bd
 | f+1,st,i,h,x,hx=>by
  unfold DG at hx
  split at hx
  ·rename_i hi
   have hw:=h.walk (st.2.getD i 0) (by rw[zDd,Zbu hi];exact Zbj hi)
   exact Rs hn f _ (i+1) (h.fold hw _ (wJ hn hw)) x hx
  ·have:=h.val x hx;have:=h.bd;omega
theorem vd {n:ao} (hn:ar n=true):∀(f:Nat) (st:List Int×List Int) (i:Nat),BI n.ends.length st->(DG n f st i).length=n.ends.length
 | 0,st,_,h=>h.len
 | f+1,st,i,h=>by
  unfold DG
  split
  ·rename_i hi
   have hw:=h.walk (st.2.getD i 0) (by rw[zDd,Zbu hi];exact Zbj hi)
   exact vd hn f _ (i+1) (h.fold hw _ (wJ hn hw))
  ·exact h.len
inductive jU (n:ao) (v:Nat):Nat->Prop
 | refl:jU n v v
 | step {a b:Nat}:jU n v a->(b:Int)∈jq n (a:Int)->jU n v b
structure BR (n:ao) (v:Nat) (st:List Int×List Int):Prop where
 seen:∀w:Nat,w<n.ends.length->(0<=st.1.getD w 0↔(w:Int)∈st.2)
 rch:∀x∈st.2,jU n v x.toNat
 start:(v:Int)∈st.2
theorem BR.begin {n:ao} {v:Nat} (hv:v<n.ends.length):BR n v (cZ n v) where
 seen:=fun w hw=>by
  unfold cZ;show 0<=((List.replicate n.ends.length (-1:Int)).set v 0).getD w 0↔_
  rw[zDd,Zci]
  by_cases h:v=w
  ·subst h;simp[hv]
  ·rw[if_neg h,Zch,if_pos hw];simp
   omega
 rch:=fun x hx=>by
  have:x=(v:Int):=by simpa[cZ]using hx
  subst this;exact jU.refl
 start:=by simp[cZ]
theorem Oa {cur:Int} {st:List Int×List Int} {x y:Int} (h:y∈st.2):y∈(bQ cur st x).2:=by
 obtain⟨ys,h2⟩:=tI cur st x;rw[h2];exact Zax _ h
theorem BR.one {n:ao} {v:Nat} {st:List Int×List Int} {cur x:Int} (hI:BI n.ends.length st) (h:BR n v st) (hc:cur∈st.2) (hx:x∈jq n cur) (pc:0<=x/\x<n.ends.length):BR n v (bQ cur st x)/\x∈(bQ cur st x).2:=by
 have pd:=hI.walk cur hc;obtain⟨c,rfl⟩:=Int.eq_ofNat_of_zero_le pd.1;obtain⟨y,rfl⟩:=Int.eq_ofNat_of_zero_le pc.1;have hq:=(h.seen c zO).2 hc;have ii:=hI.len;unfold bQ
 split
 ·rename_i np
  refine⟨⟨fun w hw=>?_,fun z hz=>?_,Zax _ h.start⟩,zS⟩
  ·show 0<=(st.1.set (y:Int).toNat _).getD w 0↔(w:Int)∈st.2++[(y:Int)]
   rw[zDd,Zci,Zag]
   by_cases e:y=w
   ·subst e;rw[if_pos rfl,if_pos zO];simp only[Option.getD_some,Zar,Zbm,or_true,iff_true];rw[Zag];omega
   ·rw[if_neg e,<- zDd,h.seen w hw,Zar,Zbm];constructor
    ·exact Or.inl
    ·rintro(h2 | h2)
     ·exact h2
     ·omega
  ·rcases Zar.1 hz with hz | hz
   ·exact h.rch z hz
   ·obtain rfl:z=(y:Int):=by simpa using hz
    exact jU.step (h.rch _ hc) (by simpa using hx)
 ·rename_i np
  exact⟨h,(h.seen y zO).1 (by rw[Zag]at np;omega)⟩
theorem BR.fold {n:ao} {v:Nat} {cur:Int}:∀(xs:List Int) {st:List Int×List Int},BI n.ends.length st->BR n v st->cur∈st.2->(∀x∈xs,x∈jq n cur/\0<=x/\x<n.ends.length)->BR n v (xs.foldl (bQ cur) st)/\∀x∈xs,x∈(xs.foldl (bQ cur) st).2
 | [],_,_,h,_,_=>⟨h,fun _ hx=>by simp at hx⟩
 | x::xs,st,hI,h,hc,na=>by
  have hx:=na x (List.mem_cons_self ..);have h1:=BR.one hI h hc hx.1 hx.2;have h2:=BR.fold xs (hI.step (hI.walk cur hc) hx.2) h1.1 (Oa hc) (fun y hy=>na y (Zbd _ hy))
  refine⟨h2.1,fun y hy=>?_⟩
  rcases Zbe.1 hy with rfl | hy
  ·obtain⟨ys,hw⟩:=mj cur xs (bQ cur st y);show y∈(xs.foldl (bQ cur) (bQ cur st y)).2
   rw[hw];exact Zax _ h1.2
  ·exact h2.2 y hy
theorem Mt {n:ao} (hn:ar n=true) {v:Nat}:∀(f:Nat) (st:List Int×List Int) (i:Nat),BI n.ends.length st->BR n v st->(∀k,k<i->∀x∈jq n (st.2.getD k 0),x∈st.2)->i<=st.2.length->n.ends.length<f+i ->
  ∃gE:List Int×List Int,DG n f st i=gE.1/\BI n.ends.length gE/\BR n v gE/\∀y∈gE.2,∀x∈jq n y,x∈gE.2
 | 0,st,i,hI,_,_,hi,hf=>zX hI.bd
 | f+1,st,i,hI,hR,hC,hi,hf=>by
  unfold DG
  by_cases aA:i<st.2.length
  ·rw[if_pos aA]
   have hc:st.2.getD i 0∈st.2:=by rw[zDd,Zbu aA];exact Zbj aA
   have pd:=hI.walk _ hc;have cH:=wJ hn pd;have h1:=BR.fold (cur:=st.2.getD i 0) (jq n (st.2.getD i 0)) hI hR hc (fun x hx=>⟨hx,cH x hx⟩)
   obtain⟨ys,hw⟩:=mj (st.2.getD i 0) (jq n (st.2.getD i 0)) st
   refine Mt hn f _ (i+1) (hI.fold pd _ cH) h1.1 (fun k hk x hx=>?_) (by rw[hw,Zay];omega) zO
   have ek:((jq n (st.2.getD i 0)).foldl (bQ (st.2.getD i 0)) st).2.getD k 0=st.2.getD k 0:=by
    rw[hw,zDd,Zcb zO,<- zDd]
   rw[ek]at hx
   by_cases e:k=i
   ·subst e;exact h1.2 x hx
   ·rw[hw];exact Zax _ (hC k zO x hx)
  ·rw[if_neg aA];refine⟨st,rfl,hI,hR,fun y hy x hx=>?_⟩
   obtain⟨k,hk,rfl⟩:=List.mem_iff_getElem.1 hy;refine hC k zO x ?_
   rwa [zDd,Zbu hk]
theorem Ar {n:ao} (hn:ar n=true) {v w:Nat} (hv:v<n.ends.length) (h:jU n v w):w<n.ends.length:=by
 induction h with
 | refl=>exact hv
 | step _ h2 ih=>have:=wJ hn ⟨zO,zO⟩ _ h2;omega
theorem jr {n:ao} (hn:ar n=true) {v w:Nat} (hv:v<n.ends.length) (hw:w<n.ends.length):0<=(cJ n v).getD w 0↔jU n v w:=by
 obtain⟨st,h1,h2,h3,h4⟩:=Mt hn (n.ends.length+1) (cZ n v) 0 (BI.start hv) (BR.begin hv) (fun k hk=>zO) (Zac _) zO
 unfold cJ;rw[h1,h3.seen w hw];constructor
 ·intro h;have:=h3.rch _ h;simpa using this
 ·intro h;clear hw
  induction h with
  | refl=>exact h3.start
  | step _ hb ih=>exact h4 _ ih _ hb
theorem jU.trans {n:ao} {a b c:Nat} (h:jU n a b) (h2:jU n b c):jU n a c:=by
 induction h2 with
 | refl=>exact h
 | step _ hb ih=>exact jU.step ih hb
theorem EY {n:ao} {a b:Nat}:(b:Int)∈jq n (a:Int)↔∃(j:Nat) (q:Int),(n.ends.getD a [])[j]?=some ((b:Int),q):=by
 unfold jq;rw[List.mem_map,Zag];constructor
 ·rintro⟨⟨x,q⟩,hm,h⟩;obtain⟨j,hj⟩:=List.mem_iff_getElem?.1 hm;simp only at h
  subst h;exact⟨j,q,hj⟩
 ·rintro⟨j,q,h⟩;exact⟨_,Zaq h,rfl⟩
theorem V4 {n:ao} (hn:ar n=true) {a b:Nat} (ha:a<n.ends.length) (h:(b:Int)∈jq n (a:Int)):(a:Int)∈jq n (b:Int):=by
 obtain⟨j,q,hj⟩:=EY.1 h
 have FR:j<(n.ends.getD a []).length:=by
  rcases Zbi j (n.ends.getD a []).length with h2 | h2
  ·exact h2
  ·rw[Zce h2]at hj;cases hj
 have hp:bg n.ends (a:Int) (j:Int)=true:=by
  unfold bg;rw[Zai,Zag];exact⟨aB.2 zO,aB.2 zO⟩
 have h2:=wy hn hp
 have he:iJ n.ends (a:Int) (j:Int)=((b:Int),q):=by
  unfold iJ;rw[Zag,Zag,zDd,hj];rfl
 rw[he]at h2;obtain⟨h3,h4⟩:=h2;unfold bg at h3;rw[Zai]at h3;have h5:=aB.1 h3.2;obtain⟨q',rfl⟩:=Int.eq_ofNat_of_zero_le h5.1;rw[EY];unfold iJ at h4;rw[Zag,Zag]at h4;rw[Zag]at h5;refine⟨q',(j:Int),?_⟩;have hl:q'<(n.ends.getD b []).length:=zO
 rw[zDd (l:=n.ends.getD b []),Zbu hl]at h4
 rw[Zbu hl];exact congrArg some h4
theorem jU.symm {n:ao} (hn:ar n=true) {a b:Nat} (ha:a<n.ends.length) (h:jU n a b):jU n b a:=by
 induction h with
 | refl=>exact jU.refl
 | step h1 hb ih=>exact jU.trans (jU.step jU.refl (V4 hn (Ar hn ha h1) hb)) ih
def aH (n:ao) (v:Nat):Nat:=((List.range n.ends.length).find? fun w=>decide (0<=(cJ n v).getD w 0)).getD 0
def mG (n:ao):List Int:=(List.range n.ends.length).map fun v=>(aH n v:Int)
theorem dB {n:ao} (hn:ar n=true) {v:Nat} (hv:v<n.ends.length):jU n v (aH n v)/\aH n v<n.ends.length/\(∀w,jU n v w->aH n v<=w):=by
 unfold aH
 cases h:(List.range n.ends.length).find? fun w=>decide (0<=(cJ n v).getD w 0) with
 | none=>
  have:=List.find?_eq_none.1 h v (Zab.2 hv)
  exact absurd (decide_eq_true ((jr hn hv hv).2 jU.refl)) this
 | some u=>
  rw[List.find?_range_eq_some]at h;obtain⟨h1,h2,h3⟩:=h;have hu:=Zab.1 h2;refine⟨(jr hn hv hu).1 (of_decide_eq_true h1),hu,fun w hw=>?_⟩
  show u<=w
  rcases Zbi w u with aA | hge
  ·have:=h3 w aA
   rw[decide_eq_true ((jr hn hv zO).2 hw)]at this;cases this
  ·exact hge
theorem GS {n:ao} (hn:ar n=true) {v:Nat} (hv:v<n.ends.length):aH n v<=v:=(dB hn hv).2.2 v jU.refl
theorem pf {n:ao} (hn:ar n=true) {a b:Nat} (ha:a<n.ends.length) (h:jU n a b):aH n a=aH n b:=by
 have hb:=Ar hn ha h;have h1:=dB hn ha;have h2:=dB hn hb;exact Nat.le_antisymm (h1.2.2 _ (h.trans h2.1)) (h2.2.2 _ ((h.symm hn ha).trans h1.1))
theorem As {n:ao} (hn:ar n=true) {v:Nat} (hv:v<n.ends.length):aH n (aH n v)=aH n v:=(pf hn hv (dB hn hv).1).symm
theorem wK {n:ao} (hn:ar n=true) {k w:Nat} (hk:k<n.ends.length) (hw:w<n.ends.length) (hr:aH n k=k):jU n k w↔aH n w=k:=by
 constructor
 ·intro h;rw[<- pf hn hk h,hr]
 ·intro h;have:=(dB hn hw).1;rw[h]at this;exact this.symm hn hw
def g_ (n:ao) (k j:Nat):List Int:=(List.range n.ends.length).map fun w=>if decide (aH n w<k)||(decide (aH n w=k)&&decide (w<j)) then (aH n w:Int) else -1
theorem eS (n:ao) (k j:Nat):(g_ n k j).length=n.ends.length:=by simp[g_]
theorem gF {n:ao} {k j w:Nat} (hw:w<n.ends.length):(g_ n k j)[w]?=some (if decide (aH n w<k)||(decide (aH n w=k)&&decide (w<j)) then (aH n w:Int) else -1):=by
 unfold g_;rw[Zbr,Zcj hw];rfl
theorem GU (n:ao):g_ n 0 0=List.replicate n.ends.length (-1):=by
 apply Zck
 intro w
 by_cases hw:w<n.ends.length
 ·rw[gF hw,Zch,if_pos hw];simp
 ·rw[Zce (by rw[eS];omega),Zce (by simp;omega)]
theorem Kz (n:ao) {j:Nat} (hn:ar n=true):g_ n n.ends.length j=mG n:=by
 apply Zck
 intro w
 by_cases hw:w<n.ends.length
 ·rw[gF hw,if_pos (by simp[(dB hn hw).2.1])]
  unfold mG;rw[Zbr,Zcj hw];rfl
 ·rw[Zce (by rw[eS];omega),Zce (by simp[mG];omega)]
theorem GV (n:ao) (k:Nat):g_ n k n.ends.length=g_ n (k+1) 0:=by
 apply Zck
 intro w
 by_cases hw:w<n.ends.length
 ·rw[gF hw,gF hw];congr 2
  simp only[Zbp,Zai,decide_eq_true_eq,eq_iff_iff];omega
 ·rw[Zce (by rw[eS];omega),Zce (by rw[eS];omega)]
theorem GW {n:ao} (hn:ar n=true) {k:Nat} (hk:k<n.ends.length) (hr:aH n k≠k):g_ n k 0=g_ n (k+1) 0:=by
 apply Zck
 intro w
 by_cases hw:w<n.ends.length
 ·rw[gF hw,gF hw];congr 2
  simp only[Zbp,Zai,decide_eq_true_eq,eq_iff_iff]
  have:aH n w≠k:=fun h=>hr (by rw[<- h];exact As hn hw)
  omega
 ·rw[Zce (by rw[eS];omega),Zce (by rw[eS];omega)]
theorem GX {n:ao} (hn:ar n=true) {k:Nat} (hk:k<n.ends.length):∃x,(g_ n k 0)[k]?=some x/\(0<=x↔aH n k≠k):=by
 refine⟨_,gF hk,?_⟩
 have:=GS hn hk
 by_cases h:aH n k=k
 ·rw[h];simp
 ·rw[if_pos (by simp;omega)];constructor
  ·intro _;exact h
  ·intro _;omega
theorem KA {n:ao} (hn:ar n=true) {k j:Nat} (hk:k<n.ends.length) (hj:j<n.ends.length) (hr:aH n k=k) (hd:0<=(cJ n k).getD j 0):(g_ n k j).set j (k:Int)=g_ n k (j+1):=by
 have hl:=(wK hn hk hj hr).1 ((jr hn hk hj).1 hd);apply Zck
 intro w
 by_cases hw:w<n.ends.length
 ·rw[Zci,gF hw,gF hw,eS]
  by_cases e:j=w
  ·subst e;rw[if_pos rfl,if_pos hj,hl,if_pos zS]
  ·rw[if_neg e];congr 2
   simp only[Zbp,Zai,decide_eq_true_eq,eq_iff_iff];omega
 ·rw[Zce (by rw[Zau,eS];omega),Zce (by rw[eS];omega)]
theorem GY {n:ao} (hn:ar n=true) {k j:Nat} (hk:k<n.ends.length) (hj:j<n.ends.length) (hr:aH n k=k) (hd:¬0<=(cJ n k).getD j 0):g_ n k j=g_ n k (j+1):=by
 have hl:aH n j≠k:=fun h=>hd ((jr hn hk hj).2 ((wK hn hk hj hr).2 h))
 apply Zck
 intro w
 by_cases hw:w<n.ends.length
 ·rw[gF hw,gF hw];congr 2
  simp only[Zbp,Zai,decide_eq_true_eq,eq_iff_iff]
  by_cases e:j=w
  ·subst e;omega
  ·omega
 ·rw[Zce (by rw[eS];omega),Zce (by rw[eS];omega)]
theorem EZ {W:World} {base b k:Nat} {u:Value} {xs:List Int} (h:Own W base u xs) (hd:u.ownBlock≠some b) (v:Value):Own (W.setCell ⟨b,k,none⟩ v) base u xs:=
 aD h fun j hj=>Zan W _ v j (fun e=>hd (by simp at hj;rw[hj,e]))
theorem nI {ls:List Int} {v:Nat} (h:v<ls.length):ls[v]?=some (ls.getD v 0):=by rw[zDd,Zbu h];rfl
theorem Rt {xs ys zs:List Int} {i:Nat} {x:Int} (h:zs=xs++ys) (hx:xs[i]?=some x):zs[i]?=some x:=by
 rw[h,Zcb (ah hx)];exact hx
theorem Aw (ve vi vn:Value) (n:ao) (v:Nat) (w:World) (h:aR w ve vi vn n) (hn:ar n=true) (hv:v<n.ends.length):
  Calls Tryz.prog 190 #[.agg #[ve,vi,vn],.int .i64 v] w fun e w'=>∃u,e=.returned u/\Own w' w.heap.size u (cJ n v)/\Below w.heap.size w w':=by
 have iM:=bK hn;have Hn:=zh hn
 obtain⟨w0,A,c,A2,c2,A3,c3,rfl,rfl,rfl,fR,hm,gC,jz,HA,H,cD,aY,fp,fE,fM⟩:=zB h;clear h
 obtain⟨cA,hcA⟩:=J_ c
 subst hcA;obtain⟨R,hR⟩:=J_ (cJ n v)
 have HR:=zh hR;rw[<- hR];have aK:ab w0 w0:=aa _;clear hn hR
 go_enter Tryz.func190,Tryz.ntmps190
 go_upto_region 1 with(fail);rw[<- cD.out]
 go_wp2_with (at_make;refine lT _ rfl _ _ rfl _ _ n.ends.length rfl rfl rfl rfl zO ?_;intro w1 gL aP dP)
 obtain⟨g,hg⟩:=J_ w0.heap.size
 rw[<- hg]at gL dP ⊢;have Hg:=zh hg;clear hg dP;go_wp2
 go_loopw [17] (fun i wr=>∃k:Nat,k<=n.ends.length/\i=.int .i64 k/\Own wr w0.heap.size (.slice (some ⟨g,0,none⟩) n.ends.length n.ends.length) (List.replicate k (-1)++List.replicate (n.ends.length-k) 0)/\ab w0 wr) (fun i _=>n.ends.length-(intOf i).toNat)
 case atStart=>exact⟨0,Zac _,rfl,by have:=gL;simpa[Hg.out]using this,aP⟩
 case round=>
  obtain⟨k,hk,rfl,ho,hs⟩:=hrel;obtain⟨Ho,Hs⟩:=A_ ho hs;clear gL aP ho hs aK
  by_cases aA:k<n.ends.length
  ·obtain⟨y,hy⟩:=au (List.replicate k (-1:Int)++List.replicate (n.ends.length-k) 0) k (by simp;omega)
   have cz:=Ho.cell hy;have fz:=Ho.free k;clear hy;go_wp2;go_roundw
   case rel=>
    refine⟨k+1,zO,zM,?_,Below.setCell Hs.out (by show w0.heap.size<=g;rw[Hg.out];exact Zaj _) _⟩
    have:=Ho.set (k:=k) (-1)
    have e:(List.replicate k (-1:Int)++List.replicate (n.ends.length-k) 0).set k (-1)=List.replicate (k+1) (-1)++List.replicate (n.ends.length-(k+1)) 0:=by
     rw[List.set_append_right _ _ zS,Zbb,Nat.sub_self,show n.ends.length-k=(n.ends.length-(k+1))+1 by omega,List.replicate_succ,List.set_cons_zero,List.replicate_succ',List.append_assoc]
     rfl
    rwa [e]at this
   simp[intOf];omega
  ·obtain rfl:k=n.ends.length:=zO
   have mg:Hid (Own wr w0.heap.size (.slice (some ⟨g,0,none⟩) n.ends.length n.ends.length) (List.replicate n.ends.length (-1))):=by
    have:=Ho.out
    rwa [Nat.sub_self,List.replicate_zero,List.append_nil]at this
   have cz:=mg.out.cell (nI (show v<(List.replicate n.ends.length (-1:Int)).length by simpa using hv))
   have fz:=mg.free v
   have ZL:Hid (w0.heap.size<=g):=by rw[Hg.out];exact Zaj _
   obtain⟨w3,ib⟩:=J_ (wr.setCell ⟨g,v,none⟩ (.int .i64 0))
   have uU:Hid (Own w3 w0.heap.size (.slice (some ⟨g,0,none⟩) n.ends.length n.ends.length) (cZ n v).1):=by rw[ib];exact mg.set (k:=v) 0
   have lM:Hid (ab w0 w3):=by rw[ib];exact Below.setCell Hs.out ZL.out _
   obtain⟨g2,ut⟩:=J_ wr.heap.size
   have e3:w3.heap.size=wr.heap.size:=by rw[ib];simp
   obtain⟨w4,km⟩:=J_ (w3.alloc (.cells #[.int .i64 v] 3))
   have vQ:Hid (Own w4 w0.heap.size (.slice (some ⟨g,0,none⟩) n.ends.length n.ends.length) (cZ n v).1):=by rw[km];exact uU.since (ad _ (aa _))
   have Hu4:Hid (Own w4 w0.heap.size (.slice (some ⟨g2,0,none⟩) (cZ n v).2.length 1) (cZ n v).2):=by
    rw[km,ut,<- e3]
    have:=dS w3 [(v:Int)] (by simp[maxLen])
    exact this.mono lM.below.size
   have kD:Hid (ab w0 w4):=by rw[km];exact ad _ lM
   have Dr:g2≠g:=zX ((Zad uU.out g rfl).2)
   clear e3;obtain⟨yI,V6,GZ⟩:=B_ ib km ut;clear ib km ut;go_upto_region 9 with(fail);rw[<- yI.out,<- GZ.out,<- V6.out];clear cz fz;go_wp2
   go_loopw [7,8] (fun u i wr=>∃(f k:Nat) (st:List Int×List Int) (gu cu:Nat),i=.int .i64 k/\u=.slice (some ⟨gu,0,none⟩) st.2.length cu/\gu≠g/\BI n.ends.length st/\DG n f st k=R/\n.ends.length+1<=f+k/\k<=st.2.length/\Own wr w0.heap.size (.slice (some ⟨g,0,none⟩) n.ends.length n.ends.length) st.1/\Own wr w0.heap.size u st.2/\ab w0 wr) (fun _ i _=>n.ends.length+1-(intOf i).toNat)
   case atStart=>exact⟨n.ends.length+1,0,cZ n v,g2,1,rfl,rfl,Dr,BI.start hv,HR.symm,zO,Zac _,vQ,Hu4,kD⟩
   case round=>
    obtain⟨f,k,st,gu,cu,rfl,rfl,hgu,Vc,r_,hf,hk,ho,hou,hs⟩:=hrel;obtain⟨HBI,FM,Ho,Hou,Hs⟩:=D_ Vc r_ ho hou hs;have Cu:=Vc.bd;clear Vc r_ ho hou hs Dr
    by_cases aA:k<st.2.length
    ·obtain⟨f,rfl⟩:∃f',f=f'+1:=⟨f-1,zO⟩
     obtain⟨x,hx⟩:=au st.2 k aA;have Ru:=HBI.walk x (Zaq hx);obtain⟨c,rfl⟩:=Int.eq_ofNat_of_zero_le Ru.1;have hc:c<n.ends.length:=zO
     have cx:=ae (Hou.cell hx);have ad_:=zh Ru
     have Hxd:Hid (st.2.getD k 0=(c:Int)):=by show _=_;rw[zDd,hx];rfl
     have Hx:=zh hx;obtain⟨es,aU⟩:=au n.ends c hc;obtain⟨E3,-⟩:=fO Hn aU;have ni:=zh aU;obtain⟨see,G2⟩:=J_ (jq n c)
     have Rv:Hid (es.map (·.1)=see):=by show _=_;rw[G2,jq,Zag,zDd,aU];rfl
     have aea:Hid (∀y∈see,0<=y/\y<n.ends.length):=by rw[G2];exact wJ Hn ad_
     have ZM:=zh G2
     have yq:see.length<=6:=by rw[<- Rv.out,List.length_map];exact E3
     have gD:Hid (∀W,ab wr W->Calls Tryz.prog 168 #[.agg #[.slice A n.ends.length cA,.slice A2 n.ids.length c2,.slice A3 n.agT.length c3],.int .i64 c] W fun e w'=>∃u,e=.returned u/\Own w' wr.heap.size u see/\Below W.heap.size W w'):=fun W hW=>by
      have:=zz _ _ _ n c es W (H.agU (Hs.after hW).below) ni zO
      rw[Rv.out]at this;exact this.mono fun e w' ⟨u,h1,h2,h3⟩=>⟨u,h1,h2.mono (ab.below hW).size,h3⟩
     have q0:=al fp Hs;have q1:=al fE Hs;have q2:=al fM Hs;clear hx Ru aU G2;go_upto_region 12 with(fail);refine dO (w0:=wr) 8 [false,false,false,false,false,true,true,false] zK zK (aa _) ?_;simp only[ew,dM,zT]
     iterate 6 (apply ef rfl;(intro W hW;go_simp;with_reducible rfl);simp only[zA])
     intro W hW;refine Or.inl ⟨rfl,?_⟩
     go_simp
     (with_reducible refine(gD.out W hW).mono ?_)
     rintro e W' ⟨un,rfl,eB,hb⟩;refine⟨_,rfl,hW.trans hb,?_⟩
     replace hW:=hW.trans hb
     obtain⟨Bn,dn,rfl,_⟩:=id eB.ints
     (try simp only[zA])
     refine fj (v:=?_) rfl ?_ hW ?_;rotate_left;(go_simp;with_reducible rfl)
     simp only[zA];simp only[bP];have Cs:=zh (eB.mono Hs.out.below.size);have ZN:=fun q hq=>(Zad eB q hq).1
     have hng:(Value.slice Bn see.length dn).ownBlock≠some g:=fun e=>zY (ZN g e) ((Zad Ho.out g rfl).2)
     have hnu:(Value.slice Bn see.length dn).ownBlock≠some gu:=fun e=>zY (ZN gu e) ((Zad Hou.out gu rfl).2)
     obtain⟨vR,aeb,jF,Hng,Hnu⟩:=D_ (Ho.out.since hW) (Hou.out.since hW) (Hs.out.after hW) hng hnu;have Hfw:Hid (∀j,∃ys,((see.take j).foldl (bQ c) st).2=st.2++ys):=fun j=>mj _ _ _
     clear eB ZN hng hnu hW cx q0 q1 q2;go_wp2
     go_loopw [7,42] (fun u i wr=>∃(j gu cu:Nat) (gE:List Int×List Int),j<=see.length/\i=.int .i64 j/\gE=(see.take j).foldl (bQ c) st/\u=.slice (some ⟨gu,0,none⟩) gE.2.length cu/\gu≠g/\BI n.ends.length gE/\Own wr w0.heap.size (.slice (some ⟨g,0,none⟩) n.ends.length n.ends.length) gE.1/\Own wr w0.heap.size u gE.2 /\
      Own wr w0.heap.size (.slice Bn see.length dn) see/\(Value.slice Bn see.length dn).ownBlock≠some gu/\ab w0 wr) (fun _ i _=>see.length-(intOf i).toNat)
     case atStart=>exact⟨0,gu,cu,st,Zac _,rfl,rfl,rfl,hgu,HBI,vR,aeb,Cs,Hnu,jF⟩
     case round=>
      obtain⟨j,gv,cv,gE,hj,rfl,Rw,rfl,G3,KB,xr,abW,abX,XW,KC⟩:=hrel;obtain⟨Ax,Vd,V7,V8,CX,CY,Hnv⟩:=F_ KB xr abW abX KC Rw XW;have aec:=KB.bd;clear Rw KB xr abW abX KC XW hgu
      by_cases xK:j<see.length
      ·obtain⟨y,hy⟩:=au see j xK;have abY:=aea y (Zaq hy);obtain⟨d,rfl⟩:=Int.eq_ofNat_of_zero_le abY.1;have hd:d<n.ends.length:=zO
       rcases V8.out.cases with⟨-,e1⟩ | ⟨gn,cn,en,age,agf⟩
       ·rw[e1]at xK;simp at xK
       injection en with en1 en2 en3
       subst en1;have cy:=V8.cell hy;have qs:gE.1.length=n.ends.length:=Ax.len;have cd:=Vd.out.cell (nI (show d<gE.1.length by omega))
       have fd:=Vd.free d;obtain⟨z,hz⟩:=J_ (gE.1.getD d 0)
       rw[<- hz]at cd;obtain⟨Hz,Hy⟩:=A_ hz hy
       have si:Hid ((see.take (j+1)).foldl (bQ c) st=bQ c gE d):=by show _=_;rw[DH hy,<- CY.out]
       have NY:=zh qs;have m3:=zw j;clear hz hy abY qs en2 en3
       by_cases np:z<0
       ·have lC:c<gE.1.length:=by rw[NY.out];exact hc
        obtain⟨q,hq⟩:=J_ (gE.1.getD c 0)
        have cq:=Vd.cell (nI lC);rw[<- hq]at cq
        have X_ : -1<=q/\q<gE.2.length:=by rw[hq];exact Ax.val _ (Zaq (nI lC))
        obtain⟨ys,CM⟩:=Hfw j
        have cw:=V7.out.cell (Rt (show gE.2=st.2++ys by rw[CY.out];exact CM) Hx)
        have oV:k<gE.2.length:=ah (Rt (show gE.2=st.2++ys by rw[CY.out];exact CM) Hx)
        have m4:IntKind.i64.wrap (q+1)=q+1:=bU _ zO zO
        have Ay:Hid (bQ c gE d=(gE.1.set d (q+1),gE.2++[(d:Int)])):=by show _=_;unfold bQ;rw[Zag,Zag,<- Hz.out,if_pos np,<- hq]
        have HBn:Hid (BI n.ends.length (bQ c gE d)):=Ax.step zO zO;obtain⟨w5,vS⟩:=J_ (wr.setCell ⟨g,d,none⟩ (.int .i64 (q+1)))
        have abZ:Hid (Own w5 w0.heap.size (.slice (some ⟨g,0,none⟩) n.ends.length n.ends.length) (gE.1.set d (q+1))):=by rw[vS];exact Vd.set (k:=d) (q+1)
        have Ya:Hid (Own w5 w0.heap.size (.slice (some ⟨gv,0,none⟩) gE.2.length cv) gE.2):=by rw[vS];exact EZ V7 (by simpa[Value.ownBlock]using G3) _
        have Yb:Hid (Own w5 w0.heap.size (.slice (some ⟨gn,0,none⟩) see.length dn) see):=by rw[vS];exact EZ V8 Hng _
        have ZO:Hid (ab w0 w5):=by rw[vS];exact Below.setCell CX.out ZL.out _
        obtain⟨Mr,Rx⟩:=A_ vS G3
        have jb:Hid (gE.2.length+1<=17592186044416):=by show _<=_;omega
        clear hq vS CM;go_upto_region 17 with(fail);rw[<- Mr.out];clear cy cd fd cq cw m4
        go_wp2_with (at_builtin;refine sa rfl _ _ rfl rfl (Ya.since (ad _ (aa _))) w5.heap.size d rfl (by simp[go_sem]) jb (by have:=ZO.below.size;simp;omega) ?_;intro g7 c7 w7 ZP hg7 KD _)
        change World.grownBy _ w7 (some gv)at hg7
        change (some gv=some g7\/g7=_)at KD
        have ZQ:Hid (Own w7 w0.heap.size (.slice (some ⟨g,0,none⟩) n.ends.length n.ends.length) (gE.1.set d (q+1))):=Own.grown (abZ.agU (am w5 _)) hg7 (fun x hx e=>by simp[Value.ownBlock]at hx;cases e;exact Rx hx.symm)
        have aed:Hid (Own w7 w0.heap.size (.slice (some ⟨gn,0,none⟩) see.length dn) see):=Own.grown (Yb.out.agU (am w5 _)) hg7 (fun x hx e=>by cases e;exact Hnv hx)
        have aee:Hid (Own w7 w0.heap.size (.slice (some ⟨g7,0,none⟩) (gE.2.length+1) c7) (gE.2++[(d:Int)])):=ZP;have V9:=zh (Zad abZ.out g rfl).2;have aef:=zh (Zad Yb.out gn rfl).2
        have Hg7:Hid (g7≠g):=by
         rcases KD with e | e
         ·cases e;exact Rx
         ·simp at e;exact fun e2=>zX V9.out
        have aeg:Hid ((Value.slice (some ⟨gn,0,none⟩) see.length dn).ownBlock≠some g7):=by
         rcases KD with e | e
         ·cases e;exact Hnv
         ·simp at e;exact fun e2=>by simp[Value.ownBlock]at e2;have:=aef.out;omega
        have yJ:Hid (ab w0 w7):=Below.grown (show Below w0.heap.size w0 _ from ad _ ZO) hg7 (by have:=ZO.below.size;simp;omega) (fun x hx=>by cases hx;exact(Zad Ya gv rfl).1)
        clear ZP hg7 KD;go_wp2;go_roundw
        exact⟨j+1,g7,c7,bQ c gE d,zO,zM,si.symm,by rw[Ay.out];simp,Hg7,HBn,by rw[Ay.out];exact ZQ,by rw[Ay.out];exact aee,aed,aeg,yJ⟩
        simp[intOf];omega
       ·have Az:Hid (bQ c gE d=gE):=by show _=_;unfold bQ;rw[Zag,<- Hz.out,if_neg np]
        go_wp2;go_roundw
        exact⟨j+1,gv,cv,gE,zO,zM,by rw[si.out,Az.out],rfl,G3,Ax,Vd,V7,V8,Hnv,CX⟩
        simp[intOf];omega
      ·obtain rfl:j=see.length:=zO
       have dH:Hid (gE=see.foldl (bQ c) st):=by show _=_;rw[CY.out,Zbq]
       have Hbn:Hid (DG n f gE (k+1)=R):=by
        show _=_
        rw[<- FM.out,DG,if_pos aA,Hxd.out,<- ZM.out,<- dH.out]
       have Hlw:Hid (k+1<=gE.2.length):=by
        obtain⟨ys,CM⟩:=Hfw see.length;show _<=_
        rw[CY.out,CM,Zay];omega
       have m3:=zw k;go_wp2;go_roundw
       exact⟨f,k+1,gE,gv,cv,zM,rfl,G3,Ax,Hbn,zO,Hlw,Vd,V7,CX⟩
       simp[intOf];omega
    ·have Zz:Hid (R=st.1):=by
      rw[<- FM.out]
      obtain⟨f,rfl⟩ | h0:(∃f',f=f'+1)\/f=0:=by
       rcases Zbk f with h | h
       ·exact .inr h
       ·exact .inl ⟨f-1,zO⟩
      ·show DG _ _ _ _=_
       rw[DG,if_neg aA]
      ·subst h0;exact rfl
     go_wp2;go_ret
     exact⟨_,rfl,by rw[Zz.out];exact Ho.mono aY.size,ab.after aY Hs⟩
end Go.Proofs.YtnioemnkfojmkaaGreat
