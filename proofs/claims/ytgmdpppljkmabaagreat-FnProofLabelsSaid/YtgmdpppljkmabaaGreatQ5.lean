/- Parts of the proof: walks of functions and plain laws. -/
import Derived.Test.YtgmdpppljkmabaaGreatQ0
import Derived.Test.YtgmdpppljkmabaaGreatQ1
import Derived.Test.YtgmdpppljkmabaaGreatQ4
import Derived.Test.YtgmdpppljkmabaaGreatQ3
set_option maxRecDepth 100000
set_option maxHeartbeats 16000000
namespace Go.Proofs.YtgmdpppljkmabaaGreat
open Go Go.RowKit
theorem uj {P:Program} {ops:Array Oper} {S:World->Prop} {fin:Act->World->Prop} {o:Oper} {rest:List Oper} {A:Act} {W W':World} (hw:Region.wanted o (yielded ops A.tmps)=true) (h:(execOp A.eval o).run P W=.ok .skip W') (hS:S W')
  (hr:bz P ops S fin rest (A.put o.dst undef) W'):bz P ops S fin (o::rest) A W:=.inl ⟨hw,by rw[h];exact⟨hS,hr⟩⟩
theorem kW (ve vi vn:Value) (n:ak) (w:World) (h:aQ w ve vi vn n) (lN:n.ends.length<=1000) (dB:∀(k:Nat) (es:List (Int×Int)),n.ends[k]?=some es->es.length<=1000) (eP:iK n<=1048576):
  Calls Tryz.prog 137 #[.agg #[ve,vi,vn]] w (qZ w n):=by
 have yE:n.ids.length<=17592186044416:=by unfold iK at eP;omega
 have eS:n.aea.length<=17592186044416:=by unfold iK at eP;omega
 have yZ:Hid (∀(k:Nat) (es:List (Int×Int)),n.ends[k]?=some es->es.length<=1000):=dB;have si:=zh yE;have Hnl:=zh eS;clear yE eS dB eP
 obtain⟨w0,A,c,A2,c2,A3,c3,rfl,rfl,rfl,eV,hm,fJ,fB,HA,bK,aT,H,dL,dR,dU⟩:=zB h;clear h
 obtain⟨wa,lj⟩:∃wa,wa=w0.alloc (.cells #[.slice none 0 0,.slice none 0 0,.slice none 0 0] 27):=⟨_,rfl⟩
 have pT:aa w0 wa:=by rw[lj];exact ag _ (ad _)
 have FJ:Hid (wa.heap.size=w0.heap.size+1):=by show _=_;rw[lj];simp
 have J1:Hid (∀X,aa wa X->bx X w0.heap.size (.slice none 0 0) (.slice none 0 0) (.slice none 0 0)):=fun X hX=>by
  refine bx.since (W:=wa) ?_ hX;rw[lj];show(w0.heap.push _)[w0.heap.size]?=_
  rw[Array.getElem?_push_size]
 have LN:=ah dL pT;have LO:=ah dR pT;have LP:=ah dU pT;have HNe:=zh (show ∀X,aa wa X->nU X (.slice A n.ends.length c) n.ends from fun X hX=>(H.out.keep (pT.after hX).below).es)
 have Ud:=zh (show ∀X,aa wa X->aY X (.slice A2 n.ids.length c2) n.ids from fun X hX=>by have:=H.out.keep (pT.after hX).below;exact this.2.1)
 have HNn:=zh (show ∀X,aa wa X->aY X (.slice A3 n.aea.length c3) n.aea from fun X hX=>by have:=H.out.keep (pT.after hX).below;exact this.2.2)
 have FK:=zh lj;have zW:=zh pT;clear lj pT dL dR dU
 go_enter Tryz.func137,Tryz.ntmps137
 go_upto_region 1 with(fail);rw[<- bK.out,<- FK.out];refine o_ (w0:=wa) 9 [0,0,1,0,0,1,1,2,3] (fun _ W u=>ts W wa.heap.size u) (fun _ W W' u h hs=>h.keep hs) (by kernel_rfl) (by kernel_rfl) (ad _) ?_
 rw[show tm 2 ([0,0,1,0,0,1,1,2,3]:List Nat)=[7]from by decide]
 simp only[ky,List.take_succ_cons,List.take_zero,List.drop_succ_cons,List.drop_zero,if_true,if_false,reduceCtorEq,Nat.reduceEqDiff,reduceIte,Nat.zero_ne_one,Nat.one_ne_zero]
 iterate 4 (apply aR rfl;(intro W hW;go_simp;with_reducible rfl);simp only[zA])
 refine⟨?_,?_⟩
 ·intro j hj;obtain rfl:=List.mem_singleton.1 hj
  intro o ho;cases ho;refine⟨rfl,fun W hW=>?_⟩
  unfold k_
  go_simp
  all_goals (first | exact ts.new _ hW.below.size | exact⟨ts.new _ hW.below.size,ag _ (ad _)⟩)
 intro W hW;intro W1 h1;have Bi:=aa.after hW h1;refine⟨rfl,?_⟩
 go_simp
 (with_reducible refine(mF _ n.ids W1 (Ud.out W1 Bi) si.out).mono ?_)
 rintro e W ⟨u1,rfl,ho,hb⟩;refine⟨_,rfl,hb,?_⟩;have hW:=Bi.after (hb)
 have HI:=zh (show ∀X,aa W X->Own X wa.heap.size u1 n.ids from fun X hX=>(ho.since hX).mono Bi.below.size);clear ho hb
 (try simp only[zA])
 intro W1 h1;have Bi:=aa.after hW h1;refine⟨rfl,?_⟩
 go_simp
 (with_reducible refine(mF _ n.aea W1 (HNn.out W1 Bi) Hnl.out).mono ?_)
 rintro e W ⟨u2,rfl,ho,hb⟩;refine⟨_,rfl,hb,?_⟩;have hW:=Bi.after (hb)
 have Ue:=zh (show ∀X,aa W X->Own X wa.heap.size u1 n.ids from fun X hX=>HI.out X ((h1.trans hb).after hX));have P4:=zh (show ∀X,aa W X->Own X wa.heap.size u2 n.aea from fun X hX=>(ho.since hX).mono Bi.below.size);have XV:=zh (show ∀j,u1.ownBlock=some j->u2.ownBlock≠some j from fun j hj hk=>by have:=(World.ownsRow.lt (HI.out W1 h1) j hj).2;have:=(World.ownsRow.lt ho j hk).1;omega);clear ho hb HI;obtain⟨BI,dI,rfl,_⟩:=id (Ue.out W (ad _)).ints;obtain⟨BN,dN,rfl,_⟩:=id (P4.out W (ad _)).ints
 (try simp only[zA])
 intro W1 h1;have Bi:=aa.after hW h1;refine⟨rfl,?_⟩
 go_simp
 have XW:=h1;have hW:=Bi
 (try simp only[zA])
 intro us W h1 hU;have hW:=aa.after hW h1;have Uf:(fun _ W u=>ts W wa.heap.size u) 7 W (us 7):=by first | exact hU 7 (by simp) | exact hU
 (try simp only[]at Uf)
 simp only[aN,zG]
 (try simp only[zA])
 obtain⟨u7,XX⟩:∃x,x=us 7:=⟨_,rfl⟩
 rw[<- XX]at Uf ⊢;clear XX;clear hU us
 obtain⟨ob,rfl,zX,fe⟩:=Uf;have MO:=zh (Ue.out _ (XW.after h1));have vd:=zh (P4.out _ (XW.after h1));have QF:=zh fe;obtain⟨c0,c1,Bj,f0,f1,f2⟩:=fe.box.cells
 refine uj (W':=?_) rfl ?_ ?_ ?_;rotate_left
 (go_simp;with_reducible rfl)
 exact(((hW.setCell zX _).setCell zX _).setCell zX _)
 (try simp only[zA])
 simp only[bz];have FL:bx (((W.setCell ⟨ob,0,none⟩ (.slice none 0 0)).setCell ⟨ob,1,none⟩ (.slice BI n.ids.length dI)).setCell ⟨ob,2,none⟩ (.slice BN n.aea.length dN)) ob (.slice none 0 0) (.slice BI n.ids.length dI) (.slice BN n.aea.length dN):=((QF.out.aev _).aew _).aex _;obtain⟨w4,iC⟩:∃w4,w4=((W.setCell ⟨ob,0,none⟩ (.slice none 0 0)).setCell ⟨ob,1,none⟩ (.slice BI n.ids.length dI)).setCell ⟨ob,2,none⟩ (.slice BN n.aea.length dN):=⟨_,rfl⟩
 rw[<- iC]at FL ⊢
 have XY:Hid (aa wa w4):=by show aa _ _;rw[iC];exact(((hW.setCell zX _).setCell zX _).setCell zX _)
 have FM:bg [ob] W w4:=by rw[iC];exact((((bg.refl _ _).setCell (.inl (by simp)) _).setCell (.inl (by simp)) _).setCell (.inl (by simp)) _)
 have yY:=vN MO.out QF.out;have Dg:=vN vd.out QF.out
 have MP:Hid (az w4 wa.heap.size (.slice none 0 0) (.slice BI n.ids.length dI) (.slice BN n.aea.length dN) ⟨[],n.ids,n.aea⟩ ((Value.slice BI n.ids.length dI).ownBlock.toList++(Value.slice BN n.aea.length dN).ownBlock.toList)/\ob∉(Value.slice BI n.ids.length dI).ownBlock.toList++(Value.slice BN n.aea.length dN).ownBlock.toList):=by
  show _/\_
  refine⟨?_,fun hm=>(List.mem_append.1 hm).elim (fun hm=>yY (by simpa using hm)) (fun hm=>Dg (by simpa using hm))⟩
  have h1:Own w4 wa.heap.size (.slice BI n.ids.length dI) n.ids:=aK MO.out (fun j hj=>FM.block j (World.ownsRow.lt MO.out j (by simpa using hj)).2 (fun e=>yY (by simp at e;subst e;simpa using hj)))
  have h2:Own w4 wa.heap.size (.slice BN n.aea.length dN) n.aea:=aK vd.out (fun j hj=>FM.block j (World.ownsRow.lt vd.out j (by simpa using hj)).2 (fun e=>Dg (by simp at e;subst e;simpa using hj)))
  exact zU (S1:=[]) ⟨[],[],World.ownsRow_nil _ _ _ _,rfl,fun k u x T h=>by simp at h,rfl,by simp⟩ h1 h2 (by simp) (by simp) XV.out
 have MQ:=zh FL;have P6:=zh zX;clear FL iC FM yY Dg Ue P4 XV MO vd QF c0 c1 Bj f0 f1 f2 hW zX;have nj:=XY.out;go_wp2
 go_loopw [16] (fun i wr=>∃(k:Nat) (v:Value) (S:List Nat),k<=n.ends.length/\i=.int .i64 k/\az wr wa.heap.size v (.slice BI n.ids.length dI) (.slice BN n.aea.length dN) ⟨n.ends.take k,n.ids,n.aea⟩ S/\ob∉S/\(∀q,v.ownBlock=some q->ob+1<=q)/\bx wr ob v (.slice BI n.ids.length dI) (.slice BN n.aea.length dN)/\aa wa wr) (fun i _=>n.ends.length-(intOf i).toNat)
 case atStart=>exact⟨0,_,_,Nat.zero_le _,rfl,by simpa using MP.out.1,MP.out.2,by simp[Value.ownBlock],MQ.out,XY.out⟩
 case round=>
  obtain⟨k,v,S,hk,rfl,eY,MR,Ug,fe,bA⟩:=hrel;obtain⟨AV,cV,hV,_⟩:=id eY.read.1;obtain⟨mV,Uh⟩:∃m,m=(n.ends.take k).length:=⟨_,rfl⟩
  simp only[<- Uh]at hV;have HmV:=zh Uh;clear Uh;subst hV;have s9:=zh eY;have MS:=zh MR;have Ui:=zh Ug;have CF:=zh fe;clear nj eY MR Ug
  by_cases hlt:k<n.ends.length
  ·obtain⟨es,bW⟩:=aM n.ends k hlt;obtain⟨b,y4,cr,ur,g_,Bk,dS,dB⟩:=gy (HNe.out wa (ad _)) bW;cases g_;have q5:=ae dS;have HE:=zh (show ∀X,aa wa X->wG X ur es from fun X hX=>dB.keep hX.below)
   have kw:=zh bW;have WJ:=zh (yZ.out k es bW);clear dS dB bW fe;go_upto_region 5 with(fail);obtain⟨wT,P8⟩:∃wT,wT=l0 wr (ob+1):=⟨_,rfl⟩
   have qE:ob+1<=wr.heap.size:=CF.out.lt
   have XZ:aa wT wr:=by rw[P8];exact pd wr qE
   have WK:wT.heap.size=ob+1:=by rw[P8];exact li wr qE
   have hTb:bx wT ob (.slice AV mV cV) (.slice BI n.ids.length dI) (.slice BN n.aea.length dN):=by rw[P8];exact JX CF.out
   have WL:aa wa wT:=by rw[P8];exact uh bA qE (Nat.le_succ_of_le P6.out)
   have t0:=ae hTb.box.cells.1;have q5T:=ah q5 WL;have HTs:=zh WK;have HTa:=zh WL;have nA:=zh bA;have P9:=zh qE
   have jF:Hid (wT.heap.size<=wr.heap.size):=by show _<=_;rw[WK];exact qE
   clear P8 WK hTb WL bA q5 LN LO LP qE;refine eR (w0:=wT) 7 [false,false,true,false,true,true,true] (by kernel_rfl) (by kernel_rfl) (XZ) ?_;simp only[eE,ea,zT]
   iterate 3 (apply aR rfl;(intro W hW;go_simp;with_reducible rfl);simp only[zA])
   obtain⟨W,dE⟩:∃W,W=World.drew wr:=⟨_,rfl⟩
   rw[<- dE]
   have hW:aa wT W:=by rw[dE];exact aj (XZ)
   (try have gA:=zh dE)
   (try clear dE)
   refine je (v:=?_) (ob:=?_) rfl ?_ hW ?_;rotate_left 2
   (go_simp;first | with_reducible rfl | (refine⟨?_,?_⟩ <;> with_reducible rfl))
   intro w2 Uj X3
   replace hW:=X3
   clear X3
   have eX:Hid (eO w2 wr.heap.size (.slice (some ⟨wr.heap.size,0,none⟩) 0 0) [] [wr.heap.size]):=by show eO _ _ _ _ _;rw[Uj,gA.out];exact JY wr.drew
   have nX:Hid (aa wr w2):=by show aa _ _;rw[Uj,gA.out];exact ag _ (aj (ad _))
   rw[show W.heap.size=wr.heap.size from by rw[gA.out];rfl]
   clear Uj gA
   (try simp only[zA])
   refine ee (fun Q' HQ=>?_)
   (refine JW (w0:=wT) (v:=.slice (some ⟨wr.heap.size,0,none⟩) 0 0) (u:=ur) (xs:=[]) (ys:=es) (T:=[wr.heap.size]) rfl _ _ rfl rfl (ip.mono eX.out (jF.out)) (HE.out w2 (HTa.out.after hW)) rfl (by have:=WJ.out;simp;omega) hW ?_);intro v3 w3 T3 eH X4 FN hZ;refine HQ _ _ hZ ?_;replace hW:=hZ;have xc:Hid (aa wr w3):=(show aa _ _ from Below.trans nX.out (FN.below _ nX.out.below.size (by simp)));have X5:Hid (∀j∈T3,wr.heap.size<=j):=(fun j hj=>(X4 j hj).elim (fun h=>Nat.le_of_eq (List.mem_singleton.1 h).symm) (fun h=>by have:=nX.out.below.size;omega));obtain⟨AQ,mQ,cQ,hvQ⟩:=ip.one eH;subst hvQ;have i8:=zh eH;clear hZ eH X4 FN
   (try simp only[zA])
   (try have gA:=zh dE)
   (try clear dE)
   refine je (v:=?_) (ob:=?_) rfl ?_ hW ?_;rotate_left 2
   (go_simp;first | with_reducible rfl | (refine⟨?_,?_⟩ <;> with_reducible rfl))
   intro w5 lO pf
   replace hW:=pf
   clear pf
   have HE5:Hid (eO w5 wa.heap.size (.slice AQ mQ cQ) es T3):=by show eO _ _ _ _ _;rw[lO];have h5:eO w3 wT.heap.size (.slice AQ mQ cQ) es T3:=(by simpa using i8.out);exact ip.mono (ip.keep h5 (am _ _)) HTa.out.below.size
   have E8:Hid (w5.cell? ⟨w3.heap.size,0,none⟩=some (.slice AQ mQ cQ)):=by show _=_;rw[lO];simp
   have J2:Hid (aa wr w5):=by show aa _ _;rw[lO];exact ag _ xc.out
   have J3:=zh (s9.out.keep J2.out.below)
   have Hd5:=zh (show ∀j∈T3,j∉S from fun j hj hS=>by have:=X5.out j hj;have:=(s9.out.range j hS).2;omega)
   have Hl5:Hid ((n.ends.take k).length+1<=1000000):=(by show _<=_;rw[List.length_take];omega)
   have E9:Hid (wa.heap.size<=w5.heap.size):=(Nat.le_trans (HTa.out.below.size) hW.below.size)
   have QG:Hid (∀q,(Value.slice AV mV cV).ownBlock=some q->wT.heap.size<=q):=(fun q hq=>by rw[HTs.out];exact Ui.out q hq)
   clear lO
   (try simp only[zA])
   refine ee (fun Q' HQ=>?_)
   (refine sg (wT:=wT) (v:=.slice AV mV cV) (u:=.slice AQ mQ cQ) rfl _ _ rfl rfl J3.out w3.heap.size rfl E8.out HE5.out Hd5.out Hl5.out hW E9.out QG.out ?_);intro v6 w6 S6 X6 vf X7 vg Bl;refine HQ _ _ Bl ?_;have Hv6:=zh X6;have IP:=zh vf;have HS6:=zh X7;have X8:=zh vg;replace hW:=Bl;clear X6 vf X7 vg Bl
   (try simp only[zA])
   simp only[bz];obtain⟨A6,c6,X9,_⟩:=id IP.out.read.1
   have IQ:(n.ends.take k++[es]).length=k+1:=by simp;omega
   simp only[IQ]at X9;subst X9;have J4:=zh ((CF.out.since J2.out).only X8.out MS.out);have abH:Hid (aa wa w6):=(HTa.out.after hW);obtain⟨c0,_,_,f0,_,_⟩:=J4.out.box.cells;clear hW t0 q5T;go_wp2;go_roundw
   case rel=>
    have MT:ob∉S6:=fun hm=>by
     rcases HS6.out ob hm with h | h | h
     ·exact MS.out h
     ·have:=X5.out ob h;have:=P9.out;omega
     ·have:=J2.out.below.size;have:=P9.out;omega
    refine⟨k+1,.slice A6 (k+1) c6,S6,by omega,by go_num,?_,MT,?_,J4.out.aev _,abH.out.setCell P6.out _⟩
    ·have hx:=IP.out.aeb (w':=w6.setCell ⟨ob,0,none⟩ (.slice A6 (k+1) c6)) (fun j hj=>Below.heap_setCell w6 _ _ j (fun e=>MT (by have e':j=ob:=e;exact e' ▸ hj)))
     rw[bh kw.out];exact hx
    ·intro q hq;rcases Hv6.out q hq with h | h
     ·exact Ui.out q h
     ·have:=J2.out.below.size;have:=P9.out;omega
   case measure=>simp[intOf];omega
  ·obtain rfl:k=n.ends.length:=by omega
   have nk:w0.heap.size=w.heap.size+1:=by rw[bK.out];simp
   have HR:=J1.out wr bA;rw[nk]at HR
   have Uk:Hid (w.heap.size+1<wa.heap.size):=by show _<_;rw[FJ.out];omega
   obtain⟨c0,c1,Bj,_,_,_⟩:=CF.out.box.cells;obtain⟨d0,d1,d2,f0,f1,f2⟩:=HR.box.cells;have nA:=zh bA;have HR':=zh HR;clear HR fe bA hlt hk nk;go_wp2;refine bodyPost_ret (v:=.agg #[.slice AV mV cV,.slice BI n.ids.length dI,.slice BN n.aea.length dN]) (by simp[results,Tryz.results137,go_sem, *]) rfl ?_;have hx:=s9.out;rw[List.take_length]at hx;refine⟨_,_,_,S,rfl,?_,?_⟩
   ·refine(hx.aeb (fun j hj=>?_)).mono (Nat.le_trans aT.out.size zW.out.below.size)
    have uf:=(s9.out.range j hj).1;have yQ:=Uk.out;rw[Below.heap_setCell _ _ _ j (by simp;omega),Below.heap_setCell _ _ _ j (by simp;omega),Below.heap_setCell _ _ _ j (by simp;omega)]
   ·exact(((Below.trans aT.out ((zW.out.after nA.out).below.mono aT.out.size)).setCell (by simp) _).setCell (by simp) _).setCell (by simp) _
def ba (cur:Int) (st:List Int×List Int) (x:Int):List Int×List Int:=if st.1.getD x.toNat 0<0 then (st.1.set x.toNat (st.1.getD cur.toNat 0+1),st.2++[x]) else st
def eh (n:ak) (cur:Int):List Int:=(n.ends.getD cur.toNat []).map fun e=>e.1
def sj (n:ak):Nat->List Int×List Int->Nat->List Int
 | 0,st,_=>st.1
 | f+1,st,i=>if i<st.2.length then sj n f ((eh n (st.2.getD i 0)).foldl (ba (st.2.getD i 0)) st) (i+1) else st.1
def bG (n:ak) (v:Nat):List Int×List Int:=((List.replicate n.ends.length (-1)).set v 0,[(v:Int)])
def bS (n:ak) (v:Nat):List Int:=sj n (n.ends.length+1) (bG n v) 0
structure BI (N:Nat) (st:List Int×List Int):Prop where
 len:st.1.length=N
 walk:∀x∈st.2,0<=x/\x<N
 cnt:st.2.length+st.1.countP (fun x=>decide (x<0))=N
 val:∀x∈st.1,-1<=x/\x<st.2.length
theorem BI.start {n:ak} {v:Nat} (hv:v<n.ends.length):BI n.ends.length (bG n v) where
 len:=by simp[bG]
 walk:=fun x hx=>by simp[bG]at hx;omega
 cnt:=by
  unfold bG;rw[List.countP_set (by simpa using hv)];simp[List.countP_replicate]
  omega
 val:=fun x hx=>by
  unfold bG at hx ⊢
  rcases List.mem_or_eq_of_mem_set hx with hx | rfl
  ·have:=List.eq_of_mem_replicate hx
   subst this;simp
  ·simp
theorem BI.bd {N:Nat} {st:List Int×List Int} (h:BI N st):st.2.length<=N:=by have:=h.cnt;omega
theorem BI.step {N:Nat} {st:List Int×List Int} (h:BI N st) {cur x:Int} (hc:0<=cur/\cur<N) (hx:0<=x/\x<N):BI N (ba cur st x):=by
 unfold ba
 split
 ·rename_i lP
  have vh:x.toNat<st.1.length:=by rw[h.len];omega
  have d9:cur.toNat<st.1.length:=by rw[h.len];omega
  have tp:st.1[x.toNat]<0:=by rwa [zDd,List.getElem?_eq_getElem vh]at lP
  have WM : -1<=st.1.getD cur.toNat 0/\st.1.getD cur.toNat 0<st.2.length:=by
   rw[zDd,List.getElem?_eq_getElem d9];exact h.val _ (List.getElem_mem d9)
  obtain⟨q,hq⟩:∃q,q=st.1.getD cur.toNat 0:=⟨_,rfl⟩
  rw[<- hq]at WM ⊢;refine⟨by simp[h.len],fun y hy=>?_,?_,fun y hy=>?_⟩
  ·rcases List.mem_append.1 hy with hy | hy
   ·exact h.walk y hy
   ·simp at hy;subst hy;exact hx
  ·have h2:=h.cnt;have h3:0<st.1.countP (fun x=>decide (x<0)):=List.countP_pos_iff.2 ⟨_,List.getElem_mem vh,by simpa using tp⟩
   have e1:(decide (st.1[x.toNat]<0))=true:=by simpa using tp
   have e2:(decide (q+1<0))=false:=by simp;omega
   show(st.2++[x]).length+_=_
   rw[List.countP_set vh,e1,e2,List.length_append];simp
   omega
  ·show _/\y<((st.2++[x]).length:Nat)
   rw[List.length_append];rcases List.mem_or_eq_of_mem_set hy with hy | rfl
   ·have:=h.val y hy;simp;omega
   ·simp;omega
 ·exact h
theorem BI.fold {N:Nat} {cur:Int} (hc:0<=cur/\cur<N):∀(xs:List Int) {st:List Int×List Int},BI N st->(∀x∈xs,0<=x/\x<N)->BI N (xs.foldl (ba cur) st)
 | [],_,h,_=>h
 | x::xs,_,h,hx=>BI.fold hc xs (h.step hc (hx x (by simp))) (fun y hy=>hx y (List.mem_cons_of_mem _ hy))
theorem ra (cur:Int) (st:List Int×List Int) (x:Int):∃ys,(ba cur st x).2=st.2++ys:=by
 unfold ba
 split
 ·exact⟨_,rfl⟩
 ·exact⟨[],by simp⟩
theorem jQ (cur:Int):∀(xs:List Int) (st:List Int×List Int),∃ys,(xs.foldl (ba cur) st).2=st.2++ys
 | [],st=>⟨[],by simp⟩
 | x::xs,st=>by
  obtain⟨y1,h1⟩:=ra cur st x;obtain⟨y2,h2⟩:=jQ cur xs (ba cur st x);exact⟨y1++y2,by rw[List.foldl_cons,h2,h1,List.append_assoc]⟩
theorem tu {cur:Int} {xs:List Int} {st:List Int×List Int} {j:Nat} {x:Int} (hx:xs[j]?=some x):(xs.take (j+1)).foldl (ba cur) st=ba cur ((xs.take j).foldl (ba cur) st) x:=by
 rw[bh hx,List.foldl_append];rfl
theorem nB {n:ak} (hn:al n=true) {cur:Int} (hc:0<=cur/\cur<n.ends.length):∀x∈eh n cur,0<=x/\x<n.ends.length:=by
 obtain⟨k,rfl⟩:=Int.eq_ofNat_of_zero_le hc.1;obtain⟨es,bW⟩:=aM n.ends k (by omega);obtain⟨-,eU⟩:=bX hn bW;intro x hx;unfold eh at hx;rw[Int.toNat_natCast,zDd,bW]at hx;obtain⟨e,he,rfl⟩:=List.mem_map.1 hx;exact eU e he
theorem MU {n:ak} (hn:al n=true):∀(f:Nat) (st:List Int×List Int) (i:Nat),BI n.ends.length st->∀x∈sj n f st i,-1<=x/\x<n.ends.length
 | 0,st,_,h,x,hx=>by have:=h.val x hx;have:=h.bd;omega
 | f+1,st,i,h,x,hx=>by
  unfold sj at hx
  split at hx
  ·rename_i hi
   have hw:=h.walk (st.2.getD i 0) (by rw[zDd,List.getElem?_eq_getElem hi];exact List.getElem_mem hi)
   exact MU hn f _ (i+1) (h.fold hw _ (nB hn hw)) x hx
  ·have:=h.val x hx;have:=h.bd;omega
theorem kQ {n:ak} (hn:al n=true):∀(f:Nat) (st:List Int×List Int) (i:Nat),BI n.ends.length st->(sj n f st i).length=n.ends.length
 | 0,st,_,h=>h.len
 | f+1,st,i,h=>by
  unfold sj
  split
  ·rename_i hi
   have hw:=h.walk (st.2.getD i 0) (by rw[zDd,List.getElem?_eq_getElem hi];exact List.getElem_mem hi)
   exact kQ hn f _ (i+1) (h.fold hw _ (nB hn hw))
  ·exact h.len
inductive f6 (n:ak) (v:Nat):Nat->Prop
 | refl:f6 n v v
 | step {a b:Nat}:f6 n v a->(b:Int)∈eh n (a:Int)->f6 n v b
structure BR (n:ak) (v:Nat) (st:List Int×List Int):Prop where
 seen:∀w:Nat,w<n.ends.length->(0<=st.1.getD w 0↔(w:Int)∈st.2)
 rch:∀x∈st.2,f6 n v x.toNat
 start:(v:Int)∈st.2
theorem BR.begin {n:ak} {v:Nat} (hv:v<n.ends.length):BR n v (bG n v) where
 seen:=fun w hw=>by
  unfold bG;show 0<=((List.replicate n.ends.length (-1:Int)).set v 0).getD w 0↔_
  rw[zDd,List.getElem?_set]
  by_cases h:v=w
  ·subst h;simp[hv]
  ·rw[if_neg h,List.getElem?_replicate,if_pos hw];simp
   omega
 rch:=fun x hx=>by
  have:x=(v:Int):=by simpa[bG]using hx
  subst this;exact f6.refl
 start:=by simp[bG]
theorem J5 {cur:Int} {st:List Int×List Int} {x y:Int} (h:y∈st.2):y∈(ba cur st x).2:=by
 obtain⟨ys,h2⟩:=ra cur st x;rw[h2];exact List.mem_append_left _ h
theorem BR.one {n:ak} {v:Nat} {st:List Int×List Int} {cur x:Int} (hI:BI n.ends.length st) (h:BR n v st) (hc:cur∈st.2) (hx:x∈eh n cur) (sk:0<=x/\x<n.ends.length):BR n v (ba cur st x)/\x∈(ba cur st x).2:=by
 have FO:=hI.walk cur hc;obtain⟨c,rfl⟩:=Int.eq_ofNat_of_zero_le FO.1;obtain⟨y,rfl⟩:=Int.eq_ofNat_of_zero_le sk.1;have hq:=(h.seen c (by omega)).2 hc;have hlen:=hI.len;unfold ba
 split
 ·rename_i lP
  refine⟨⟨fun w hw=>?_,fun z hz=>?_,List.mem_append_left _ h.start⟩,by simp⟩
  ·show 0<=(st.1.set (y:Int).toNat _).getD w 0↔(w:Int)∈st.2++[(y:Int)]
   rw[zDd,List.getElem?_set,Int.toNat_natCast]
   by_cases e:y=w
   ·subst e;rw[if_pos rfl,if_pos (by omega)];simp only[Option.getD_some,List.mem_append,List.mem_singleton,or_true,iff_true];rw[Int.toNat_natCast];omega
   ·rw[if_neg e,<- zDd,h.seen w hw,List.mem_append,List.mem_singleton];constructor
    ·exact Or.inl
    ·rintro(h2 | h2)
     ·exact h2
     ·omega
  ·rcases List.mem_append.1 hz with hz | hz
   ·exact h.rch z hz
   ·obtain rfl:z=(y:Int):=by simpa using hz
    exact f6.step (h.rch _ hc) (by simpa using hx)
 ·rename_i lP
  exact⟨h,(h.seen y (by omega)).1 (by rw[Int.toNat_natCast]at lP;omega)⟩
theorem BR.fold {n:ak} {v:Nat} {cur:Int}:∀(xs:List Int) {st:List Int×List Int},BI n.ends.length st->BR n v st->cur∈st.2->(∀x∈xs,x∈eh n cur/\0<=x/\x<n.ends.length)->BR n v (xs.foldl (ba cur) st)/\∀x∈xs,x∈(xs.foldl (ba cur) st).2
 | [],_,_,h,_,_=>⟨h,fun _ hx=>by simp at hx⟩
 | x::xs,st,hI,h,hc,hxs=>by
  have hx:=hxs x (List.mem_cons_self ..);have h1:=BR.one hI h hc hx.1 hx.2;have h2:=BR.fold xs (hI.step (hI.walk cur hc) hx.2) h1.1 (J5 hc) (fun y hy=>hxs y (List.mem_cons_of_mem _ hy))
  refine⟨h2.1,fun y hy=>?_⟩
  rcases List.mem_cons.1 hy with rfl | hy
  ·obtain⟨ys,hw⟩:=jQ cur xs (ba cur st y);show y∈(xs.foldl (ba cur) (ba cur st y)).2
   rw[hw];exact List.mem_append_left _ h1.2
  ·exact h2.2 y hy
theorem IR {n:ak} (hn:al n=true) {v:Nat}:∀(f:Nat) (st:List Int×List Int) (i:Nat),BI n.ends.length st->BR n v st->(∀k,k<i->∀x∈eh n (st.2.getD k 0),x∈st.2)->i<=st.2.length->n.ends.length<f+i ->
  ∃dP:List Int×List Int,sj n f st i=dP.1/\BI n.ends.length dP/\BR n v dP/\∀y∈dP.2,∀x∈eh n y,x∈dP.2
 | 0,st,i,hI,_,_,hi,hf=>by have:=hI.bd;omega
 | f+1,st,i,hI,hR,hC,hi,hf=>by
  unfold sj
  by_cases hlt:i<st.2.length
  ·rw[if_pos hlt]
   have hc:st.2.getD i 0∈st.2:=by rw[zDd,List.getElem?_eq_getElem hlt];exact List.getElem_mem hlt
   have FO:=hI.walk _ hc;have eU:=nB hn FO;have h1:=BR.fold (cur:=st.2.getD i 0) (eh n (st.2.getD i 0)) hI hR hc (fun x hx=>⟨hx,eU x hx⟩)
   obtain⟨ys,hw⟩:=jQ (st.2.getD i 0) (eh n (st.2.getD i 0)) st
   refine IR hn f _ (i+1) (hI.fold FO _ eU) h1.1 (fun k hk x hx=>?_) (by rw[hw,List.length_append];omega) (by omega)
   have ek:((eh n (st.2.getD i 0)).foldl (ba (st.2.getD i 0)) st).2.getD k 0=st.2.getD k 0:=by
    rw[hw,zDd,List.getElem?_append_left (by omega),<- zDd]
   rw[ek]at hx
   by_cases e:k=i
   ·subst e;exact h1.2 x hx
   ·rw[hw];exact List.mem_append_left _ (hC k (by omega) x hx)
  ·rw[if_neg hlt];refine⟨st,rfl,hI,hR,fun y hy x hx=>?_⟩
   obtain⟨k,hk,rfl⟩:=List.mem_iff_getElem.1 hy;refine hC k (by omega) x ?_
   rwa [zDd,List.getElem?_eq_getElem hk]
theorem mg {n:ak} (hn:al n=true) {v w:Nat} (hv:v<n.ends.length) (h:f6 n v w):w<n.ends.length:=by
 induction h with
 | refl=>exact hv
 | step _ h2 ih=>have:=nB hn ⟨by omega,by omega⟩ _ h2;omega
theorem h_ {n:ak} (hn:al n=true) {v w:Nat} (hv:v<n.ends.length) (hw:w<n.ends.length):0<=(bS n v).getD w 0↔f6 n v w:=by
 obtain⟨st,h1,h2,h3,h4⟩:=IR hn (n.ends.length+1) (bG n v) 0 (BI.start hv) (BR.begin hv) (fun k hk=>by omega) (Nat.zero_le _) (by omega)
 unfold bS;rw[h1,h3.seen w hw];constructor
 ·intro h;have:=h3.rch _ h;simpa using this
 ·intro h;clear hw
  induction h with
  | refl=>exact h3.start
  | step _ hb ih=>exact h4 _ ih _ hb
theorem f6.trans {n:ak} {a b c:Nat} (h:f6 n a b) (h2:f6 n b c):f6 n a c:=by
 induction h2 with
 | refl=>exact h
 | step _ hb ih=>exact f6.step ih hb
theorem nC {n:ak} {a b:Nat}:(b:Int)∈eh n (a:Int)↔∃(j:Nat) (q:Int),(n.ends.getD a [])[j]?=some ((b:Int),q):=by
 unfold eh;rw[List.mem_map,Int.toNat_natCast];constructor
 ·rintro⟨⟨x,q⟩,hm,h⟩;obtain⟨j,hj⟩:=List.mem_iff_getElem?.1 hm;simp only at h
  subst h;exact⟨j,q,hj⟩
 ·rintro⟨j,q,h⟩;exact⟨_,List.mem_of_getElem? h,rfl⟩
theorem vO {n:ak} (hn:al n=true) {a b:Nat} (ha:a<n.ends.length) (h:(b:Int)∈eh n (a:Int)):(a:Int)∈eh n (b:Int):=by
 obtain⟨j,q,hj⟩:=nC.1 h
 have yF:j<(n.ends.getD a []).length:=by
  rcases Nat.lt_or_ge j (n.ends.getD a []).length with h2 | h2
  ·exact h2
  ·rw[List.getElem?_eq_none h2]at hj;cases hj
 have hp:cj n.ends (a:Int) (j:Int)=true:=by
  unfold cj;rw[Bool.and_eq_true,Int.toNat_natCast];exact⟨ap.2 (by omega),ap.2 (by omega)⟩
 have h2:=tq hn hp
 have he:fN n.ends (a:Int) (j:Int)=((b:Int),q):=by
  unfold fN;rw[Int.toNat_natCast,Int.toNat_natCast,zDd,hj];rfl
 rw[he]at h2;obtain⟨h3,h4⟩:=h2;unfold cj at h3;rw[Bool.and_eq_true]at h3;have h5:=ap.1 h3.2;obtain⟨q',rfl⟩:=Int.eq_ofNat_of_zero_le h5.1;rw[nC];unfold fN at h4;rw[Int.toNat_natCast,Int.toNat_natCast]at h4;rw[Int.toNat_natCast]at h5;refine⟨q',(j:Int),?_⟩;have hl:q'<(n.ends.getD b []).length:=by omega
 rw[zDd (l:=n.ends.getD b []),List.getElem?_eq_getElem hl]at h4
 rw[List.getElem?_eq_getElem hl];exact congrArg some h4
theorem f6.symm {n:ak} (hn:al n=true) {a b:Nat} (ha:a<n.ends.length) (h:f6 n a b):f6 n b a:=by
 induction h with
 | refl=>exact f6.refl
 | step h1 hb ih=>exact f6.trans (f6.step f6.refl (vO hn (mg hn ha h1) hb)) ih
def ai (n:ak) (v:Nat):Nat:=((List.range n.ends.length).find? fun w=>decide (0<=(bS n v).getD w 0)).getD 0
def bn (n:ak):List Int:=(List.range n.ends.length).map fun v=>(ai n v:Int)
theorem bu {n:ak} (hn:al n=true) {v:Nat} (hv:v<n.ends.length):f6 n v (ai n v)/\ai n v<n.ends.length/\(∀w,f6 n v w->ai n v<=w):=by
 unfold ai
 cases h:(List.range n.ends.length).find? fun w=>decide (0<=(bS n v).getD w 0) with
 | none=>
  have:=List.find?_eq_none.1 h v (List.mem_range.2 hv)
  exact absurd (decide_eq_true ((h_ hn hv hv).2 f6.refl)) this
 | some u=>
  rw[List.find?_range_eq_some]at h;obtain⟨h1,h2,h3⟩:=h;have hu:=List.mem_range.1 h2;refine⟨(h_ hn hv hu).1 (of_decide_eq_true h1),hu,fun w hw=>?_⟩
  show u<=w
  rcases Nat.lt_or_ge w u with hlt | hge
  ·have:=h3 w hlt
   rw[decide_eq_true ((h_ hn hv (by omega)).2 hw)]at this;cases this
  ·exact hge
theorem Dh {n:ak} (hn:al n=true) {v:Nat} (hv:v<n.ends.length):ai n v<=v:=(bu hn hv).2.2 v f6.refl
theorem fk {n:ak} (hn:al n=true) {a b:Nat} (ha:a<n.ends.length) (h:f6 n a b):ai n a=ai n b:=by
 have hb:=mg hn ha h;have h1:=bu hn ha;have h2:=bu hn hb;exact Nat.le_antisymm (h1.2.2 _ (h.trans h2.1)) (h2.2.2 _ ((h.symm hn ha).trans h1.1))
theorem nD {n:ak} (hn:al n=true) {v:Nat} (hv:v<n.ends.length):ai n (ai n v)=ai n v:=(fk hn hv (bu hn hv).1).symm
theorem tz {n:ak} (hn:al n=true) {k w:Nat} (hk:k<n.ends.length) (hw:w<n.ends.length) (hr:ai n k=k):f6 n k w↔ai n w=k:=by
 constructor
 ·intro h;rw[<- fk hn hk h,hr]
 ·intro h;have:=(bu hn hw).1;rw[h]at this;exact this.symm hn hw
def gC (n:ak) (k j:Nat):List Int:=(List.range n.ends.length).map fun w=>if decide (ai n w<k)||(decide (ai n w=k)&&decide (w<j)) then (ai n w:Int) else -1
theorem eA (n:ak) (k j:Nat):(gC n k j).length=n.ends.length:=by simp[gC]
theorem fO {n:ak} {k j w:Nat} (hw:w<n.ends.length):(gC n k j)[w]?=some (if decide (ai n w<k)||(decide (ai n w=k)&&decide (w<j)) then (ai n w:Int) else -1):=by
 unfold gC;rw[List.getElem?_map,List.getElem?_range hw];rfl
theorem Di (n:ak):gC n 0 0=List.replicate n.ends.length (-1):=by
 apply List.ext_getElem?
 intro w
 by_cases hw:w<n.ends.length
 ·rw[fO hw,List.getElem?_replicate,if_pos hw];simp
 ·rw[List.getElem?_eq_none (by rw[eA];omega),List.getElem?_eq_none (by simp;omega)]
theorem FP (n:ak) {j:Nat} (hn:al n=true):gC n n.ends.length j=bn n:=by
 apply List.ext_getElem?
 intro w
 by_cases hw:w<n.ends.length
 ·rw[fO hw,if_pos (by simp[(bu hn hw).2.1])]
  unfold bn;rw[List.getElem?_map,List.getElem?_range hw];rfl
 ·rw[List.getElem?_eq_none (by rw[eA];omega),List.getElem?_eq_none (by simp[bn];omega)]
theorem Dj (n:ak) (k:Nat):gC n k n.ends.length=gC n (k+1) 0:=by
 apply List.ext_getElem?
 intro w
 by_cases hw:w<n.ends.length
 ·rw[fO hw,fO hw];congr 2
  simp only[Bool.or_eq_true,Bool.and_eq_true,decide_eq_true_eq,eq_iff_iff];omega
 ·rw[List.getElem?_eq_none (by rw[eA];omega),List.getElem?_eq_none (by rw[eA];omega)]
theorem Dk {n:ak} (hn:al n=true) {k:Nat} (hk:k<n.ends.length) (hr:ai n k≠k):gC n k 0=gC n (k+1) 0:=by
 apply List.ext_getElem?
 intro w
 by_cases hw:w<n.ends.length
 ·rw[fO hw,fO hw];congr 2
  simp only[Bool.or_eq_true,Bool.and_eq_true,decide_eq_true_eq,eq_iff_iff]
  have:ai n w≠k:=fun h=>hr (by rw[<- h];exact nD hn hw)
  omega
 ·rw[List.getElem?_eq_none (by rw[eA];omega),List.getElem?_eq_none (by rw[eA];omega)]
theorem Dl {n:ak} (hn:al n=true) {k:Nat} (hk:k<n.ends.length):∃x,(gC n k 0)[k]?=some x/\(0<=x↔ai n k≠k):=by
 refine⟨_,fO hk,?_⟩
 have:=Dh hn hk
 by_cases h:ai n k=k
 ·rw[h];simp
 ·rw[if_pos (by simp;omega)];constructor
  ·intro _;exact h
  ·intro _;omega
theorem FQ {n:ak} (hn:al n=true) {k j:Nat} (hk:k<n.ends.length) (hj:j<n.ends.length) (hr:ai n k=k) (hd:0<=(bS n k).getD j 0):(gC n k j).set j (k:Int)=gC n k (j+1):=by
 have hl:=(tz hn hk hj hr).1 ((h_ hn hk hj).1 hd);apply List.ext_getElem?
 intro w
 by_cases hw:w<n.ends.length
 ·rw[List.getElem?_set,fO hw,fO hw,eA]
  by_cases e:j=w
  ·subst e;rw[if_pos rfl,if_pos hj,hl,if_pos (by simp)]
  ·rw[if_neg e];congr 2
   simp only[Bool.or_eq_true,Bool.and_eq_true,decide_eq_true_eq,eq_iff_iff];omega
 ·rw[List.getElem?_eq_none (by rw[List.length_set,eA];omega),List.getElem?_eq_none (by rw[eA];omega)]
theorem Dm {n:ak} (hn:al n=true) {k j:Nat} (hk:k<n.ends.length) (hj:j<n.ends.length) (hr:ai n k=k) (hd:¬0<=(bS n k).getD j 0):gC n k j=gC n k (j+1):=by
 have hl:ai n j≠k:=fun h=>hd ((h_ hn hk hj).2 ((tz hn hk hj hr).2 h))
 apply List.ext_getElem?
 intro w
 by_cases hw:w<n.ends.length
 ·rw[fO hw,fO hw];congr 2
  simp only[Bool.or_eq_true,Bool.and_eq_true,decide_eq_true_eq,eq_iff_iff]
  by_cases e:j=w
  ·subst e;omega
  ·omega
 ·rw[List.getElem?_eq_none (by rw[eA];omega),List.getElem?_eq_none (by rw[eA];omega)]
def I1 (W:World) (b:Nat) (x:Int):Prop:=W.heap[b]?=some (.cells #[.int .i64 x] 3)
theorem I1.cells {W:World} {b:Nat} {x:Int} (h:I1 W b x):W.cell? ⟨b,0,none⟩=some (.int .i64 x)/\W.frozen? ⟨b,0,none⟩=false:=by
 unfold I1 at h;simp[World.cell?,World.frozen?,h]
theorem I1.lt {W:World} {b:Nat} {x:Int} (h:I1 W b x):b<W.heap.size:=(Array.getElem?_eq_some_iff.1 h).1
theorem I1.since {W W':World} {b:Nat} {x:Int} (h:I1 W b x) (hs:aa W W'):I1 W' b x:=(hs.below.block b h.lt).trans h
theorem I1.set {W:World} {b:Nat} {x:Int} (h:I1 W b x) (y:Int):I1 (W.setCell ⟨b,0,none⟩ (.int .i64 y)) b y:=by
 unfold I1 at *
 simp[World.setCell,Array.getElem?_modify,h]
theorem I1.new (W:World) (x:Int):I1 (W.alloc (.cells #[.int .i64 x] 3)) W.heap.size x:=by
 show(W.heap.push _)[W.heap.size]?=_
 rw[Array.getElem?_push_size]
theorem MV (ev:Operand->Value) (d:Option Tmp) (ty:TypeId) (pos:String) (af:Array Edge) (W:World):(execOp ev ⟨d,.alloc 3,ty,pos,af,none⟩).run Tryz.prog W=.ok (.value (Qs W.heap.size)) (W.alloc (.cells #[.int .i64 0] 3)):=by
 unfold Qs
 go_simp
theorem J6 (ev:Operand->Value) (ty:TypeId) (pos:String) (af:Array Edge) (W:World) (p x:Operand) (b:Nat) (q1:Value) (y1:Int) (h1:ev p=Qs b) (h2:ev x=.int .i64 y1) (h3:W.cell? ⟨b,0,none⟩=some q1) (h5:W.frozen? ⟨b,0,none⟩=false):
  (execOp ev ⟨none,.store 3 p x,ty,pos,af,none⟩).run Tryz.prog W=.ok .skip (W.setCell ⟨b,0,none⟩ (.int .i64 y1)):=by
 unfold Qs at h1
 go_simp
theorem Dn {W:World} {base b:Nat} {u:Value} {xs:List Int} (h:Own W base u xs) (hd:u.ownBlock≠some b) (v:Value):Own (W.setCell ⟨b,0,none⟩ v) base u xs:=
 aK h fun k hk=>Below.heap_setCell W _ v k (fun e=>hd (by simp at hk;rw[hk,e]))
section
variable {ops : Array Oper}
theorem xd {Q:Exit->Act->World->Prop} {ME:Nat} {a:Act} {w w0:World} (m d x c s:Nat) (y:Int) (xs:List Int) (hm:Tryz.prog.follows .mixedOrders=true) (hf:wJ ops (m+4)=true) (eP:ops.size=m+4) (bB:aa w0 w) {oc:Oper} (s0:ops[m]?=some oc) (X_:oc.dst=some c)
  (s1:∃ty pos af,ops[m+1]?=some ⟨some d,.alloc 3,ty,pos,af,none⟩) (s2:∃ty pos af,ops[m+2]?=some ⟨none,.store 3 (.tmp d) (.tmp x),ty,pos,af,none⟩) (s3:∃ty pos af,ops[m+3]?=some ⟨some s,.assign (.tmp c),ty,pos,af,none⟩)
  (hx:x≠d/\x≠c/\x≠s) (hd:d<a.tmps.size) (hc:c<a.tmps.size)
  (h:lX Tryz.prog ops w0 (fun A=>A.eval (.tmp x)=.int .i64 y/\(Region.wanted oc (yielded ops A.tmps)=true/\∀W,aa w0 W->k_ Tryz.prog (fun W' u=>Own W' W.heap.size u xs) oc A W) /\
   ∀u b W,aa w0 W->Own W w0.heap.size u xs->I1 W b y->Q .normal (((A.put (some c) u).put (some d) (Qs b)).put (some s) u) W) (ops.toList.take m) a):(Code.region ME ops true).wp Tryz.prog Q a w:=by
 have gP:=rV hf;obtain⟨aec,F,h0,⟨tp,⟨ou,iH⟩,ir⟩,xe⟩:=rY _ a h
 have hlen:(ops.toList.take m).length=m:=by simp;omega
 rw[hlen]at tp ou iH ir
 have rW:∀i o,i<m->ops[i]?=some o->(ops.toList.take m)[i]?=some o:=fun i o hi ho=>by
  rw[List.getElem?_take,if_pos hi];simpa using ho
 obtain⟨ty1,ps1,af1,s1⟩:=s1;obtain⟨ty2,ps2,af2,s2⟩:=s2;obtain⟨ty3,ps3,af3,s3⟩:=s3
 have hF0:∀i,i<=m->aZ a ops aec (fun j=>j<i) (F i):=by
  intro i
  induction i with
  | zero=>intro _;rw[h0];exact⟨rfl,rfl,fun j _ _ hj=>absurd hj (by omega),fun _ _=>rfl⟩
  | succ i ih=>
   intro hi;have yC:i<ops.size:=by omega
   have ho:ops[i]?=some ops[i]:=Array.getElem?_eq_getElem yC;rw[(xe i _ (rW i _ (by omega) ho)).2]
   exact((ih (by omega)).put ho (fun j oj d hj fZ hd iq=>by
    have:=gP.aes i _ (by omega) ho j oj (by omega) fZ d hd iq
    omega)).same (fun j=>by show(j<i\/j=i)↔j<i+1;omega)
 let V:Value->Nat->Nat->Value:=fun u b j=>if j=m then u else if j=m+1 then Qs b else if j=m+3 then u else aec j
 have v0:∀u b,V u b m=u:=fun u b=>if_pos rfl
 have v1:∀u b,V u b (m+1)=Qs b:=fun u b=>by show(if m+1=m then _ else if m+1=m+1 then _ else _)=_;rw[if_neg (by omega),if_pos rfl]
 have v3:∀u b,V u b (m+3)=u:=fun u b=>by show(if m+3=m then _ else if m+3=m+1 then _ else if m+3=m+3 then _ else _)=_;rw[if_neg (by omega),if_neg (by omega),if_pos rfl]
 have vv:∀u b j,j<m->V u b j=aec j:=fun u b j hj=>by show(if j=m then _ else if j=m+1 then _ else if j=m+3 then _ else aec j)=_;rw[if_neg (by omega),if_neg (by omega),if_neg (by omega)]
 have hF:∀u b i,i<=m->aZ a ops (V u b) (fun j=>j<i) (F i):=fun u b i hi=>(hF0 i hi).aec (fun j hj=>(vv u b j (by omega)).symm)
 refine yS hm gP.back (fun D a' W=>aa w0 W/\∃u b,aZ a ops (V u b) D a'/\(D m->Own W w0.heap.size u xs)/\(D (m+1)->w0.heap.size<=b/\(D (m+2)->I1 W b y)/\(¬D (m+2)->I1 W b 0))/\(D m->D (m+1)->u.ownBlock≠some b)) ?_ ?_ ?_
 ·exact⟨aj bB,undef,0,⟨rfl,rfl,fun j _ _ hj=>hj.elim,fun _ _=>rfl⟩,fun h=>h.elim,fun h=>h.elim,fun h=>h.elim⟩
 ·rintro D a' W i o ⟨hW,u,b,j5,hO,hB,gM⟩ ho pR iX d9
  have eU:i<m+4:=by have:=(Array.getElem?_eq_some_iff.1 ho).1;omega
  have look:∀t∈o.looksAt ops,∀j oj,ops[j]?=some oj->oj.dst=some t->D j/\j<i:=fun t ht j oj fZ hd=>by
   have Fz:j<m+4:=by have:=(Array.getElem?_eq_some_iff.1 fZ).1;omega
   have:=gP.looks i o eU ho t ht j oj Fz fZ hd
   exact⟨iX j this,gP.back i o ho j this⟩
  have q8:∀j oj d,D j->ops[j]?=some oj->o.dst=some d->oj.dst≠some d:=fun j oj d hj fZ hd iq=>by
   have Fz:j<m+4:=by have:=(Array.getElem?_eq_some_iff.1 fZ).1;omega
   have:=gP.aes i o eU ho j oj Fz fZ d hd iq
   subst this;exact pR hj
  have Bm:∀j,(D j\/j=i)->j≠i->D j:=fun j h hj=>h.elim (fun h=>h) fun e=>absurd e hj
  rcases Nat.lt_or_ge i m with him | him
  ·obtain⟨⟨hw,dH⟩,-⟩:=xe i o (rW i o him ho);obtain⟨he,yW⟩:=gm (ops:=ops) (a':=a') (A:=F i) (fun t ht=>j5.agree (hF u b i (by omega)) t (fun j oj hj fZ hd=>look t ht j oj fZ hd)) (fun cs b=>gP.aeo i o cs b ho)
   rw[if_pos (yW.trans hw)];unfold Oper.wp;rw[he,dH W hW];refine⟨hW,u,b,?_,fun h=>hO (Bm _ h (by omega)),fun h=>?_,fun h h'=>gM (Bm _ h (by omega)) (Bm _ h' (by omega))⟩
   ·have:=j5.put (i:=i) ho q8
    rwa [vv u b i him]at this
   ·obtain⟨q1,q2,q3⟩:=hB (Bm _ h (by omega));exact⟨q1,fun h=>q2 (Bm _ h (by omega)),fun h=>q3 fun hh=>h (.inl hh)⟩
  ·obtain rfl | rfl | rfl | rfl:i=m\/i=m+1\/i=m+2\/i=m+3:=by omega
   ·rw[s0]at ho;cases ho
    obtain⟨he,yW⟩:=gm (ops:=ops) (a':=a') (A:=F i) (fun t ht=>j5.agree (hF u b i (Nat.le_refl _)) t (fun j oj hj fZ hd=>look t ht j oj fZ hd)) (fun cs b=>gP.aeo i _ cs b s0)
    rw[if_pos (yW.trans ou)];unfold Oper.wp;rw[he];have mE:=iH W hW;unfold k_ at mE;have n3:¬D (i+3):=fun h=>pR (d9 _ _ h s3 _ (gP.looks (i+3) _ (by omega) s3 c (by simp[Oper.looksAt,Op.operands]) i _ (by omega) s0 X_))
    have next:∀u' W',Own W' W.heap.size u' xs->aa W W'->aa w0 W'/\∃u b,aZ a ops (V u b) (fun j=>D j\/j=i) (a'.put oc.dst u')/\((D i\/i=i)->Own W' w0.heap.size u xs)/\((D (i+1)\/i+1=i)->w0.heap.size<=b/\((D (i+2)\/i+2=i)->I1 W' b y)/\(¬(D (i+2)\/i+2=i)->I1 W' b 0))/\((D i\/i=i)->(D (i+1)\/i+1=i)->u.ownBlock≠some b):=fun u' W' hr hs=>by
     refine⟨hW.after hs,u',b,?_,fun _=>hr.mono hW.below.size,fun h=>?_,fun _ h=>?_⟩
     ·have:=(j5.aem (v':=V u' b) (fun j Fz hj=>by
       rcases Nat.lt_or_ge j i with h | h
       ·rw[vv _ _ _ h,vv _ _ _ h]
       ·obtain rfl | rfl | rfl | rfl:j=i\/j=i+1\/j=i+2\/j=i+3:=by omega
        ·exact absurd hj pR
        ·rw[v1,v1]
        ·show(if i+2=i then _ else if i+2=i+1 then _ else if i+2=i+3 then _ else aec (i+2))=(if i+2=i then _ else if i+2=i+1 then _ else if i+2=i+3 then _ else aec (i+2))
         rw[if_neg (by omega),if_neg (by omega),if_neg (by omega),if_neg (by omega),if_neg (by omega),if_neg (by omega)]
        ·exact absurd hj n3)).put (i:=i) s0 q8
      rwa [v0]at this
     ·obtain⟨q1,q2,q3⟩:=hB (Bm _ h (by omega));exact⟨q1,fun h=>(q2 (Bm _ h (by omega))).since hs,fun h=>(q3 fun hh=>h (.inl hh)).since hs⟩
     ·obtain⟨q1,q2,q3⟩:=hB (Bm _ h (by omega))
      have qE:b<W.heap.size:=by
       by_cases h2:D (i+2)
       ·exact(q2 h2).lt
       ·exact(q3 h2).lt
      intro e
      have:=(World.ownsRow.lt hr b e).1
      omega
    generalize (execOp (F i).eval oc).run Tryz.prog W=r at mE ⊢
    cases r with
    | ok nx W'=>
     cases nx with
     | value u'=>exact next u' W' mE.1 mE.2
     | enter f args=>
      simp only at mE
      rw[Oper.upon_enter]
      exact mE.mono fun e oN ⟨u',FA,hr,hs⟩=>by subst FA;exact next u' oN hr hs
     | _=>exact mE.elim
    | halt x W'=>exact mE.elim
   ·rw[s1]at ho;cases ho
    rw[if_pos (show Region.wanted (⟨some d,.alloc 3,ty1,ps1,af1,none⟩:Oper) (yielded ops a'.tmps)=true from rfl)];unfold Oper.wp;rw[MV];have n2:¬D (m+2):=fun h=>pR (d9 _ _ h s2 _ (gP.looks (m+2) _ (by omega) s2 d (by simp[Oper.looksAt,Op.operands]) (m+1) _ (by omega) s1 rfl))
    refine⟨ag _ hW,u,W.heap.size,?_,fun h=>(hO (Bm _ h (by omega))).since (ag _ (ad _)),fun _=>⟨hW.below.size,fun h=>(n2 (Bm _ h (by omega))).elim,fun _=>I1.new W 0⟩,fun h _ e=>?_⟩
    ·have:=(j5.aem (v':=V u W.heap.size) (fun j Fz hj=>by
      rcases Nat.lt_or_ge j m with h | h
      ·rw[vv _ _ _ h,vv _ _ _ h]
      ·obtain rfl | rfl | rfl | rfl:j=m\/j=m+1\/j=m+2\/j=m+3:=by omega
       ·rw[v0,v0]
       ·exact absurd hj pR
       ·exact absurd hj n2
       ·rw[v3,v3])).put (i:=m+1) s1 q8
     rwa [v1]at this
    ·have:=(World.ownsRow.lt (hO (Bm _ h (by omega))) _ e).2
     omega
   ·rw[s2]at ho;cases ho
    rw[if_pos (show Region.wanted (⟨none,.store 3 (.tmp d) (.tmp x),ty2,ps2,af2,none⟩:Oper) (yielded ops a'.tmps)=true from rfl)];have hD1:D (m+1):=(look d (by simp[Oper.looksAt,Op.operands]) (m+1) _ s1 rfl).1;obtain⟨q1,q2,q3⟩:=hB hD1;have q:=q3 pR;obtain⟨c1,c2⟩:=q.cells
    have e1:a'.eval (.tmp d)=Qs b:=by
     have:=j5.on (m+1) _ d hD1 s1 rfl hd
     simp only[Act.eval,Array.getD_eq_getD_getElem?,this,Option.getD_some];exact v1 u b
    have e2:a'.eval (.tmp x)=.int .i64 y:=by
     rw[<- tp]
     have:=j5.agree (hF u b m (Nat.le_refl _)) x (fun j oj hj fZ yG=>⟨(look x (by simp[Oper.looksAt,Op.operands]) j oj fZ yG).1,by
      have Fu:=(look x (by simp[Oper.looksAt,Op.operands]) j oj fZ yG).2;rcases Nat.lt_or_ge j m with hh | hh
      ·exact hh
      ·exfalso
       obtain rfl | rfl:j=m\/j=m+1:=by omega
       ·rw[s0]at fZ;cases fZ
        rw[X_]at yG;exact hx.2.1 (Option.some.inj yG).symm
       ·rw[s1]at fZ;cases fZ
        exact hx.1 (Option.some.inj yG).symm⟩)
     simp[Act.eval,this]
    unfold Oper.wp;rw[J6 a'.eval _ _ _ W _ _ b _ y e1 e2 c1 c2];refine⟨Below.setCell hW q1 _,u,b,?_,fun h=>Dn (hO (Bm _ h (by omega))) (gM (Bm _ h (by omega)) hD1) _,fun _=>⟨q1,fun _=>q.set y,fun h=>(h (.inr rfl)).elim⟩,fun h _=>gM (Bm _ h (by omega)) hD1⟩
    exact j5.put (i:=m+2) s2 q8
   ·rw[s3]at ho;cases ho
    rw[if_pos (show Region.wanted (⟨some s,.assign (.tmp c),ty3,ps3,af3,none⟩:Oper) (yielded ops a'.tmps)=true from rfl)];have hD0:D m:=(look c (by simp[Oper.looksAt,Op.operands]) m _ s0 X_).1
    have e1:a'.eval (.tmp c)=u:=by
     have:=j5.on m _ c hD0 s0 X_ hc
     simp only[Act.eval,Array.getD_eq_getD_getElem?,this,Option.getD_some];exact v0 u b
    unfold Oper.wp
    have dH:(execOp a'.eval ⟨some s,.assign (.tmp c),ty3,ps3,af3,none⟩).run Tryz.prog W=.ok (.value u) W:=by
     rw[<- e1]
     generalize a'.eval=ev
     simp[execOp,go_sem]
    rw[dH];refine⟨hW,u,b,?_,fun h=>hO (Bm _ h (by omega)),fun h=>?_,fun h h'=>gM (Bm _ h (by omega)) (Bm _ h' (by omega))⟩
    ·have:=j5.put (i:=m+3) s3 q8
     rwa [v3]at this
    ·obtain⟨q1,q2,q3⟩:=hB (Bm _ h (by omega));exact⟨q1,fun h=>q2 (Bm _ h (by omega)),fun h=>q3 fun hh=>h (.inl hh)⟩
 ·rintro D a' W ⟨hW,u,b,j5,hO,hB,gM⟩ bZ
  have QH:∀i o,i<m+4->ops[i]?=some o->∀j oj d,j<i->ops[j]?=some oj->o.dst=some d->oj.dst≠some d:=fun i o hi ho j oj d hj fZ hd iq=>by
   have:=gP.aes i o hi ho j oj (by omega) fZ d hd iq
   omega
  have f1:=((hF u b m (Nat.le_refl _)).put (i:=m) s0 (fun j oj d hj fZ=>QH m _ (by omega) s0 j oj d hj fZ)).same (E:=fun j=>j<m+1) (fun j=>by show(j<m\/j=m)↔j<m+1;omega)
  have f2:=(f1.put (i:=m+1) s1 (fun j oj d hj fZ=>QH (m+1) _ (by omega) s1 j oj d hj fZ)).same (E:=fun j=>j<m+2) (fun j=>by show(j<m+1\/j=m+1)↔j<m+2;omega)
  have f3:=(f2.put (i:=m+2) s2 (fun j oj d hj fZ=>QH (m+2) _ (by omega) s2 j oj d hj fZ)).same (E:=fun j=>j<m+3) (fun j=>by show(j<m+2\/j=m+2)↔j<m+3;omega)
  have f4:=(f3.put (i:=m+3) s3 (fun j oj d hj fZ=>QH (m+3) _ (by omega) s3 j oj d hj fZ)).same (E:=fun j=>j<m+4) (fun j=>by show(j<m+3\/j=m+3)↔j<m+4;omega)
  have e:=j5.ext f4 (fun j hj=>⟨fun _=>by omega,fun _=>bZ j hj⟩)
  rw[e,v0,v1,v3,X_];exact ir u b W hW (hO (bZ m (by omega))) ((hB (bZ (m+1) (by omega))).2.1 (bZ (m+2) (by omega)))
end
theorem pU {W:World} {base b k:Nat} {u:Value} {xs:List Int} (h:Own W base u xs) (hd:u.ownBlock≠some b) (v:Value):Own (W.setCell ⟨b,k,none⟩ v) base u xs:=
 aK h fun j hj=>Below.heap_setCell W _ v j (fun e=>hd (by simp at hj;rw[hj,e]))
theorem iQ {ls:List Int} {v:Nat} (h:v<ls.length):ls[v]?=some (ls.getD v 0):=by rw[zDd,List.getElem?_eq_getElem h];rfl
theorem Bp {xs ys zs:List Int} {i:Nat} {x:Int} (h:zs=xs++ys) (hx:xs[i]?=some x):zs[i]?=some x:=by
 rw[h,List.getElem?_append_left (an hx)];exact hx
theorem i9 (ve vi vn:Value) (n:ak) (v:Nat) (w:World) (h:aQ w ve vi vn n) (hn:al n=true) (hv:v<n.ends.length):
  Calls Tryz.prog 166 #[.agg #[ve,vi,vn],.int .i64 v] w fun e w'=>∃u,e=.returned u/\Own w' w.heap.size u (bS n v)/\Below w.heap.size w w':=by
 have eS:=aE hn;have Hn:=zh hn
 obtain⟨w0,A,c,A2,c2,A3,c3,rfl,rfl,rfl,eV,hm,fJ,fB,HA,bK,aT,H,dL,dR,dU⟩:=zB h;clear h
 obtain⟨cA,Ya⟩:∃x,x=c:=⟨_,rfl⟩
 subst Ya;obtain⟨R,hR⟩:∃R,R=bS n v:=⟨_,rfl⟩
 have HR:=zh hR;rw[<- hR];have bB:aa w0 w0:=ad _;clear hn hR
 go_enter Tryz.func166,Tryz.ntmps166
 go_upto_region 1 with(fail);rw[<- bK.out]
 go_wp2_with (at_make;refine jp _ rfl _ _ rfl _ _ n.ends.length rfl rfl rfl rfl (by omega) ?_;intro w1 dT ay dV)
 obtain⟨g,hg⟩:∃g,g=w0.heap.size:=⟨_,rfl⟩
 rw[<- hg]at dT dV ⊢;have Hg:=zh hg;clear hg dV;go_wp2
 go_loopw [17] (fun i wr=>∃k:Nat,k<=n.ends.length/\i=.int .i64 k/\Own wr w0.heap.size (.slice (some ⟨g,0,none⟩) n.ends.length n.ends.length) (List.replicate k (-1)++List.replicate (n.ends.length-k) 0)/\aa w0 wr) (fun i _=>n.ends.length-(intOf i).toNat)
 case atStart=>exact⟨0,Nat.zero_le _,rfl,by have:=dT;simpa[Hg.out]using this,ay⟩
 case round=>
  obtain⟨k,hk,rfl,ho,hs⟩:=hrel;have Ho:=zh ho;have Hs:=zh hs;clear dT ay ho hs bB
  by_cases hlt:k<n.ends.length
  ·obtain⟨y,hy⟩:=aM (List.replicate k (-1:Int)++List.replicate (n.ends.length-k) 0) k (by simp;omega)
   have cz:=Ho.out.cell hy;have fz:=Ho.out.free k;clear hy;go_wp2;go_roundw
   case rel=>
    refine⟨k+1,by omega,by go_num,?_,Below.setCell Hs.out (by show w0.heap.size<=g;rw[Hg.out];exact Nat.le_refl _) _⟩
    have:=Ho.out.set (k:=k) (-1)
    have e:(List.replicate k (-1:Int)++List.replicate (n.ends.length-k) 0).set k (-1)=List.replicate (k+1) (-1)++List.replicate (n.ends.length-(k+1)) 0:=by
     rw[List.set_append_right _ _ (by simp),List.length_replicate,Nat.sub_self,show n.ends.length-k=(n.ends.length-(k+1))+1 by omega,List.replicate_succ,List.set_cons_zero,List.replicate_succ',List.append_assoc]
     rfl
    rwa [e]at this
   case measure=>simp[intOf];omega
  ·obtain rfl:k=n.ends.length:=by omega
   have eX:Hid (Own wr w0.heap.size (.slice (some ⟨g,0,none⟩) n.ends.length n.ends.length) (List.replicate n.ends.length (-1))):=by
    have:=Ho.out
    rwa [Nat.sub_self,List.replicate_zero,List.append_nil]at this
   have cz:=eX.out.cell (iQ (show v<(List.replicate n.ends.length (-1:Int)).length by simpa using hv))
   have fz:=eX.out.free v
   have P_:Hid (w0.heap.size<=g):=by rw[Hg.out];exact Nat.le_refl _
   obtain⟨w3,iR⟩:∃w3,w3=wr.setCell ⟨g,v,none⟩ (.int .i64 0):=⟨_,rfl⟩
   have i8:Hid (Own w3 w0.heap.size (.slice (some ⟨g,0,none⟩) n.ends.length n.ends.length) (bG n v).1):=by rw[iR];exact eX.out.set (k:=v) 0
   have ew:Hid (aa w0 w3):=by rw[iR];exact Below.setCell Hs.out P_.out _
   obtain⟨g2,lh⟩:∃g2,g2=wr.heap.size:=⟨_,rfl⟩
   have e3:w3.heap.size=wr.heap.size:=by rw[iR];simp
   obtain⟨w4,iC⟩:∃w4,w4=w3.alloc (.cells #[.int .i64 v] 3):=⟨_,rfl⟩
   have ut:Hid (Own w4 w0.heap.size (.slice (some ⟨g,0,none⟩) n.ends.length n.ends.length) (bG n v).1):=by rw[iC];exact i8.out.since (ag _ (ad _))
   have Hu4:Hid (Own w4 w0.heap.size (.slice (some ⟨g2,0,none⟩) (bG n v).2.length 1) (bG n v).2):=by
    rw[iC,lh,<- e3]
    have:=gU w3 [(v:Int)] (by simp[maxLen])
    exact this.mono ew.out.below.size
   have mG:Hid (aa w0 w4):=by rw[iC];exact ag _ ew.out
   have zJ:g2≠g:=by have:=(World.ownsRow.lt i8.out g rfl).2;omega
   clear e3;have xc:=zh iR;have J7:=zh iC;have Bq:=zh lh;clear iR iC lh;go_upto_region 9 with(fail);rw[<- xc.out,<- Bq.out,<- J7.out];clear cz fz;go_wp2
   go_loopw [7,8] (fun u i wr=>∃(f k:Nat) (st:List Int×List Int) (gu cu:Nat),i=.int .i64 k/\u=.slice (some ⟨gu,0,none⟩) st.2.length cu/\gu≠g/\BI n.ends.length st/\sj n f st k=R/\n.ends.length+1<=f+k/\k<=st.2.length/\Own wr w0.heap.size (.slice (some ⟨g,0,none⟩) n.ends.length n.ends.length) st.1/\Own wr w0.heap.size u st.2/\aa w0 wr) (fun _ i _=>n.ends.length+1-(intOf i).toNat)
   case atStart=>exact⟨n.ends.length+1,0,bG n v,g2,1,rfl,rfl,zJ,BI.start hv,HR.out.symm,by omega,Nat.zero_le _,ut.out,Hu4.out,mG.out⟩
   case round=>
    obtain⟨f,k,st,gu,cu,rfl,rfl,LQ,Do,zQ,hf,hk,ho,Yb,hs⟩:=hrel;have SO:=zh Do;have yT:=zh zQ;have Ho:=zh ho;have Ul:=zh Yb;have Hs:=zh hs;have s_:=Do.bd;clear Do zQ ho Yb hs zJ
    by_cases hlt:k<st.2.length
    ·obtain⟨f,rfl⟩:∃f',f=f'+1:=⟨f-1,by omega⟩
     obtain⟨x,hx⟩:=aM st.2 k hlt;have Bt:=SO.out.walk x (List.mem_of_getElem? hx);obtain⟨c,rfl⟩:=Int.eq_ofNat_of_zero_le Bt.1;have hc:c<n.ends.length:=by omega
     have cx:=ae (Ul.out.cell hx);have Um:=zh Bt
     have Yc:Hid (st.2.getD k 0=(c:Int)):=by show _=_;rw[zDd,hx];rfl
     have Hx:=zh hx;obtain⟨es,bW⟩:=aM n.ends c hc;obtain⟨vj,-⟩:=bX Hn.out bW;have kw:=zh bW;obtain⟨jH,tA⟩:∃s,s=eh n c:=⟨_,rfl⟩
     have qh:Hid (es.map (·.1)=jH):=by show _=_;rw[tA,eh,Int.toNat_natCast,zDd,bW];rfl
     have Un:Hid (∀y∈jH,0<=y/\y<n.ends.length):=by rw[tA];exact nB Hn.out Um.out
     have MW:=zh tA
     have Bl:jH.length<=6:=by rw[<- qh.out,List.length_map];exact vj
     have kG:Hid (∀W,aa wr W->Calls Tryz.prog 186 #[.agg #[.slice A n.ends.length cA,.slice A2 n.ids.length c2,.slice A3 n.aea.length c3],.int .i64 c] W fun e w'=>∃u,e=.returned u/\Own w' wr.heap.size u jH/\Below W.heap.size W w'):=fun W hW=>by
      have:=iZ _ _ _ n c es W (H.out.keep (Hs.out.after hW).below) kw.out (by omega)
      rw[qh.out]at this;exact this.mono fun e w' ⟨u,h1,h2,h3⟩=>⟨u,h1,h2.mono (aa.below hW).size,h3⟩
     have q0:=ah dL Hs.out;have q1:=ah dR Hs.out;have q2:=ah dU Hs.out;clear hx Bt bW tA;go_upto_region 12 with(fail);refine cH (w0:=wr) 8 [false,false,false,false,false,true,true,false] (by kernel_rfl) (by kernel_rfl) (ad _) ?_;simp only[eE,ea,zT]
     iterate 6 (apply aR rfl;(intro W hW;go_simp;with_reducible rfl);simp only[zA])
     intro W hW;refine Or.inl ⟨rfl,?_⟩
     go_simp
     (with_reducible refine(kG.out W hW).mono ?_)
     rintro e W' ⟨un,rfl,eY,hb⟩;refine⟨_,rfl,hW.trans hb,?_⟩
     replace hW:=hW.trans hb
     obtain⟨Bn,dn,rfl,_⟩:=id eY.ints
     (try simp only[zA])
     refine dG (v:=?_) rfl ?_ hW ?_;rotate_left;(go_simp;with_reducible rfl)
     simp only[zA];simp only[bz];have s9:=zh (eY.mono Hs.out.below.size);have Bv:=fun q hq=>(World.ownsRow.lt eY q hq).1
     have LR:(Value.slice Bn jH.length dn).ownBlock≠some g:=fun e=>by have:=Bv g e;have:=(World.ownsRow.lt Ho.out g rfl).2;omega
     have Yd:(Value.slice Bn jH.length dn).ownBlock≠some gu:=fun e=>by have:=Bv gu e;have:=(World.ownsRow.lt Ul.out gu rfl).2;omega
     have FR:=zh (Ho.out.since hW);have Uo:=zh (Ul.out.since hW);have nl:=zh (Hs.out.after hW);have Hng:=zh LR;have Hnu:=zh Yd;have SQ:Hid (∀j,∃ys,((jH.take j).foldl (ba c) st).2=st.2++ys):=fun j=>jQ _ _ _
     clear eY Bv LR Yd hW cx q0 q1 q2;go_wp2
     go_loopw [7,42] (fun u i wr=>∃(j gu cu:Nat) (dP:List Int×List Int),j<=jH.length/\i=.int .i64 j/\dP=(jH.take j).foldl (ba c) st/\u=.slice (some ⟨gu,0,none⟩) dP.2.length cu/\gu≠g/\BI n.ends.length dP/\Own wr w0.heap.size (.slice (some ⟨g,0,none⟩) n.ends.length n.ends.length) dP.1/\Own wr w0.heap.size u dP.2 /\
      Own wr w0.heap.size (.slice Bn jH.length dn) jH/\(Value.slice Bn jH.length dn).ownBlock≠some gu/\aa w0 wr) (fun _ i _=>jH.length-(intOf i).toNat)
     case atStart=>exact⟨0,gu,cu,st,Nat.zero_le _,rfl,rfl,rfl,LQ,SO.out,FR.out,Uo.out,s9.out,Hnu.out,nl.out⟩
     case round=>
      obtain⟨j,gv,cv,dP,hj,rfl,xe,rfl,mE,xf,lU,MX,MY,MM,MZ⟩:=hrel;have pg:=zh xf;have Dp:=zh lU;have Bw:=zh MX;have Bx:=zh MY;have LU:=zh MZ;have qj:=zh xe;have Uq:=zh MM;have Ye:=xf.bd;clear xe xf lU MX MY MZ MM LQ
      by_cases mH:j<jH.length
      ·obtain⟨y,hy⟩:=aM jH j mH;have M0:=Un.out y (List.mem_of_getElem? hy);obtain⟨d,rfl⟩:=Int.eq_ofNat_of_zero_le M0.1;have hd:d<n.ends.length:=by omega
       rcases Bx.out.cases with⟨-,e1⟩ | ⟨gn,cn,en,abI,abJ⟩
       ·rw[e1]at mH;simp at mH
       injection en with en1 en2 en3
       subst en1;have cy:=Bx.out.cell hy;have rN:dP.1.length=n.ends.length:=pg.out.len;have cd:=Dp.out.cell (iQ (show d<dP.1.length by omega))
       have fd:=Dp.out.free d;obtain⟨z,hz⟩:∃z,z=dP.1.getD d 0:=⟨_,rfl⟩
       rw[<- hz]at cd;have Hz:=zh hz;have Hy:=zh hy
       have oy:Hid ((jH.take (j+1)).foldl (ba c) st=ba c dP d):=by show _=_;rw[tu hy,<- qj.out]
       have LV:=zh rN;have m3:IntKind.i64.wrap ((j:Int)+1)=(j:Int)+1:=aF _ (by omega) (by omega);clear hz hy M0 rN en2 en3
       by_cases lP:z<0
       ·have d9:c<dP.1.length:=by rw[LV.out];exact hc
        obtain⟨q,hq⟩:∃q,q=dP.1.getD c 0:=⟨_,rfl⟩
        have cq:=Dp.out.cell (iQ d9);rw[<- hq]at cq
        have hqb : -1<=q/\q<dP.2.length:=by rw[hq];exact pg.out.val _ (List.mem_of_getElem? (iQ d9))
        obtain⟨ys,w_⟩:=SQ.out j
        have cw:=Bw.out.cell (Bp (show dP.2=st.2++ys by rw[qj.out];exact w_) Hx.out)
        have mh:k<dP.2.length:=an (Bp (show dP.2=st.2++ys by rw[qj.out];exact w_) Hx.out)
        have m4:IntKind.i64.wrap (q+1)=q+1:=aF _ (by omega) (by omega)
        have xg:Hid (ba c dP d=(dP.1.set d (q+1),dP.2++[(d:Int)])):=by show _=_;unfold ba;rw[Int.toNat_natCast,Int.toNat_natCast,<- Hz.out,if_pos lP,<- hq]
        have Yf:Hid (BI n.ends.length (ba c dP d)):=pg.out.step (by omega) (by omega);obtain⟨w5,rO⟩:∃w5,w5=wr.setCell ⟨g,d,none⟩ (.int .i64 (q+1)):=⟨_,rfl⟩
        have M1:Hid (Own w5 w0.heap.size (.slice (some ⟨g,0,none⟩) n.ends.length n.ends.length) (dP.1.set d (q+1))):=by rw[rO];exact Dp.out.set (k:=d) (q+1)
        have Dq:Hid (Own w5 w0.heap.size (.slice (some ⟨gv,0,none⟩) dP.2.length cv) dP.2):=by rw[rO];exact pU Bw.out (by simpa[Value.ownBlock]using mE) _
        have Dr:Hid (Own w5 w0.heap.size (.slice (some ⟨gn,0,none⟩) jH.length dn) jH):=by rw[rO];exact pU Bx.out Hng.out _
        have FS:Hid (aa w0 w5):=by rw[rO];exact Below.setCell LU.out P_.out _
        have J2:=zh rO;have IS:=zh mE
        have cJ:Hid (dP.2.length+1<=17592186044416):=by show _<=_;omega
        clear hq rO w_;go_upto_region 17 with(fail);rw[<- J2.out];clear cy cd fd cq cw m4
        go_wp2_with (at_builtin;refine lZ rfl _ _ rfl rfl (Dq.out.since (ag _ (ad _))) w5.heap.size d rfl (by simp[go_sem]) cJ.out (by have:=FS.out.below.size;simp;omega) ?_;intro g7 c7 w7 Yg IT vm _)
        change World.grownBy _ w7 (some gv)at IT
        change (some gv=some g7\/g7=_)at vm
        have J8:Hid (Own w7 w0.heap.size (.slice (some ⟨g,0,none⟩) n.ends.length n.ends.length) (dP.1.set d (q+1))):=Own.grown (M1.out.keep (am w5 _)) IT (fun x hx e=>by simp[Value.ownBlock]at hx;cases e;exact IS.out hx.symm)
        have Ur:Hid (Own w7 w0.heap.size (.slice (some ⟨gn,0,none⟩) jH.length dn) jH):=Own.grown (Dr.out.keep (am w5 _)) IT (fun x hx e=>by cases e;exact Uq.out hx)
        have Us:Hid (Own w7 w0.heap.size (.slice (some ⟨g7,0,none⟩) (dP.2.length+1) c7) (dP.2++[(d:Int)])):=Yg;have M2:=zh (World.ownsRow.lt M1.out g rfl).2;have Ut:=zh (World.ownsRow.lt Dr.out gn rfl).2
        have Yh:Hid (g7≠g):=by
         rcases vm with e | e
         ·cases e;exact IS.out
         ·simp at e;exact fun e2=>by have:=M2.out;omega
        have Uu:Hid ((Value.slice (some ⟨gn,0,none⟩) jH.length dn).ownBlock≠some g7):=by
         rcases vm with e | e
         ·cases e;exact Uq.out
         ·simp at e;exact fun e2=>by simp[Value.ownBlock]at e2;have:=Ut.out;omega
        have FT:Hid (aa w0 w7):=Below.grown (show Below w0.heap.size w0 _ from ag _ FS.out) IT (by have:=FS.out.below.size;simp;omega) (fun x hx=>by cases hx;exact(World.ownsRow.lt Dq.out gv rfl).1)
        clear Yg IT vm;go_wp2;go_roundw
        case rel=>exact⟨j+1,g7,c7,ba c dP d,by omega,by go_num,oy.out.symm,by rw[xg.out];simp,Yh.out,Yf.out,by rw[xg.out];exact J8.out,by rw[xg.out];exact Us.out,Ur.out,Uu.out,FT.out⟩
        case measure=>simp[intOf];omega
       ·have Ds:Hid (ba c dP d=dP):=by show _=_;unfold ba;rw[Int.toNat_natCast,<- Hz.out,if_neg lP]
        go_wp2;go_roundw
        case rel=>exact⟨j+1,gv,cv,dP,by omega,by go_num,by rw[oy.out,Ds.out],rfl,mE,pg.out,Dp.out,Bw.out,Bx.out,Uq.out,LU.out⟩
        case measure=>simp[intOf];omega
      ·obtain rfl:j=jH.length:=by omega
       have rc:Hid (dP=jH.foldl (ba c) st):=by show _=_;rw[qj.out,List.take_length]
       have Yi:Hid (sj n f dP (k+1)=R):=by
        show _=_
        rw[<- yT.out,sj,if_pos hlt,Yc.out,<- MW.out,<- rc.out]
       have Uv:Hid (k+1<=dP.2.length):=by
        obtain⟨ys,w_⟩:=SQ.out jH.length;show _<=_
        rw[qj.out,w_,List.length_append];omega
       have m3:IntKind.i64.wrap ((k:Int)+1)=(k:Int)+1:=aF _ (by omega) (by omega);go_wp2;go_roundw
       case rel=>exact⟨f,k+1,dP,gv,cv,by go_num,rfl,mE,pg.out,Yi.out,by omega,Uv.out,Dp.out,Bw.out,LU.out⟩
       case measure=>simp[intOf];omega
    ·have Yj:Hid (R=st.1):=by
      rw[<- yT.out]
      obtain⟨f,rfl⟩ | h0:(∃f',f=f'+1)\/f=0:=by
       rcases Nat.eq_zero_or_pos f with h | h
       ·exact .inr h
       ·exact .inl ⟨f-1,by omega⟩
      ·show sj _ _ _ _=_
       rw[sj,if_neg hlt]
      ·subst h0;exact rfl
     go_wp2;go_ret
     exact⟨_,rfl,by rw[Yj.out];exact Ho.out.mono aT.out.size,aa.after aT.out Hs.out⟩
end Go.Proofs.YtgmdpppljkmabaaGreat
