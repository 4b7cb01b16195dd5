/- Parts of the proof: walks of functions and plain laws. -/
import Derived.Test.YtnioemnkfojmkaaGreatP14
set_option maxRecDepth 100000
set_option maxHeartbeats 16000000
namespace Go.Proofs.YtnioemnkfojmkaaGreat
open Go Go.RowKit
theorem fQ {w:World} {ops:Array Oper} {rest:List Oper} {o:Oper} {a:Act} {Q:Exit->Act->World->Prop} (gT:o.guard=none) (s x:Operand)
  (ho:o.op=.call { callee:=.builtin .append,args:=#[s,x],argTypes:=#[28,28] }) {base:Nat} {v u:Value} {xs ys:List Int} (hs:a.eval s=v) (h:Own w base v xs) (hx:a.eval x=u) (hu:bs w u ys) (hl:xs.length+ys.length<=17592186044416) (mz:base<=w.heap.size)
  (k:∀v' w' T,mx w' base v' (xs++ys) T->aV v.ownBlock.toList w w'->(∀j∈T,j∈v.ownBlock.toList\/w.heap.size<=j)->wpList Tryz.prog ops Q rest (a.put o.dst v') w'):wpList Tryz.prog ops Q (o::rest) a w:=by
 obtain⟨A,c,rfl,fR,hm,hA⟩:=hu;rcases Zbk ys.length with h0 | h0
 ·obtain rfl:ys=[]:=Zae h0
  refine DB gT s x ho hs h A c hx ?_;exact k v w _ ⟨by simpa using h,rfl⟩ (aV.refl _ _) (fun j hj=>.inl hj)
 ·obtain⟨y0,PQ⟩:=au ys 0 h0;obtain⟨b,off,rfl,_⟩:=hA 0 y0 PQ
  refine Gw gT s x ho hs h b off c ys hx (fun j y hj=>by
   obtain⟨b',nf,e,hc⟩:=hA j y hj;cases e
   exact hc) h0 hl mz ?_
  intro g cap w' h1 h2 h3 h4;refine k _ w' [g] ⟨h1,by simp[Value.ownBlock]⟩ (aV.agZ h2) (fun j hj=>?_)
  simp at hj
  subst hj;rcases h3 with h3 | h3
  ·left;rw[h3];simp
  ·right;omega
theorem ya (ve vi vn ue ui un:Value) (a b:ao) (w:World) (h:aR w ve vi vn a) (h':aR w ue ui un b) (ha:tO a) (hb:tO b) (Wu:Vg b):
  Calls Tryz.prog 104 #[.agg #[ve,vi,vn],.agg #[ue,ui,un]] w (tB w (iN a b)):=by
 obtain⟨A1,c1,rfl,qs,qQ,-⟩:=id h.1;obtain⟨AI,cI,rfl,-,-,-⟩:=id h.2.1;obtain⟨AN,cN,rfl,-,-,-⟩:=id h.2.2;obtain⟨B1,d1,rfl,CK,gC,-⟩:=id h'.1;obtain⟨BI,dI,rfl,-,-,-⟩:=id h'.2.1;obtain⟨BN,dN,rfl,-,-,-⟩:=id h'.2.2;unfold maxLen at qQ gC;obtain⟨w0,bj⟩:=J_ ((w.alloc (.cells #[.slice A1 a.ends.length c1,.slice AI a.ids.length cI,.slice AN a.agT.length cN] 30)).alloc (.cells #[.slice B1 b.ends.length d1,.slice BI b.ids.length dI,.slice BN b.agT.length dN] 30))
 obtain⟨wa,mF⟩:=J_ (w0.alloc (.cells #[.slice none 0 0,.slice none 0 0,.slice none 0 0] 30))
 have aK:ab w w0:=by rw[bj];exact ad _ (ad _ (aa _))
 have pQ:ab w0 wa:=by rw[mF];exact ad _ (aa _)
 have pL:w0.heap.size=w.heap.size+1+1:=by rw[bj];simp
 have p0:∀W,ab w0 W->W.cell? ⟨w.heap.size,0,none⟩=some (.slice A1 a.ends.length c1):=ae (by rw[bj];simp)
 have p1:∀W,ab w0 W->W.cell? ⟨w.heap.size,1,none⟩=some (.slice AI a.ids.length cI):=ae (by rw[bj];simp)
 have p2:∀W,ab w0 W->W.cell? ⟨w.heap.size,2,none⟩=some (.slice AN a.agT.length cN):=ae (by rw[bj];simp)
 have q0:∀W,ab w0 W->W.cell? ⟨w.heap.size+1,0,none⟩=some (.slice B1 b.ends.length d1):=ae (by rw[bj];simp)
 have q1:∀W,ab w0 W->W.cell? ⟨w.heap.size+1,1,none⟩=some (.slice BI b.ids.length dI):=ae (by rw[bj];simp)
 have q2:∀W,ab w0 W->W.cell? ⟨w.heap.size+1,2,none⟩=some (.slice BN b.agT.length dN):=ae (by rw[bj];simp)
 obtain⟨HA,HB⟩:=A_ (show ∀X,ab w0 X->aR X (.slice A1 a.ends.length c1) (.slice AI a.ids.length cI) (.slice AN a.agT.length cN) a from fun X hX=>h.agU (aK.after hX).below) (show ∀X,ab w0 X->aR X (.slice B1 b.ends.length d1) (.slice BI b.ids.length dI) (.slice BN b.agT.length dN) b from fun X hX=>h'.agU (aK.after hX).below)
 have Ap:Hid (∀X,ab wa X->bD X (w.heap.size+1+1) (.slice none 0 0) (.slice none 0 0) (.slice none 0 0)):=fun X hX=>by
  refine bD.since (W:=wa) ?_ hX;rw[mF,<- pL];show(w0.heap.push _)[w0.heap.size]?=_
  rw[Zbc]
 have GR:Hid (wa.heap.size=w.heap.size+1+1+1):=by show _=_;rw[mF,<- pL];simp
 obtain⟨cD,Kr,ic,py,PY,EJ,Hwf⟩:=F_ bj mF aK pQ ha hb Wu;clear Wu;clear bj aK h h' mF pQ pL ha hb
 go_enter Tryz.func104,Tryz.ntmps104
 go_upto_region 1 with(fail);rw[<- cD.out,<- Kr.out];have a0:=p0 wa py;have a1:=p1 wa py;have a2:=p2 wa py;go_wp2_with fail;refine(mi _ _ _ a wa (HA wa py) PY.ends PY.row PY.sz).mono ?_;rintro e w1 ⟨we,wi,wn,S,rfl,ho,aP⟩;obtain⟨E1,e1,rfl,-,-,-⟩:=id ho.read.1;obtain⟨EI,eI,rfl,-,-,-⟩:=id ho.read.2.1;obtain⟨EN,eN,rfl,-,-,-⟩:=id ho.read.2.2;obtain⟨w2,ip⟩:=J_ (w1.alloc (.cells #[.slice E1 a.ends.length e1,.slice EI a.ids.length eI,.slice EN a.agT.length eN] 30))
 obtain⟨bo,kv⟩:=J_ w1.heap.size
 have dw:ab wa w1:=aP
 have qT:ab w1 w2:=by rw[ip];exact ad _ (aa _)
 have H9:bB w2 bo (.slice E1 a.ends.length e1) (.slice EI a.ids.length eI) (.slice EN a.agT.length eN):=by rw[ip,kv];exact bB.new _ _ _ _ _
 have Ke:bo∉S:=fun hj=>zX ((ho.range _ hj).2)
 obtain⟨yH,yF,Aq,rc,FU,eU⟩:=E_ ip kv (ho.agU qT.below) H9 Ke (dw.after qT);have wX:ab w0 w2:=py.after eU;have b1:=q1 w2 wX;have WH:=zh wX
 have Ib:Hid (wa.heap.size<=bo/\bo<w2.heap.size):=⟨by rw[kv];exact dw.below.size,by rw[ip,kv];simp⟩
 obtain⟨k0,k1,k2,f0,f1,f2⟩:=H9.cells;clear ip kv ho H9 Ke dw qT aP a0 a1 a2 wX;go_upto_region 2 with(fail);rw[<- yH.out,<- yF.out];obtain⟨S1,S2,S3,-,yz,-,Cq,-⟩:=id Aq.out;obtain⟨Hi2,Cm⟩:=A_ yz Cq;clear yz Cq
 have Yy:a.ids.length+b.ids.length<=17592186044416:=by have h1:=PY.sz;have h2:=EJ.sz;unfold qm at h1 h2;omega
 have zU:a.agT.length+b.agT.length<=17592186044416:=by have h1:=PY.sz;have h2:=EJ.sz;unfold qm at h1 h2;omega
 obtain⟨NY,Sy⟩:=A_ Yy zU;clear Yy zU
 have aeC:Hid (bo∉(Value.slice EI a.ids.length eI).ownBlock.toList):=fun hm=>FU (by rw[Cm.out];rw[<- Hi2.out.2]at hm;exact Zao _ (Zax _ hm))
 go_upto_region 3 with(at_builtin;refine fQ (base:=wa.heap.size) rfl _ _ rfl rfl Hi2.1 rfl (HB w2 WH).2.1 NY eU.below.size ?_;intro v' w3 T gZ Kx hT3;obtain⟨V,mV,cV,rfl⟩:=fT.one gZ;have Ga:bB w3 bo (.slice E1 a.ends.length e1) (.slice EI a.ids.length eI) (.slice EN a.agT.length eN):=rc.blk (Kx.block bo Ib.2 aeC);clear k0 k1 k2 f0 f1 f2;obtain⟨k0,k1,k2,f0,f1,f2⟩:=Ga.cells)
 obtain⟨w4,km⟩:=J_ (w3.setCell ⟨bo,1,none⟩ (.slice V mV cV))
 rw[<- km];obtain⟨S',OW,EV⟩:=Aq.ahd gZ Kx hT3
 have hn4:bo∉S':=fun hj=>by
  rcases EV _ hj with h | h
  ·exact FU h
  ·have:=Ib.out;omega
 have HO4:Hid (aw w4 wa.heap.size (.slice E1 a.ends.length e1) (.slice V mV cV) (.slice EN a.agT.length eN) { a with ids:=a.ids++b.ids } S'):=by show aw _ _ _ _ _ _ _;rw[km];exact OW.agV (fun k hk=>Zan _ _ _ _ (fun e=>hn4 (by have e':k=bo:=e;exact e' ▸ hk)))
 have GK:Hid (bB w4 bo (.slice E1 a.ends.length e1) (.slice V mV cV) (.slice EN a.agT.length eN)):=by show bB _ _ _ _ _;rw[km];exact Ga.ahh
 have X9:=zh hn4
 have kD:Hid (ab wa w4):=by
  show Below _ _ _
  rw[km];refine Below.setCell (Zbw eU.out (Kx.below _ eU.out.below.size (fun j hj=>?_))) Ib.out.1 _
  have CE:j∈S2:=by rw[Hi2.out.2];exact hj
  exact(Aq.range j (by rw[Cm.out];exact Zao _ (Zax _ CE))).1
 have act:bo<w4.heap.size:=GK.lt;obtain⟨S1',S2',S3',-,-,hi3,hS3,-⟩:=id HO4.out;obtain⟨Hi3,Vi,acu,acv⟩:=C_ hi3 hS3 act (py.out.after kD.out)
 have aeD:Hid (bo∉(Value.slice EN a.agT.length eN).ownBlock.toList):=fun hm=>X9 (by rw[Vi.out];rw[<- Hi3.out.2]at hm;exact Zao _ (Zao _ hm))
 clear km OW EV hn4 Ga gZ Kx hT3 k0 k1 k2 f0 f1 f2 hi3 hS3 act;have b2:=q2 w4 acv;obtain⟨k0,k1,k2,f0,f1,f2⟩:=GK.cells;clear b1
 go_upto_region 4 with(at_builtin;refine fQ (base:=wa.heap.size) rfl _ _ rfl rfl Hi3.1 rfl (HB w4 acv).2.2 Sy kD.below.size ?_;intro v' w5 T5 qy Is hT5;obtain⟨V5,Yz,YA,rfl⟩:=fT.one qy;have hB5:bB w5 bo (.slice E1 a.ends.length e1) (.slice V mV cV) (.slice EN a.agT.length eN):=GK.blk (Is.block bo acu aeD);clear k0 k1 k2 f0 f1 f2;obtain⟨k0,k1,k2,f0,f1,f2⟩:=hB5.cells)
 obtain⟨w6,WI⟩:=J_ (w5.setCell ⟨bo,2,none⟩ (.slice V5 Yz YA))
 rw[<- WI];obtain⟨S6,OW,EV⟩:=HO4.ahi qy Is hT5
 have iz:bo∉S6:=fun hj=>by
  rcases EV _ hj with h | h
  ·exact X9 h
  ·have:=acu.out;omega
 have HO6:Hid (aw w6 wa.heap.size (.slice E1 a.ends.length e1) (.slice V mV cV) (.slice V5 Yz YA) { a with ids:=a.ids++b.ids,agT:=a.agT++b.agT } S6):=by show aw _ _ _ _ _ _ _;rw[WI];exact OW.agV (fun k hk=>Zan _ _ _ _ (fun e=>iz (by have e':k=bo:=e;exact e' ▸ hk)))
 have HB6:Hid (bB w6 bo (.slice E1 a.ends.length e1) (.slice V mV cV) (.slice V5 Yz YA)):=by show bB _ _ _ _ _;rw[WI];exact hB5.ahe
 have HN6:=zh iz
 have C1:Hid (ab wa w6):=by
  show Below _ _ _
  rw[WI];refine Below.setCell (Zbw kD.out (Is.below _ kD.out.below.size (fun j hj=>?_))) Ib.out.1 _
  have CE:j∈S3':=by rw[Hi3.out.2];exact hj
  exact(HO4.range j (by rw[Vi.out];exact Zao _ (Zao _ CE))).1
 have aeE:=zh (py.out.after C1.out);clear WI OW EV iz hB5 qy Is hT5 k0 k1 k2 f0 f1 f2 b2 p1 p2 q1 q2;have b0:=q0 w6 aeE;have yq:=C1.out;go_wp2;clear b0;obtain⟨W6,rfl⟩:=J_ w6
 go_loopw [28] (fun i wr=>∃(k:Nat) (v:Value) (S:List Nat),k<=b.ends.length/\i=.int .i64 k/\aw wr wa.heap.size v (.slice V mV cV) (.slice V5 Yz YA) ⟨a.ends++(b.ends.take k).map (List.map (iB a.ends.length)),a.ids++b.ids,a.agT++b.agT⟩ S/\bo∉S/\bB wr bo v (.slice V mV cV) (.slice V5 Yz YA)/\ab wa wr) (fun i _=>b.ends.length-(intOf i).toNat)
 case atStart=>exact⟨0,_,S6,Zac _,rfl,by have:=HO6.out;simpa using this,HN6.out,HB6.out,C1.out⟩
 case round=>
  obtain⟨k,v,S7,hk,rfl,eB,nt,dK,eD⟩:=hrel
  obtain⟨AV,mAV,cAV,rfl⟩:∃A m c,v=.slice A m c:=by obtain⟨A,c,hv,-⟩:=eB.read.1;exact⟨A,_,c,hv⟩
  obtain⟨Cs,NS,uZ,qu⟩:=C_ eB nt dK eD;have aao:=py.after eD;have acw:=zh aao;clear eB nt dK eD yq;obtain⟨wo,rfl⟩:=J_ wr
  by_cases aA:k<b.ends.length
  ·obtain⟨es,aU⟩:=au b.ends k aA;obtain⟨g0,o0,cr,ur,JV,-,dk,hE1⟩:=iK (HB w0 (aa _)).es aU;cases JV;obtain⟨A9,y9,rfl,dP,dY,hA9⟩:=hE1;unfold maxLen at dY;have r1:=ae dk wo aao;obtain⟨HA9,ni⟩:=A_ hA9 aU;have gM:es.length<=1000:=EJ.row _ _ aU
   have m1:IntKind.i64.wrap ((k:Int)+1)=(k:Int)+1:=bU _ zO (by have h1:=EJ.ends;omega)
   clear hA9 dk aU aao;go_upto_region 9 with(fail);clear r1
   go_loopw [8,34] (fun u i wr=>∃(j:Nat) (T:List Nat),j<=es.length/\i=.int .i64 j/\eE wr wo.heap.size u ((es.take j).map (iB a.ends.length)) T/\ab wo wr) (fun _ i _=>es.length-(intOf i).toNat)
   case atStart=>exact⟨0,[],Zac _,rfl,uI _ _,aa _⟩
   case round=>
    obtain⟨j,T,hj,rfl,Qt,xS⟩:=hrel;obtain⟨AU,mU,cU,rfl⟩:=gY.one Qt;obtain⟨Jv,oy⟩:=A_ Qt xS;clear Qt
    by_cases FR:j<es.length
    ·obtain⟨e,he⟩:=au es j FR;obtain⟨x,y,fs,rfl,hfs,Qc⟩:=Hwf k es ni e (Zaq he);obtain⟨g1,o1,rfl,t1,t2⟩:=HA9 j _ he;have WJ:=acw.after oy;have t1':=ae t1 wr WJ;have t2':=ae t2 wr WJ;have ou:x<b.ends.length:=ah hfs
     have m2:IntKind.i64.wrap ((x:Int)+(a.ends.length:Int))=(x:Int)+(a.ends.length:Int):=bU _ zO (by have h1:=PY.ends;have h2:=EJ.ends;omega)
     have m3:=zw j;obtain⟨w8,lz⟩:=J_ (wr.alloc (.cells #[.int .i64 (x:Int),.int .i64 (y:Int)] 104))
     obtain⟨eb,tG⟩:=J_ wr.heap.size
     have h8:ab wr w8:=by rw[lz];exact ad _ (aa _)
     have v1:w8.cell? ⟨eb,0,none⟩=some (.int .i64 (x:Int)):=by rw[lz,tG];simp
     have v2:w8.cell? ⟨eb,1,none⟩=some (.int .i64 (y:Int)):=by rw[lz,tG];simp
     have v3:=p0 w8 (WJ.after h8);obtain⟨KF,Wm⟩:=A_ lz tG;have j6:Hid (ab wo w8):=oy.after h8;have vT:Hid (eE w8 wo.heap.size (.slice AU mU cU) ((es.take j).map (iB a.ends.length)) T):=gY.agU Jv h8.below
     have xC:Hid (((es.take j).map (iB a.ends.length)).length+1<=1000000):=by show _<=_;rw[List.length_map,Zby];omega
     have ym:Hid ((es.take (j+1)).map (iB a.ends.length)=(es.take j).map (iB a.ends.length)++[((x:Int)+(a.ends.length:Int),(y:Int))]):=by show _=_;rw[bJ he,List.map_append];rfl
     clear lz tG h8 WJ t1 t2 he hfs xS;go_upto_region 11 with(fail);rw[<- KF.out,<- Wm.out];clear t1' t2'
     go_upto_region 12 with(at_builtin;refine lf (base:=wo.heap.size) (v:=.slice AU mU cU) (xs:=(es.take j).map (iB a.ends.length)) (T:=T) rfl _ _ rfl rfl (gY.agU vT (am _ _)) w8.heap.size ((x:Int)+(a.ends.length:Int),(y:Int)) rfl zS zS xC (by have:=j6.below.size;simp;omega) ?_;intro g9 ON w9 gj vV C4)
     have yK:=zh gj
     have yL:Hid (ab wo w9):=Below.grown (ad _ j6) vV (by have:=j6.below.size;simp;omega) (fun q hq=>(gY.range vT.out q (by rw[vT.out.2,hq];simp)).1)
     clear gj vV C4 v1 v2 v3;go_wp2;go_roundw
     exact⟨j+1,[g9],zO,zN,by rw[ym.out];have h9:=yK.out;rw[show((es.take j).map (iB a.ends.length)).length=j by rw[List.length_map,Zby];omega]at h9;simpa using h9,yL.out⟩
     simp[intOf];omega
    ·obtain rfl:j=es.length:=zO
     have r_:bB wr bo (.slice AV mAV cAV) (.slice V mV cV) (.slice V5 Yz YA):=uZ.below oy.below uZ.lt
     have aG:Hid (eE wr wo.heap.size (.slice AU mU cU) (es.map (iB a.ends.length)) T):=by have h9:=Jv.out;rw[Zbq]at h9;exact h9
     have V3:Hid (∀q,(Value.slice AV mAV cAV).ownBlock=some q->wa.heap.size<=q):=fun q hq=>by
      obtain⟨S1,S2,S3,h1,-,-,h4,-⟩:=id Cs.out;obtain⟨vs,Ss,-,-,-,e4,-⟩:=id h1
      exact(Cs.range q (by rw[h4,e4,hq];simp)).1
     have abF:Hid (∀j∈T,j∉S7):=fun j hj hS=>by have h1:=(gY.range Jv j hj).1;have h2:=(Cs.range j hS).2;omega
     have Cj:Hid ((a.ends++(b.ends.take k).map (List.map (iB a.ends.length))).length+1<=1000000):=by show _<=_;rw[Zay,List.length_map,Zby];have h1:=PY.ends;have h2:=EJ.ends;omega
     have Fl:Hid (wa.heap.size<=wo.heap.size):=qu.below.size;have hwq:Hid (ab wa wr):=qu.after oy;have FM:=zh r_;obtain⟨k0,k1,k2,f0,f1,f2⟩:=r_.cells;clear r_ xS
     go_upto_region 14 with(at_builtin;refine rg (wT:=wa) (base:=wa.heap.size) (v:=.slice AV mAV cAV) (u:=.slice AU mU cU) (T:=T) (es:=es.map (iB a.ends.length)) rfl _ _ rfl rfl ((Cs.agU oy.below).agU (am _ _)) wr.heap.size rfl zS (gY.mono (gY.agU aG (am _ _)) Fl) abF Cj (ad _ hwq) (by have:=hwq.below.size;simp;omega) V3.out ?_;intro v8 w8 S8 hv8 SK YB It kK;obtain⟨A8,m8,c8,rfl⟩:∃A m c,v8=Value.slice A m c:=(by obtain⟨A,c,hv,-⟩:=SK.read.1;exact⟨A,_,c,hv⟩);have yS:bB w8 bo (.slice AV mAV cAV) (.slice V mV cV) (.slice V5 Yz YA):=((FM.alloc _).blk (It.block bo (by have:=FM.lt;simp;omega) NS.out));clear k0 k1 k2 f0 f1 f2;obtain⟨k0,k1,k2,f0,f1,f2⟩:=yS.cells)
     have aap:bo∉S8:=fun hm=>by
      rcases YB bo hm with h | h | h
      ·exact NS h
      ·have h1:=(gY.range Jv bo h).1;have h2:=uZ.lt;omega
      ·have h2:=FM.lt;simp at h;omega
     have YC:a.ends++(b.ends.take (k+1)).map (List.map (iB a.ends.length))=(a.ends++(b.ends.take k).map (List.map (iB a.ends.length)))++[es.map (iB a.ends.length)]:=by
      rw[bJ ni.out,List.map_append,List.append_assoc];rfl
     have Hl9:=zh YC
     have Hn9:=zh (SK.agV (w':=w8.setCell ⟨bo,0,none⟩ (.slice A8 m8 c8)) (fun q hq=>Zan _ _ _ _ (fun e=>aap (by have e':q=bo:=e;exact e' ▸ hq))))
     obtain⟨vC,yL,aeF⟩:=B_ (yS.ahb (u:=.slice A8 m8 c8)) (Below.setCell kK (p:=⟨bo,0,none⟩) Ib.out.1 (.slice A8 m8 c8)) aap;clear aap YC SK yS kK It YB hv8 k0 k1 k2 f0 f1 f2;go_wp2;go_roundw
     exact⟨k+1,_,S8,zO,zN,by rw[Hl9.out];exact Hn9,aeF,vC,yL⟩
     simp[intOf];omega
  ·obtain rfl:k=b.ends.length:=zO
   have gP:=Ap wo qu;obtain⟨k0,k1,k2,-,-,-⟩:=uZ.cells;obtain⟨e0,OX,e2,f0,f1,f2⟩:=gP.box.cells;clear gP;go_wp2;refine bodyPost_ret (v:=.agg #[.slice AV mAV cAV,.slice V mV cV,.slice V5 Yz YA]) (by simp[results,Tryz.results104,go_sem, *]) rfl ?_;have hza:=GR.out;have h9:=Cs.out;rw[Zbq]at h9;refine⟨_,_,_,S7,rfl,(h9.agV (fun j hj=>?_)).mono zO,?_⟩
   ·have zZ:=(h9.range j hj).1;rw[Zan _ _ _ j (by simp;omega),Zan _ _ _ j (by simp;omega),Zan _ _ _ j (by simp;omega)]
   ·have hk:Below w.heap.size w wo:=Zbw ic.below (acw.below.mono ic.below.size)
    exact((hk.setCell (by simp;omega) _).setCell (by simp;omega) _).setCell (by simp;omega) _
theorem Gd.ahs {R M:Nat} {n:ao} {v u:Nat} (h:Gd R M n) (hv:v<n.ends.length) (hu:u<n.ends.length) (h1:(bZ n v).length<=4) (h2:(bZ n u).length<=4) (hR:6<=R):Gd R M (dR n v u):=by
 refine⟨by rw[ey];exact h.ends,fun k es hk=>?_,h.ids,by rw[ey];exact h.agT,yQ h.wf hv hu⟩
 have h3:=rF hk
 have oV:k<n.ends.length:=by have:=ah hk;rwa [ey]at this
 rw[<- h3,li hv hu];have h4:=h.row k _ (df oV)
 by_cases a:k=u
 ·subst a
  by_cases b:k=v
  ·subst b;rw[if_pos rfl];omega
  ·rw[if_pos rfl,if_neg b];omega
 ·rw[if_neg a]
  by_cases b:k=v
  ·subst b;rw[if_pos rfl];omega
  ·rw[if_neg b];omega
theorem Gd.aht {R M:Nat} {n:ao} {v:Nat} (h:Gd R M n) (hv:v<n.ends.length) (h1:(bZ n v).length<=4) (hR:6<=R):Gd R M (mK n v):=by
 refine⟨by rw[vz];exact h.ends,fun k es hk=>?_,h.ids,by rw[vz];exact h.agT,WB h.wf hv⟩
 have h3:=rF hk
 have oV:k<n.ends.length:=by have:=ah hk;rwa [vz]at this
 rw[<- h3,Sx hv];have h4:=h.row k _ (df oV)
 by_cases b:k=v
 ·subst b;rw[if_pos rfl];omega
 ·rw[if_neg b];omega
theorem SM (cb:Nat) (A:Option Addr) (L c P most M:Nat) (w:World) (hc:dj w cb A L c P) (hP:P<=4000000000000000000) (wI:1<=most) (pV:most<=M) (hM:M<=38):
  Calls Tryz.prog 125 #[.pointer (some ⟨cb,0,none⟩),.int .i64 most] w (Fk cb w.heap.size A L c (P+200000000000000000) w (TN 100 (M+2))):=by
 have jW:=hc.lt;obtain⟨B,Bl⟩:=J_ (w.heap.size+1)
 obtain⟨w0,bj⟩:=J_ (w.alloc (.cells #[.slice none 0 0,.slice none 0 0,.slice none 0 0] 30))
 have aK:ab w w0:=by rw[bj];exact ad _ (aa _)
 have e_:w0.heap.size=B:=by rw[bj,Bl];simp
 have gh:bD w0 w.heap.size (.slice none 0 0) (.slice none 0 0) (.slice none 0 0):=by
  rw[bj];show(w.heap.push _)[w.heap.size]?=_
  rw[Zbc]
 obtain⟨fX,ic,cD,iA,iS,C6⟩:=E_ gh aK bj Bl e_ (hc.since aK);clear gh aK bj hc Bl e_
 go_enter Tryz.func125,Tryz.ntmps125
 go_upto_region 1 with(fail);rw[<- cD.out];go_wp2_with fail;refine(dF cb A L c P 6 w0 C6 zO zO).mono ?_;rintro e w1 ⟨x,rfl,hx,j_,mc⟩;have jw:=zh j_
 have oz:Hid (CB cb B w0 w1):=by show CB _ _ _ _;rw[<- iS.out];exact mc
 have fG:B<=w1.heap.size:=by rw[<- iS.out];exact mc.size
 have qw:cb<B:=zX iA.out
 have hx6:x<6:=zO
 clear j_ mc hx
 have acx:=oz.out.ag3 fX.out (zX iA.out) zO
 have agu:=zh acx;clear acx;rcases(show x=0\/x=1\/x=2\/x=3\/x=4\/x=5 by omega)with rfl | rfl | rfl | rfl | rfl | rfl
 ·go_wp2_with fail;refine(Li cb A L c (P+2) most M w1 jw zO wI pV zO).mono ?_;rintro e w6 ⟨Jz,JA,JB,N6,S6,rfl,dJ,⟨ml,iz⟩,ee,jC⟩;obtain⟨D0,d0,rfl,-,-,-⟩:=id dJ.read.1;obtain⟨D1,d1,rfl,-,-,-⟩:=id dJ.read.2.1;obtain⟨D2,d2,rfl,-,-,-⟩:=id dJ.read.2.2;have bH:CB cb B w0 w6:=oz.trans (jC.mono fG)
  have gP:=bH.ag3 fX.out (zX iA.out) zO
  obtain⟨e0,e1,e2,f0,f1,f2⟩:=gP.box.cells;have aI:=dJ.mono fG;rw[iA.out]at aI bH;obtain⟨dL,F9,xJ⟩:=B_ (eP ic.out aI ee bH jW) ml iz;clear bH gP aI ml ee jC dJ iz;go_wp2;refine bodyPost_ret (v:=.agg #[.slice D0 N6.ends.length d0,.slice D1 N6.ids.length d1,.slice D2 N6.agT.length d2]) (by simp[results,Tryz.results125,go_sem, *]) rfl ?_;obtain⟨r1,r2,r3⟩:=dL.out;exact⟨_,_,_,N6,S6,rfl,r1,⟨F9.mono (Zaj _) zO,xJ⟩,r2.mono zO,r3⟩
 ·go_wp2_with fail;refine(wV cb A L c (P+2) most M w1 jw zO wI pV zO).mono ?_;rintro e w6 ⟨Jz,JA,JB,N6,S6,rfl,dJ,⟨ml,iz⟩,ee,jC⟩;obtain⟨D0,d0,rfl,-,-,-⟩:=id dJ.read.1;obtain⟨D1,d1,rfl,-,-,-⟩:=id dJ.read.2.1;obtain⟨D2,d2,rfl,-,-,-⟩:=id dJ.read.2.2;have bH:CB cb B w0 w6:=oz.trans (jC.mono fG)
  have gP:=bH.ag3 fX.out (zX iA.out) zO
  obtain⟨e0,e1,e2,f0,f1,f2⟩:=gP.box.cells;have aI:=dJ.mono fG;rw[iA.out]at aI bH;obtain⟨dL,F9,xJ⟩:=B_ (eP ic.out aI ee bH jW) ml iz;clear bH gP aI ml ee jC dJ iz;go_wp2;refine bodyPost_ret (v:=.agg #[.slice D0 N6.ends.length d0,.slice D1 N6.ids.length d1,.slice D2 N6.agT.length d2]) (by simp[results,Tryz.results125,go_sem, *]) rfl ?_;obtain⟨r1,r2,r3⟩:=dL.out;exact⟨_,_,_,N6,S6,rfl,r1,⟨F9.mono (Zaj _) zO,xJ⟩,r2.mono zO,r3⟩
 ·go_wp2_with fail;refine(rG cb A L c (P+2) most M w1 jw zO wI pV zO).mono ?_;rintro e w6 ⟨Jz,JA,JB,N6,S6,rfl,dJ,⟨ml,iz⟩,ee,jC⟩;obtain⟨D0,d0,rfl,-,-,-⟩:=id dJ.read.1;obtain⟨D1,d1,rfl,-,-,-⟩:=id dJ.read.2.1;obtain⟨D2,d2,rfl,-,-,-⟩:=id dJ.read.2.2;have bH:CB cb B w0 w6:=oz.trans (jC.mono fG)
  have gP:=bH.ag3 fX.out (zX iA.out) zO
  obtain⟨e0,e1,e2,f0,f1,f2⟩:=gP.box.cells;have aI:=dJ.mono fG;rw[iA.out]at aI bH;obtain⟨dL,F9,xJ⟩:=B_ (eP ic.out aI ee bH jW) ml iz;clear bH gP aI ml ee jC dJ iz;go_wp2;refine bodyPost_ret (v:=.agg #[.slice D0 N6.ends.length d0,.slice D1 N6.ids.length d1,.slice D2 N6.agT.length d2]) (by simp[results,Tryz.results125,go_sem, *]) rfl ?_;obtain⟨r1,r2,r3⟩:=dL.out;exact⟨_,_,_,N6,S6,rfl,r1,⟨F9.mono (Zaj _) zO,xJ⟩,r2.mono zO,r3⟩
 ·go_wp2_with fail;refine(rG cb A L c (P+2) most M w1 jw zO wI pV zO).mono ?_;rintro e w6 ⟨Jz,JA,JB,N6,S6,rfl,dJ,⟨ml,iz⟩,ee,jC⟩;obtain⟨D0,d0,rfl,-,-,-⟩:=id dJ.read.1;obtain⟨D1,d1,rfl,-,-,-⟩:=id dJ.read.2.1;obtain⟨D2,d2,rfl,-,-,-⟩:=id dJ.read.2.2;have bH:CB cb B w0 w6:=oz.trans (jC.mono fG)
  have gP:=bH.ag3 fX.out (zX iA.out) zO
  obtain⟨e0,e1,e2,f0,f1,f2⟩:=gP.box.cells;have aI:=dJ.mono fG;rw[iA.out]at aI bH;obtain⟨dL,F9,xJ⟩:=B_ (eP ic.out aI ee bH jW) ml iz;clear bH gP aI ml ee jC dJ iz;go_wp2;refine bodyPost_ret (v:=.agg #[.slice D0 N6.ends.length d0,.slice D1 N6.ids.length d1,.slice D2 N6.agT.length d2]) (by simp[results,Tryz.results125,go_sem, *]) rfl ?_;obtain⟨r1,r2,r3⟩:=dL.out;exact⟨_,_,_,N6,S6,rfl,r1,⟨F9.mono (Zaj _) zO,xJ⟩,r2.mono zO,r3⟩
 ·obtain⟨hf,hhd⟩:=J_ (most/2:Nat)
  obtain⟨h1,hh1⟩:=J_ (hf+1:Nat)
  have d1:(most:Int).tdiv 2=(hf:Int):=by rw[hhd,Int.tdiv_eq_ediv_of_nonneg zO];simp
  have d2:(most:Int)/2=(hf:Int):=zO
  have d3:IntKind.i64.wrap (hf:Int)=(hf:Int):=bU _ zO zO
  have d4:IntKind.i64.wrap ((hf:Int)+1)=(h1:Int):=by rw[bU _ zO zO];omega
  have aP:1<=h1/\2*h1<=M+2:=zO
  clear hhd hh1;go_wp2_with fail;refine(rG cb A L c (P+2) h1 h1 w1 jw zO aP.1 (Zaj _) zO).mono ?_;rintro e w6 ⟨Jz,JA,JB,N6,S6,rfl,dJ,⟨ml,iz⟩,ee,jC⟩;obtain⟨D0,d0,rfl,-,-,-⟩:=id dJ.read.1;obtain⟨D1,d1',rfl,-,-,-⟩:=id dJ.read.2.1;obtain⟨D2,d2',rfl,-,-,-⟩:=id dJ.read.2.2;obtain⟨w7,sE⟩:=J_ (w6.alloc (.cells #[.slice D0 N6.ends.length d0,.slice D1 N6.ids.length d1',.slice D2 N6.agT.length d2'] 30))
  obtain⟨pb,dV⟩:=J_ w6.heap.size
  have h67:ab w6 w7:=by rw[sE];exact ad _ (aa _)
  have dK:bB w7 pb (.slice D0 N6.ends.length d0) (.slice D1 N6.ids.length d1') (.slice D2 N6.agT.length d2'):=by rw[sE,dV];exact bB.new _ _ _ _ _
  have HO7:=zh ((dJ.mono fG).agU h67.below);have HC7:Hid (CB cb B w0 w7):=(oz.trans (jC.mono fG)).trans ((CB.of h67).mono (Zak fG jC.size));obtain⟨SN,F9,xJ⟩:=B_ (ee.since h67) ml iz
  have jg:pb≠cb:=zX jC.size
  have HB7:Hid (B<=w7.heap.size):=Zak (Zak fG jC.size) h67.below.size;obtain⟨uZ,Hw7,dG⟩:=B_ dK sE dV;obtain⟨k0,k1,k2,-,-,-⟩:=dK.cells;have lF:=zh (And.intro k0 (And.intro k1 k2));clear dJ ml iz ee jC sE dV h67 dK k0 k1 k2;go_upto_region 11 with(fail);rw[<- Hw7.out,<- dG.out];refine az (fun W=>W.cell? ⟨pb,0,none⟩=some (.slice D0 N6.ends.length d0)/\W.cell? ⟨pb,1,none⟩=some (.slice D1 N6.ids.length d1')/\W.cell? ⟨pb,2,none⟩=some (.slice D2 N6.agT.length d2')) 7 [false,false,false,false,false,true,true] zK zK (show(World.drew w7).cell? ⟨pb,0,none⟩=some (.slice D0 N6.ends.length d0)/\(World.drew w7).cell? ⟨pb,1,none⟩=some (.slice D1 N6.ids.length d1')/\(World.drew w7).cell? ⟨pb,2,none⟩=some (.slice D2 N6.agT.length d2')from lF) ?_
  simp only[ew,dM,zT]
  iterate 5 (apply bC rfl;(intro W hW;(obtain⟨k0,k1,k2⟩:=hW);go_simp;with_reducible rfl);simp only[zA])
  obtain⟨W,dh⟩:=J_ (World.drew w7)
  rw[<- dh];have hW:=(show(World.drew w7).cell? ⟨pb,0,none⟩=some (.slice D0 N6.ends.length d0)/\(World.drew w7).cell? ⟨pb,1,none⟩=some (.slice D1 N6.ids.length d1')/\(World.drew w7).cell? ⟨pb,2,none⟩=some (.slice D2 N6.agT.length d2')from lF);rw[<- dh]at hW;have fK:=zh dh;clear dh;refine Or.inl ⟨rfl,?_⟩
  go_simp
  (with_reducible refine(Li cb A L c _ h1 h1 W (by rw[fK.out];exact SN.out.since (aj (aa _))) zO aP.1 (Zaj _) zO).mono ?_)
  rintro e W' ⟨ve8,vi8,vn8,N8,S8,rfl,WK,⟨YD,-⟩,Lo,Gb⟩;refine⟨_,rfl,And.intro (ay hW.1 jg _ Gb) (And.intro (ay hW.2.1 jg _ Gb) (ay hW.2.2 jg _ Gb)),?_⟩
  replace hW:=And.intro (ay hW.1 jg _ Gb) (And.intro (ay hW.2.1 jg _ Gb) (ay hW.2.2 jg _ Gb))
  have nq:ab w7 W:=(by rw[fK.out];exact aj (aa _))
  obtain⟨HC8,vT,HT8,Lp⟩:=C_ (((bO.refl cb w7).after nq).trans Gb) WK YD Lo;clear WK YD Lo Gb nq;obtain⟨wp,rfl⟩:=J_ W'
  (try simp only[zA])
  refine Or.inl ⟨rfl,?_⟩
  go_simp
  (with_reducible refine(ya _ _ _ _ _ _ N6 N8 _ (HO7.out.seen HC8.out qw).read vT.out.read (F9.out.small zO zO) (HT8.out.small zO zO) HT8.out.wf).mono ?_)
  rintro e W' ⟨ve9,vi9,vn9,S9,rfl,gj,lO⟩;refine⟨_,rfl,And.intro (bc lO hW.1) (And.intro (bc lO hW.2.1) (bc lO hW.2.2)),?_⟩
  replace hW:=And.intro (bc lO hW.1) (And.intro (bc lO hW.2.1) (bc lO hW.2.2))
  skip
  (try simp only[zA])
  simp only[bP];obtain⟨F0,t0,rfl,-,-,-⟩:=id gj.read.1;obtain⟨F1,t1,rfl,-,-,-⟩:=id gj.read.2.1;obtain⟨F2,t2,rfl,-,-,-⟩:=id gj.read.2.2;have Qe:B<=wp.heap.size:=Zak HB7 HC8.size;have Oh:ab wp W':=lO;have bH:CB cb B w0 W':=(HC7.trans (CB.mono HC8 HB7)).trans ((CB.of Oh.below).mono Qe)
  have gP:=bH.ag3 fX.out (zX iA.out) zO
  obtain⟨e0,e1,e2,f0,f1,f2⟩:=gP.box.cells;have aI:=gj.mono Qe;rw[iA.out]at aI bH;obtain⟨dL,Hg9⟩:=A_ (eP ic.out aI (Lp.out.since Oh) bH jW) (F9.out.union HT8.out)
  have Hl9:Hid (0<(iN N6 N8).ends.length):=by show _<_;unfold iN;rw[Zay];have:=xJ.out;omega
  clear bH gP aI Oh gj lO Qe hW;go_wp2;refine bodyPost_ret (v:=.agg #[.slice F0 (iN N6 N8).ends.length t0,.slice F1 (iN N6 N8).ids.length t1,.slice F2 (iN N6 N8).agT.length t2]) (by simp[results,Tryz.results125,go_sem, *]) rfl ?_;obtain⟨r1,r2,r3⟩:=dL.out;exact⟨_,_,_,iN N6 N8,S9,rfl,r1,⟨Hg9.mono (Zaj _) zO,Hl9⟩,r2.mono zO,r3⟩
 ·go_wp2_with fail;refine(dF cb A L c (P+2) most w1 jw zO zO).mono ?_;rintro e w2 ⟨x2,rfl,uJ,lh,sY⟩;obtain⟨m,hm⟩:=J_ (x2+1:Nat)
  have m1:IntKind.i64.wrap (1+(x2:Int))=(m:Int):=by rw[bU _ zO zO];omega
  have hmM:m<=M:=zO
  have vU:0<m:=zO
  have Im:=zh lh;have Qa:Hid (CB cb B w0 w2):=oz.trans (sY.mono fG);have rc:Hid (B<=w2.heap.size):=Zak fG sY.size;clear lh sY uJ hm;go_wp2_with fail;refine(nL m zO w2).mono ?_;rintro e w3 ⟨ve0,vi0,vn0,S0,rfl,ho,er⟩;obtain⟨N0,vY⟩:=J_ (dQ m)
  rw[<- vY]at ho
  have pA:N0.ends.length=m:=by rw[vY];simp[dQ]
  have F8:Gd 100 M N0:=by rw[vY];exact(Gd.empty hmM).mono zO (Zaj _)
  obtain⟨A1,c1,rfl,-,qQ,-⟩:=id ho.read.1;obtain⟨AI,cI,rfl,-,-,-⟩:=id ho.read.2.1;obtain⟨AN,cN,rfl,-,-,-⟩:=id ho.read.2.2;obtain⟨w4,km⟩:=J_ (w3.alloc (.cells #[.slice A1 N0.ends.length c1,.slice AI N0.ids.length cI,.slice AN N0.agT.length cN] 30))
  obtain⟨pb,dV⟩:=J_ w3.heap.size
  have h34:ab w3 w4:=by rw[km];exact ad _ (aa _)
  have oi:ab w2 w3:=er
  have vX:Mb cb B pb A L c (P+2+2) w0 w4 (.slice A1 N0.ends.length c1) (.slice AI N0.ids.length cI) (.slice AN N0.agT.length cN) N0 S0:=
   ⟨(ho.agU h34.below).mono rc,by rw[km,dV];exact bB.new _ _ _ _ _,fun hj=>zX ((ho.range _ hj).2),(Im.out.since oi).since h34,Qa.out.trans ((CB.of (oi.after h34).below).mono rc.out)⟩
  have Cy:=zh vX
  have dG:Hid (B<=pb/\pb<w4.heap.size):=⟨by rw[dV];exact Zak rc oi.below.size,by rw[km,dV];simp⟩
  obtain⟨V6,wU,K0,aam⟩:=C_ km dV F8 pA;have dK:=vX.box.cells.1
  have jg:pb≠cb:=zX dG.out
  rw[pA]at dK;obtain⟨m2,gC⟩:=J_ (2*m:Nat)
  have e2m:(2:Int)*(m:Int)=(m2:Int):=zO
  have m20:IntKind.i64.wrap (2*(m:Int))=(m2:Int):=by rw[e2m];exact bU _ zO zO
  have mN:=zh gC;clear gC;clear vX km dV F8 pA ho er oi h34 vY e2m;go_upto_region 13 with(fail);rw[<- V6.out,<- wU.out];go_wp2_with fail
  refine(dF cb A L c _ (m2:Int) w4 Cy.out.cur zO (zX mN.out)).mono ?_
  rintro e w5 ⟨x5,rfl,aeG,qL,Bp⟩
  have hx5:x5<=100:=zX mN.out
  have lG:=zh (Cy.out.seen Bp qL qw dG.out.1 (zX dG.out))
  have JC:Hid (B<=w5.heap.size):=by show _<=_;have:=dG.out;have:=Bp.size;omega
  clear qL Bp dK aeG;go_upto_region 14 with(fail);obtain⟨Q,hQ⟩:=J_ (P+2+2+2)
  have HQ:Hid (Q=P+2+2+2):=hQ;rw[<- hQ]at lG;clear hQ
  go_loopw [7] (fun i wr=>∃(k:Nat) (ve vi vn:Value) (N:ao) (S:List Nat),k<=100/\i=.int .i64 k/\Mb cb B pb A L c (Q+6*(100-k)) w0 wr ve vi vn N S/\Gd 100 M N/\N.ends.length=m/\B<=wr.heap.size) (fun i _=>(intOf i).toNat)
  case atStart=>exact⟨x5,_,_,_,N0,S0,hx5,rfl,⟨lG.own,lG.box,lG.nb,lG.cur.mono zO,lG.far⟩,K0,aam,JC⟩
  case round=>
   obtain⟨k,ve,vi,vn,N,S2,hk,rfl,hm,gT,pA,fD⟩:=hrel;obtain⟨JU,l8,rfl,-,Wy,-⟩:=id hm.own.read.1;obtain⟨ts,tt,rfl,-,-,-⟩:=id hm.own.read.2.1;obtain⟨Bj,wQ,rfl,-,-,-⟩:=id hm.own.read.2.2;obtain⟨g,rfl,-⟩:=hm.own.head zO;obtain⟨Hm,kw,iF,kR⟩:=C_ hm gT pA fD;clear hm gT pA fD
   by_cases aA:0<k
   ·have e0:((0:Int)<(k:Int))=True:=by simp;omega
    have m4:IntKind.i64.wrap ((k:Int)-1)=(k:Int)-1:=bU _ zO zO
    have lF:=zh (show wr.cell? ⟨pb,0,none⟩=some (.slice (some ⟨g,0,none⟩) m l8)from by obtain⟨a,-⟩:=Hm.out.box.cells;rw[iF.out]at a;exact a)
    obtain⟨wo,rfl⟩:=J_ wr
    go_upto_region 16 with(fail);refine az (fun W=>W.cell? ⟨pb,0,none⟩=some (.slice (some ⟨g,0,none⟩) m l8)) 10 [false,false,false,false,true,false,false,false,false,true] zK zK (show(World.drew wo).cell? ⟨pb,0,none⟩=some (.slice (some ⟨g,0,none⟩) m l8)from lF) ?_
    simp only[ew,dM,zT]
    iterate 8 (apply bC rfl;(intro W hW;(have k0:=hW);go_simp;with_reducible rfl);simp only[zA])
    obtain⟨W,dh⟩:=J_ (World.drew wo)
    rw[<- dh];have hW:=(show(World.drew wo).cell? ⟨pb,0,none⟩=some (.slice (some ⟨g,0,none⟩) m l8)from lF);rw[<- dh]at hW;have fK:=zh dh;clear dh;refine Or.inl ⟨rfl,?_⟩
    go_simp
    (with_reducible refine(dF cb A L c (Q+6*(100-k)) (m:Int) W (by rw[fK.out];exact Hm.out.cur.since (aj (aa _))) (zX HQ.out) zO).mono ?_)
    rintro e W' ⟨a,rfl,ha,f8,hC⟩;refine⟨_,rfl,ay hW jg _ hC,?_⟩
    replace hW:=ay hW jg _ hC
    have nq:ab wo W:=(by rw[fK.out];exact aj (aa _))
    obtain⟨xU,kn,Ha⟩:=B_ (((bO.refl cb wo).after nq).trans hC) f8 ha;clear hC f8 nq ha;obtain⟨wp,rfl⟩:=J_ W'
    (try simp only[zA])
    refine Or.inl ⟨rfl,?_⟩
    go_simp
    (with_reducible refine(dF cb A L c (Q+6*(100-k)+2) (m:Int) _ kn.out (zX HQ.out) zO).mono ?_)
    rintro e W' ⟨b,rfl,hb,f8,hC⟩;refine⟨_,rfl,ay hW jg _ hC,?_⟩
    replace hW:=ay hW jg _ hC
    have lG:=zh (Hm.out.seen (xU.out.trans hC) f8 qw dG.out.1 kR.out);have wW:Hid (B<=W'.heap.size):=Zak kR (xU.trans hC).size;clear hC f8
    (try simp only[zA])
    simp only[bP]
    have WE:a<m:=zX Ha.out
    have ZE:b<m:=zO
    clear hb;obtain⟨w5,rfl⟩:=J_ W'
    have Nu:=zh hW;clear hW;obtain⟨xa,Lm⟩:=J_ (bZ N a)
    obtain⟨xb,Ln⟩:=J_ (bZ N b)
    have Mc:=df (n:=N) (v:=a) (zX iF.out)
    have CS:=df (n:=N) (v:=b) (zX iF.out)
    rw[<- Lm]at Mc;rw[<- Ln]at CS;have CZ:xa.length<=100:=kw.row _ _ Mc;have eK:xb.length<=100:=kw.row _ _ CS;obtain⟨ua,Ta,Vh,-,SI,-,-,-⟩:=lG.own.ag0 Mc;obtain⟨AUa,cUa,rfl,-,-,-⟩:=id SI.read;obtain⟨ub,Tb,SJ,-,X3,-,-,-⟩:=lG.own.ag0 CS;obtain⟨AUb,cUb,rfl,-,-,-⟩:=id X3.read;obtain⟨WF,aan⟩:=A_ Lm Ln;have pa:=ae Vh;have pq:=ae SJ;have p0:=ae Nu;have q0:=p0 w5 (aa _);have qa:=pa w5 (aa _);have qb:=pq w5 (aa _);clear Lm Ln Mc CS SI X3 Vh SJ p0 pa pq
    by_cases h5:xa.length<=4
    ·have e5:((4:Int)<(xa.length:Int))=False:=by simp;omega
     by_cases h6:xb.length<=4
     ·have e6:((4:Int)<(xb.length:Int))=False:=by simp;omega
      go_upto_region 18 with(fail);clear q0 qa qb;go_wp2_with fail
      refine(xV cb A L c (Q+6*(100-k)+2+2) 5 w5 lG.out.cur (zX HQ.out) zO).mono ?_
      rintro e w6 ⟨bb,rfl,ee,jC⟩;have sD:=zh (lG.out.seen jC ee qw dG.out.1 wW.out);have C8:Hid (B<=w6.heap.size):=Zak wW jC.size;have SO:=sD.box.cells;rw[iF.out]at SO;obtain⟨q0,q1,q2,-,-,-⟩:=SO
      have HN6:Hid (aR w6 (.slice (some ⟨g,0,none⟩) m l8) (.slice ts N.ids.length tt) (.slice Bj N.agT.length wQ) N):=by show aR _ _ _ _ _;have h9:=sD.own.read;rw[iF.out]at h9;exact h9
      clear ee jC;cases bb
      ·go_wp2_with fail
       refine(mM _ _ _ N a b w6 HN6 (by rw[iF.out];exact WE) (by rw[iF.out];exact ZE) ((kw.mono (R':=100) (M':=40) zO zO).small zO zO)).mono ?_
       rintro e w8 ⟨ve2,vi2,vn2,S3,rfl,dD,aS⟩;have kK:ab w6 w8:=aS;obtain⟨D0,d0,rfl,-,-,-⟩:=id dD.read.1;obtain⟨D1,d1,rfl,-,-,-⟩:=id dD.read.2.1;obtain⟨D2,d2,rfl,-,-,-⟩:=id dD.read.2.2;have Io:=sD.assign (CB.of kK) (sD.cur.since kK) dD sD.box.lt qw dG.1 C8;clear q0 q1 q2;obtain⟨k0,k1,k2,f0,f1,f2⟩:=(sD.box.below kK sD.box.lt).cells;have sC:=zh Io
       have rE:B<=(agX w8 pb (.slice D0 (dR N a b).ends.length d0) (.slice D1 (dR N a b).ids.length d1) (.slice D2 (dR N a b).agT.length d2)).heap.size:=by rw[ix];exact Zak C8 kK.below.size
       obtain⟨Bk,GZ,Sy⟩:=B_ rE (kw.out.ahs (v:=a) (u:=b) (by rw[iF.out];exact WE) (by rw[iF.out];exact ZE) (by rw[<- WF.out];exact h5) (by rw[<- aan.out];exact h6) zO) ((ey N a b).trans iF);clear Io dD aS kK rE;go_wp2;go_roundw
       exact⟨k-1,_,_,_,dR N a b,S3,zO,by rw[show((k-1:Nat):Int)=(k:Int)-1 by omega],⟨sC.out.own,sC.out.box,sC.out.nb,sC.out.cur.mono zO,sC.out.far⟩,GZ.out,Sy.out,Bk.out⟩
       simp[intOf];omega
      ·go_wp2_with fail
       refine(K7 _ _ _ N a w6 HN6 (by rw[iF.out];exact WE) ((kw.mono (R':=100) (M':=40) zO zO).small zO zO)).mono ?_
       rintro e w8 ⟨ve2,vi2,vn2,S3,rfl,dD,aS⟩;have kK:ab w6 w8:=aS;obtain⟨D0,d0,rfl,-,-,-⟩:=id dD.read.1;obtain⟨D1,d1,rfl,-,-,-⟩:=id dD.read.2.1;obtain⟨D2,d2,rfl,-,-,-⟩:=id dD.read.2.2;have Io:=sD.assign (CB.of kK) (sD.cur.since kK) dD sD.box.lt qw dG.1 C8;clear q0 q1 q2;obtain⟨k0,k1,k2,f0,f1,f2⟩:=(sD.box.below kK sD.box.lt).cells;have sC:=zh Io
       have rE:B<=(agX w8 pb (.slice D0 (mK N a).ends.length d0) (.slice D1 (mK N a).ids.length d1) (.slice D2 (mK N a).agT.length d2)).heap.size:=by rw[ix];exact Zak C8 kK.below.size
       obtain⟨Bk,GZ,Sy⟩:=B_ rE (kw.out.aht (v:=a) (by rw[iF.out];exact WE) (by rw[<- WF.out];exact h5) zO) ((vz N a).trans iF);clear Io dD aS kK rE;go_wp2;go_roundw
       exact⟨k-1,_,_,_,mK N a,S3,zO,by rw[show((k-1:Nat):Int)=(k:Int)-1 by omega],⟨sC.out.own,sC.out.box,sC.out.nb,sC.out.cur.mono zO,sC.out.far⟩,GZ.out,Sy.out,Bk.out⟩
       simp[intOf];omega
     ·have e6:((4:Int)<(xb.length:Int))=True:=by simp;omega
      go_wp2;go_roundw
      exact⟨k-1,_,_,_,N,S2,zO,by rw[show((k-1:Nat):Int)=(k:Int)-1 by omega],(⟨lG.out.own,lG.out.box,lG.out.nb,lG.out.cur.mono zO,lG.out.far⟩),kw.out,iF.out,wW.out⟩
      simp[intOf];omega
    ·have e5:((4:Int)<(xa.length:Int))=True:=by simp;omega
     go_wp2;go_roundw
     exact⟨k-1,_,_,_,N,S2,zO,by rw[show((k-1:Nat):Int)=(k:Int)-1 by omega],(⟨lG.out.own,lG.out.box,lG.out.nb,lG.out.cur.mono zO,lG.out.far⟩),kw.out,iF.out,wW.out⟩
     simp[intOf];omega
   ·obtain rfl:k=0:=zO
    obtain⟨k0,k1,k2,-,-,-⟩:=Hm.box.cells;have mN:=Hm;have nu:=kR;obtain⟨w5,rfl⟩:=J_ wr
    go_upto_region 21 with(fail);go_wp2_with fail
    refine(yO cb A L c _ B 100 M _ _ _ N S2 w5 mN.out.cur (zX HQ.out) mN.out.own qw nu.out kw.out zO zO (zX iF.out)).mono ?_
    rintro e w6 ⟨Jz,JA,JB,N6,S6,rfl,dJ,⟨Bm,ml⟩,ee,jC⟩;obtain⟨D0,d0,rfl,-,-,-⟩:=id dJ.read.1;obtain⟨D1,d1,rfl,-,-,-⟩:=id dJ.read.2.1;obtain⟨D2,d2,rfl,-,-,-⟩:=id dJ.read.2.2;have bH:=(mN.far.mono (Zaj B)).trans jC
    have gP:=bH.ag3 fX.out (zX iA.out) zO
    obtain⟨e0,e1,e2,f0,f1,f2⟩:=gP.box.cells;have aI:=dJ;rw[iA.out]at aI bH;obtain⟨dL,Lj,F9⟩:=B_ (eP ic.out aI ee bH jW) Bm ml;clear bH gP aI Bm ml ee jC dJ k0 k1 k2;go_wp2;refine bodyPost_ret (v:=.agg #[.slice D0 N6.ends.length d0,.slice D1 N6.ids.length d1,.slice D2 N6.agT.length d2]) (by simp[results,Tryz.results125,go_sem, *]) rfl ?_;obtain⟨r1,r2,r3⟩:=dL.out
    exact⟨_,_,_,N6,S6,rfl,r1,⟨F9.out.mono zO zO,zY iF.out Lj.out.len⟩,r2.mono (zX HQ.out),r3⟩
theorem Mb.ahf {cb B pb:Nat} {A:Option Addr} {L c P:Nat} {w W W1:World} {ve vi vn v':Value} {N:ao} {S T:List Nat} {ids':List Int} (h:Mb cb B pb A L c P w W ve vi vn N S) (ho:mx W1 B v' ids' T) (eB:aV vi.ownBlock.toList W W1) (hT:∀j∈T,j∈vi.ownBlock.toList\/W.heap.size<=j) (hb:cb<B) (hp:B<=pb) (hB:B<=W.heap.size):
  bB W1 pb ve vi vn/\∃S',Mb cb B pb A L c P w (W1.setCell ⟨pb,1,none⟩ v') ve v' vn { N with ids:=ids' } S'/\∀j∈S',j∈S\/W.heap.size<=j:=by
 obtain⟨S1,S2,S3,-,h2,-,h4,-⟩:=id h.own
 have hS:∀j∈vi.ownBlock.toList,j∈S:=fun j hj=>by rw[h4,h2.2];exact Zao _ (Zax _ hj)
 have oU:=h.box.lt;have hnI:pb∉vi.ownBlock.toList:=fun hm=>h.nb (hS _ hm)
 have dK:bB W1 pb ve vi vn:=h.box.blk (eB.block pb oU hnI);obtain⟨S',OW,EV⟩:=h.own.ahd ho eB hT
 have hn:pb∉S':=fun hj=>by
  rcases EV _ hj with h1 | h1
  ·exact h.nb h1
  ·omega
 have lV:Below B W W1:=eB.below B hB (fun k hk=>(h.own.range k (hS k hk)).1)
 refine⟨dK,S',⟨OW.agV (fun k hk=>Zan _ _ _ _ (fun e=>hn (by have e':k=pb:=e;exact e' ▸ hk))),dK.ahh,hn,(h.cur.agU (fun k hk=>lV.block k zO)).agU (fun k hk=>Zan _ _ _ _ (by show k≠pb;omega)),(h.far.trans (CB.of lV)).setCell (p:=⟨pb,1,none⟩) (.inl hp) _⟩,EV⟩
theorem Mb.ag6 {cb B pb:Nat} {A:Option Addr} {L c P:Nat} {w W:World} {ve vi vn:Value} {N:ao} {S:List Nat} (h:Mb cb B pb A L c P w W ve vi vn N S):mx W B vi N.ids vi.ownBlock.toList/\∀j∈vi.ownBlock.toList,j∈S:=by
 obtain⟨S1,S2,S3,-,h2,-,h4,-⟩:=id h.own
 exact⟨⟨h2.1,rfl⟩,fun j hj=>by rw[h4,h2.2];exact Zao _ (Zax _ hj)⟩
theorem Mb.ahg {cb B pb:Nat} {A:Option Addr} {L c P:Nat} {w W:World} {ve vi vn:Value} {N:ao} {S:List Nat} (h:Mb cb B pb A L c P w W ve vi vn N S):mx W B vn N.agT vn.ownBlock.toList/\∀j∈vn.ownBlock.toList,j∈S:=by
 obtain⟨S1,S2,S3,-,-,h2,h4,-⟩:=id h.own
 exact⟨⟨h2.1,rfl⟩,fun j hj=>by rw[h4,h2.2];exact Zao _ (Zao _ hj)⟩
theorem nM (w:World) (x:Int):bs (w.alloc (.cells #[.int .i64 x] 3)) (.slice (some ⟨w.heap.size,0,none⟩) 1 1) [x]:=by
 refine⟨_,1,rfl,Zaj _,by unfold maxLen;omega,fun k y h=>?_⟩
 have hk:=ah h
 have VA:k=0:=by simp at hk;omega
 subst VA;have hy:x=y:=by simpa using h
 subst hy;exact⟨_,_,rfl,zS⟩
theorem Mb.ahq {cb B pb og:Nat} {A:Option Addr} {L c P:Nat} {w W W1:World} {ve vi vn v' uo:Value} {N:ao} {S T:List Nat} {y:Int} {xs:List Int} {Bo:Nat} (h:Mb cb B pb A L c P w W ve vi vn N S) (ho:mx W1 B v' (N.ids++[y]) T) (eB:aV vi.ownBlock.toList W W1) (hT:∀j∈T,j∈vi.ownBlock.toList\/W.heap.size<=j) (hb:cb<B) (hp:B<=pb) (hB:B<=W.heap.size)
  (SQ:Own W Bo uo xs) (PZ:uo.ownBlock=some og) (hog:og∉S/\og≠pb) (hr:bD W (pb+1) (.slice none 0 0) (.slice none 0 0) (.slice none 0 0)) (hn:pb+1∉S):
  bB W1 pb ve vi vn/\∃S',Mb cb B pb A L c P w (W1.setCell ⟨pb,1,none⟩ v') ve v' vn { N with ids:=N.ids++[y] } S'/\Own (W1.setCell ⟨pb,1,none⟩ v') Bo uo xs/\bD (W1.setCell ⟨pb,1,none⟩ v') (pb+1) (.slice none 0 0) (.slice none 0 0) (.slice none 0 0)/\W.heap.size<=(W1.setCell ⟨pb,1,none⟩ v').heap.size/\pb+1∉S'/\og∉S':=by
 obtain⟨er,S',jz,EV⟩:=h.ahf ho eB hT hb hp hB;have SS:=h.ag6.2;have aeH:=(Zad SQ og PZ).2
 refine⟨er,S',jz,aD SQ (fun j hj=>?_),?_,by rw[iC];exact eB.size,fun hj=>?_,fun hj=>?_⟩
 ·have oC:j=og:=by rw[PZ]at hj;simpa[eq_comm]using hj
  subst oC;rw[Zan _ _ _ _ (by exact hog.2)];exact eB.block _ aeH (fun hm=>hog.1 (SS _ hm))
 ·show(W1.setCell _ _).heap[pb+1]?=_
  rw[Zan _ _ _ _ (by show pb+1≠pb;omega),eB.block _ hr.lt (fun hm=>hn (SS _ hm))]
  exact hr
 ·rcases EV _ hj with h1 | h1
  ·exact hn h1
  ·have:=hr.lt;omega
 ·rcases EV _ hj with h1 | h1
  ·exact hog.1 h1
  ·omega
theorem Mb.ret {cb B pb rb:Nat} {A:Option Addr} {L c P:Nat} {w W:World} {ve vi vn:Value} {N:ao} {S:List Nat} (h:Mb cb B pb A L c P w W ve vi vn N S) (hr:rb∉S) (hB:B<=rb) (jW:cb<B):
  aw (agX W rb ve vi vn) B ve vi vn N S/\dj (agX W rb ve vi vn) cb A L c P/\CB cb B w (agX W rb ve vi vn):=by
 refine⟨h.own.agV (fun k hk=>dC _ _ _ _ _ (fun e=>hr (e ▸ hk))),h.cur.agU (fun k hk=>dC _ _ _ _ _ zO),?_⟩
 exact((h.far.setCell (p:=⟨rb,0,none⟩) (.inl hB) _).setCell (p:=⟨rb,1,none⟩) (.inl hB) _).setCell (p:=⟨rb,2,none⟩) (.inl hB) _
theorem D5 (cb:Nat) (A:Option Addr) (L c P R M:Nat) (ve vi vn:Value) (n:ao) (w:World) (hc:dj w cb A L c P) (hP:P<=4500000000000000000) (h:aR w ve vi vn n) (hg:Gd R M n) (hR:R<=100) (hM:M<=100):
  Calls Tryz.prog 169 #[.pointer (some ⟨cb,0,none⟩),.agg #[ve,vi,vn]] w (Fk cb w.heap.size A L c (P+1000) w (fun N=>N.ends=n.ends/\N.agT=n.agT/\N.ids.length=n.ends.length)):=by
 have jW:=hc.lt;obtain⟨A1,c1,rfl,-,qQ,-⟩:=id h.1;obtain⟨AI,cI,rfl,-,-,-⟩:=id h.2.1;obtain⟨AN,cN,rfl,-,-,-⟩:=id h.2.2;obtain⟨pb,dV⟩:=J_ w.heap.size
 obtain⟨w0,bj⟩:=J_ (w.alloc (.cells #[.slice A1 n.ends.length c1,.slice AI n.ids.length cI,.slice AN n.agT.length cN] 30))
 obtain⟨wa,mF⟩:=J_ (w0.alloc (.cells #[.slice none 0 0,.slice none 0 0,.slice none 0 0] 30))
 have aK:ab w w0:=by rw[bj];exact ad _ (aa _)
 have dw:ab w0 wa:=by rw[mF];exact ad _ (aa _)
 have pL:w0.heap.size=w.heap.size+1:=by rw[bj];simp
 have ks:bB w0 pb (.slice A1 n.ends.length c1) (.slice AI n.ids.length cI) (.slice AN n.agT.length cN):=by rw[bj,dV];exact bB.new _ _ _ _ _
 have Fl:=ks.below dw (by rw[pL,dV];omega)
 have gh:bD wa (pb+1) (.slice none 0 0) (.slice none 0 0) (.slice none 0 0):=by
  rw[mF,dV,<- pL];show(w0.heap.push _)[w0.heap.size]?=_
  rw[Zbc]
 have tD:ab w wa:=aK.after dw
 have dG:Hid (cb<pb/\pb+2=wa.heap.size/\pb=w.heap.size):=⟨zO,by rw[dV,mF];simp;omega,dV⟩
 obtain⟨Fg,fX,Qf,Hca,HNa,Hg,cD,Kr⟩:=G_ tD gh Fl (hc.since tD) (h.agU tD.below) hg bj mF;have dK:=Fl.cells
 have aaj:n.ends.length<=100:=zX hg.ends
 clear hc h aK dw ks gh tD Fl hg bj mF dV pL
 go_enter Tryz.func169,Tryz.ntmps169
 go_upto_region 1 with(fail);rw[<- cD.out,<- Kr.out,<- dG.out.2.2];obtain⟨x0,x1,x2,f0,f1,f2⟩:=dK;go_wp2_with fail
 refine(mi _ _ _ n wa HNa.out zO (fun k es he=>zX (Hg.out.row k es he)) (Hg.out.small hR hM).sz).mono ?_
 rintro e w1 ⟨ue,ui,un,S0,rfl,ho,aP⟩;have dw:ab wa w1:=aP;obtain⟨E1,e1,rfl,-,-,-⟩:=id ho.read.1;obtain⟨EI,eI,rfl,-,-,-⟩:=id ho.read.2.1;obtain⟨EN,eN,rfl,-,-,-⟩:=id ho.read.2.2;clear x0 x1 x2 f0 f1 f2;have Lq:=Qf.below dw Qf.lt;obtain⟨x0,x1,x2,f0,f1,f2⟩:=Lq.cells
 have nt:pb∉S0:=fun hj=>by have h1:=(ho.range _ hj).1;have h2:=dG.out;omega
 have ki:Mb cb w.heap.size pb A L c P w (agX w1 pb (.slice E1 n.ends.length e1) (.slice EI n.ids.length eI) (.slice EN n.agT.length eN)) (.slice E1 n.ends.length e1) (.slice EI n.ids.length eI) (.slice EN n.agT.length eN) n S0:=by
  have h0:=dG.out
  refine⟨(ho.agV (fun k hk=>dC _ _ _ _ _ (fun e=>nt (by have e':k=pb:=e;exact e' ▸ hk)))).mono zO,Lq.agX _ _ _,nt,((Hca.out.since dw).agU (fun k hk=>dC _ _ _ _ _ zO)),?_⟩
  exact((((CB.of (Fg.out.after dw).below).mono (Zaj _)).setCell (p:=⟨pb,0,none⟩) (.inl (by show _<=pb;omega)) _).setCell (p:=⟨pb,1,none⟩) (.inl (by show _<=pb;omega)) _).setCell (p:=⟨pb,2,none⟩) (.inl (by show _<=pb;omega)) _
 have OY:bD (agX w1 pb (.slice E1 n.ends.length e1) (.slice EI n.ids.length eI) (.slice EN n.agT.length eN)) (pb+1) (.slice none 0 0) (.slice none 0 0) (.slice none 0 0):=(dC _ _ _ _ _ zO).trans (fX.since dw)
 have dP:wa.heap.size<=(agX w1 pb (.slice E1 n.ends.length e1) (.slice EI n.ids.length eI) (.slice EN n.agT.length eN)).heap.size:=by rw[ix];exact dw.below.size
 have ly:pb+1∉S0:=fun hj=>by have h1:=(ho.range _ hj).1;have h2:=dG.out;omega
 obtain⟨n_,Hr1,yN,wM,Hfz⟩:=D_ ki OY dP ly (And.intro f0 (And.intro f1 f2));clear ki OY dP ly ho aP dw Lq nt;go_upto_region 2 with(fail);obtain⟨w2,ip⟩:=J_ (((w1.setCell ⟨pb,0,none⟩ (.slice E1 n.ends.length e1)).setCell ⟨pb,1,none⟩ (.slice EI n.ids.length eI)).setCell ⟨pb,2,none⟩ (.slice EN n.agT.length eN))
 rw[<- ip]
 have mN:Hid (Mb cb w.heap.size pb A L c P w w2 (.slice E1 n.ends.length e1) (.slice EI n.ids.length eI) (.slice EN n.agT.length eN) n S0):=by show Mb _ _ _ _ _ _ _ _ _ _ _ _ _ _;rw[ip];exact n_
 have NT:Hid (bD w2 (pb+1) (.slice none 0 0) (.slice none 0 0) (.slice none 0 0)):=by show bD _ _ _ _ _;rw[ip];exact Hr1
 have qU:Hid (wa.heap.size<=w2.heap.size):=by show _<=_;rw[ip];exact yN
 clear ip n_ Hr1 yN Hfz x0 x1 x2 f0 f1 f2
 have H9:w.heap.size<=w2.heap.size:=by have h1:=qU.out;have h2:=dG.out;omega
 have Qe:w.heap.size<=pb:=by have h2:=dG.out;omega
 obtain⟨er,S1,jz,hS3⟩:=mN.ahf (v':=.slice none 0 0) (ids':=[]) (my _ _) (aV.refl _ _) (fun j hj=>by simp at hj) jW Qe H9
 obtain⟨-,x1,-,-,f1,-⟩:=mN.box.cells;have Gc:=zh jz
 have Hr3:Hid (bD (w2.setCell ⟨pb,1,none⟩ (.slice none 0 0)) (pb+1) (.slice none 0 0) (.slice none 0 0) (.slice none 0 0)):=NT.out.other (by show pb+1≠pb;omega)
 have Hn3:Hid (pb+1∉S1):=fun hj=>by
  rcases hS3 _ hj with h1 | h1
  ·exact wM h1
  ·have h2:=qU.out;have h3:=dG.out;omega
 have yT:Hid (wa.heap.size<=(w2.setCell ⟨pb,1,none⟩ (.slice none 0 0)).heap.size):=by show _<=_;rw[iC];exact qU
 clear er jz hS3 H9;go_upto_region 3 with(fail);obtain⟨w3,ib⟩:=J_ (w2.setCell ⟨pb,1,none⟩ (.slice none 0 0))
 rw[<- ib]at Gc Hr3 yT ⊢;clear ib x1 f1;go_wp2_with fail;refine(xV cb A L c P 2 w3 Gc.cur zO zO).mono ?_;rintro e w4 ⟨small,rfl,mO,oa⟩
 have Ga:w.heap.size<=w3.heap.size:=by have h1:=yT.out;have h2:=dG.out;omega
 have Qd:=zh (Gc.out.seen oa mO jW Qe Ga)
 have Hr4:Hid (bD w4 (pb+1) (.slice none 0 0) (.slice none 0 0) (.slice none 0 0)):=(oa.block _ Hr3.out.lt (zX dG.out)).trans Hr3.out
 have SH:Hid (wa.heap.size<=w4.heap.size):=Zak yT oa.size;clear mO oa Ga;obtain⟨y0,-,-,-,-,-⟩:=Qd.box.cells;go_wp2_with fail;refine(Sc cb A L c (P+2) n.ends.length w4 Qd.cur zO aaj).mono ?_;rintro e w5 ⟨og,xs,rfl,yh,acy,qL,Bp⟩
 have Qg:w.heap.size<=w4.heap.size:=by have h1:=SH.out;have h2:=dG.out;omega
 have lG:=zh (Qd.out.seen Bp qL jW Qe Qg)
 have Hr5:Hid (bD w5 (pb+1) (.slice none 0 0) (.slice none 0 0) (.slice none 0 0)):=(Bp.block _ Hr4.out.lt (zX dG.out)).trans Hr4.out
 have JC:Hid (wa.heap.size<=w5.heap.size):=Zak SH Bp.size;obtain⟨Hop,HpB⟩:=A_ yh acy;have ou:xs.length=n.ends.length:=yh.len.symm ▸ rfl
 have Hog:Hid (og∉S1/\og≠pb/\og≠pb+1/\cb<og/\og<w5.heap.size):=by
  have h1:=(Zad yh og (by simp[Value.ownBlock]));have h2:=Qd.box.lt;have h3:=Hr4.lt
  exact⟨fun hj=>zX ((Qd.out.own.range _ hj).2),zO,zO,zO,h1.2⟩
 clear yh acy qL Bp Qg y0;have md:=zh ou;clear ou;go_upto_region 6 with(fail)
 have jg:pb≠cb:=zX dG.out
 go_loopw [21] (fun i wr=>∃(k:Nat) (vi:Value) (N:ao) (S:List Nat),k<=n.ends.length/\i=.int .i64 k/\Mb cb w.heap.size pb A L c (P+202+2*k) w wr (.slice E1 n.ends.length e1) vi (.slice EN n.agT.length eN) N S/\N.ends=n.ends/\N.agT=n.agT/\N.ids.length=k/\Own wr w4.heap.size (.slice (some ⟨og,0,none⟩) n.ends.length n.ends.length) xs/\bD wr (pb+1) (.slice none 0 0) (.slice none 0 0) (.slice none 0 0)/\wa.heap.size<=wr.heap.size/\pb+1∉S/\og∉S) (fun i _=>n.ends.length-(intOf i).toNat)
 case atStart=>exact⟨0,_,{ n with ids:=[] },S1,Zac _,rfl,⟨lG.own,lG.box,lG.nb,lG.cur.mono zO,lG.far⟩,rfl,rfl,rfl,Hop,Hr5,JC,Hn3,Hog.1⟩
 case round=>
  obtain⟨k,vi,N,S,hk,rfl,hm,hNe,hNi,rq,SQ,hr,hz,ly,i_⟩:=hrel;obtain⟨ts,tt,rfl,-,-,-⟩:=id hm.own.read.2.1
  have hm':Mb cb w.heap.size pb A L c (P+202+2*k) w wr (.slice E1 n.ends.length e1) (.slice ts k tt) (.slice EN n.agT.length eN) N S:=by rw[rq]at hm;exact hm
  obtain⟨Hm,Hf,WL,Hr,Hz,wM,qo⟩:=F_ hm' (And.intro hNe (And.intro hNi rq)) SQ hr hz ly i_
  have HzB:Hid (w.heap.size<=wr.heap.size):=by show _<=_;have h1:=dG.out;omega
  clear hm hm' hNe hNi rq SQ hr hz ly i_
  by_cases aA:k<n.ends.length
  ·obtain⟨x,hx⟩:=au xs k (by rw[md.out];exact aA)
   have pc:=HpB x (Zaq hx);have c0:=WL.cell hx;have m3:=zw k
   have Hl:Hid (N.ids.length+[x+1].length<=17592186044416):=by show _<=_;have:=Hf.2.2;simp;omega
   cases small
   ·obtain⟨y,hy⟩:=J_ (1+x*20000)
    have m1:IntKind.i64.wrap (x*20000)=x*20000:=bU _ zO zO
    have m2:IntKind.i64.wrap (1+x*20000)=y:=by rw[hy];exact bU _ zO zO
    have Vj:Hid (0<=y/\y<=100000000):=by show _/\_;omega
    obtain⟨wo,rfl⟩:=J_ wr
    have lF:=zh (show wo.cell? ⟨pb,1,none⟩=some (.slice ts k tt)from Hm.out.box.cells.2.1);clear pc hx hy;go_upto_region 10 with(fail);refine az (fun W=>W.cell? ⟨pb,1,none⟩=some (.slice ts k tt)) 10 [false,false,false,false,false,false,true,true,true,true] zK zK (show(World.drew wo).cell? ⟨pb,1,none⟩=some (.slice ts k tt)from lF) ?_
    simp only[ew,dM,zT]
    iterate 6 (apply bC rfl;(intro W hW;(have k0:=hW);go_simp;with_reducible rfl);simp only[zA])
    obtain⟨W,dh⟩:=J_ (World.drew wo)
    rw[<- dh];have hW:=(show(World.drew wo).cell? ⟨pb,1,none⟩=some (.slice ts k tt)from lF);rw[<- dh]at hW;have fK:=zh dh;clear dh;refine Or.inl ⟨rfl,?_⟩
    go_simp
    (with_reducible refine(dF cb A L c (P+202+2*k) 20000 W (by rw[fK.out];exact Hm.out.cur.since (aj (aa _))) zO zO).mono ?_)
    rintro e W' ⟨a,rfl,ha,f8,hC⟩;refine⟨_,rfl,ay hW jg _ hC,?_⟩
    replace hW:=ay hW jg _ hC
    have nq:ab wo W:=(by rw[fK.out];exact aj (aa _))
    have pz:=((bO.refl cb wo).after nq).trans hC;obtain⟨Hm7,ZQ⟩:=A_ (Hm.out.seen pz f8 jW Qe HzB.out) (aD WL.out (fun j hj=>(show j=og by simpa[Value.ownBlock,eq_comm]using hj) ▸ pz.block og (Zad WL.out og rfl).2 (zX Hog.out)))
    have Hr7:Hid (bD W' (pb+1) (.slice none 0 0) (.slice none 0 0) (.slice none 0 0)):=(pz.block _ Hr.out.lt (zX dG.out)).trans Hr.out
    have Hz7:Hid (wa.heap.size<=W'.heap.size):=Zak Hz pz.size;have acz:Hid (w.heap.size<=W'.heap.size):=Zak HzB pz.size
    have m4:IntKind.i64.wrap (y+(a:Int))=y+(a:Int):=bU _ (zX Vj.out) (zX Vj.out)
    clear hC f8 nq ha pz
    (try simp only[zA])
    refine fj (v:=?_) rfl ?_ hW ?_;rotate_left;(go_simp;with_reducible rfl)
    simp only[zA]
    refine ca (v:=?_) (ob:=?_) rfl ?_ ?_ ?_;rotate_left 2
    (go_simp;first | with_reducible rfl | (refine⟨?_,?_⟩ <;> with_reducible rfl))
    exact bc (am _ _) hW;intro w8 k9 mD
    replace hW:=mD
    clear mD
    have qz:ab W' w8:=(by rw[k9];exact ad _ (aa _))
    obtain⟨Hm8,vT,Hr8⟩:=B_ (Hm7.out.since qz jW Qe acz.out) (Own.since ZQ.out qz) (Hr7.out.since qz);have Hz8:Hid (wa.heap.size<=w8.heap.size):=Zak Hz7 qz.below.size;have acA:Hid (w.heap.size<=w8.heap.size):=Zak acz qz.below.size
    have Hi8:Hid (bs w8 (.slice (some ⟨W'.heap.size,0,none⟩) 1 1) [y+(a:Int)]):=(by show bs _ _ _;rw[k9];exact nM _ _)
    have acB:=zh Hm8.out.ag6.1.1;have Hl8:Hid (N.ids.length+[y+(a:Int)].length<=17592186044416):=Hl;clear k9 qz
    (try simp only[zA])
    refine dA (fun Q' HQ=>?_)
    (refine fQ (base:=w.heap.size) (v:=.slice ts k tt) (xs:=N.ids) rfl _ _ rfl rfl acB rfl Hi8 Hl8 acA ?_);intro v' w9 T gj fg OZ;obtain⟨V,mV,cV,rfl⟩:=fT.one gj;obtain⟨lO,S9,hm9,SU,hr9,Qh,hn9,SV⟩:=Hm8.ahq gj fg OZ jW Qe acA vT rfl ⟨qo,Hog.2.1⟩ Hr8 wM;refine HQ _ _ lO.cells.2.1 ?_;clear gj fg OZ;obtain⟨SW,yK,Hr9,vW,Hn9,aaq⟩:=E_ hm9 SU hr9 Qh hn9 SV;clear hm9 SU hr9 Qh hn9 SV;obtain⟨x0,x1,x2,f0,f1,f2⟩:=lO.cells;clear lO
    (try simp only[zA])
    simp only[bP];go_wp2;go_roundw
    exact⟨k+1,_,_,S9,zO,zN,⟨SW.own,SW.box,SW.nb,SW.cur.mono zO,SW.far⟩,Hf.1,Hf.2.1,by have:=Hf.2.2;simp;omega,yK.out,Hr9.out,Zak Hz8.out vW.out,Hn9.out,aaq.out⟩
    simp[intOf];omega
   ·have m1:IntKind.i64.wrap (x+1)=x+1:=bU _ zO zO;have qz:ab wr (wr.alloc (.cells #[.int .i64 (x+1)] 3)):=ad _ (aa _);obtain⟨HmA,HoA,HrA⟩:=B_ (Hm.out.since qz jW Qe HzB.out) (WL.out.since qz) (Hr.out.since qz);have HzA:Hid (wa.heap.size<=(wr.alloc (.cells #[.int .i64 (x+1)] 3)).heap.size):=Zak Hz qz.below.size;have acC:Hid (w.heap.size<=(wr.alloc (.cells #[.int .i64 (x+1)] 3)).heap.size):=Zak HzB qz.below.size;obtain⟨x0,x1,x2,f0,f1,f2⟩:=Hm.box.cells;have aI:=HmA.ag6.1.1;have tS:=zh aI;clear qz pc hx aI
    go_wp2_with (at_builtin;refine fQ (base:=w.heap.size) rfl _ _ rfl rfl tS rfl (nM _ _) Hl acC ?_;intro v' w9 T gj fg OZ;obtain⟨V,mV,cV,rfl⟩:=fT.one gj;obtain⟨lO,S9,hm9,SU,hr9,Qh,hn9,SV⟩:=HmA.ahq gj fg OZ jW Qe acC HoA rfl ⟨qo,Hog.2.1⟩ HrA wM;clear x0 x1 x2 f0 f1 f2 gj fg OZ;have SW:=zh hm9;have yK:=zh SU;have Hr9:=zh hr9;have vW:=zh Qh;have Hn9:=zh hn9;have aaq:=zh SV;clear hm9 SU hr9 Qh hn9 SV;obtain⟨x0,x1,x2,f0,f1,f2⟩:=lO.cells;clear lO)
    go_roundw
    exact⟨k+1,_,_,S9,zO,zN,⟨SW.own,SW.box,SW.nb,SW.cur.mono zO,SW.far⟩,Hf.1,Hf.2.1,by have:=Hf.2.2;simp;omega,yK.out,Hr9.out,Zak HzA.out vW.out,Hn9.out,aaq.out⟩
    simp[intOf];omega
  ·obtain rfl:k=n.ends.length:=zO
   clear aA hk;obtain⟨k0,k1,k2,-,-,-⟩:=Hm.box.cells;obtain⟨e0,OX,e2,f0,f1,f2⟩:=Hr.box.cells;have dL:=zh (Hm.out.ret (rb:=pb+1) wM.out zO jW);go_wp2;refine bodyPost_ret (v:=.agg #[.slice E1 n.ends.length e1,.slice ts n.ends.length tt,.slice EN n.agT.length eN]) (by simp[results,Tryz.results169,go_sem, *]) rfl ?_;obtain⟨r1,r2,r3⟩:=dL.out;exact⟨_,_,_,N,S,rfl,r1,Hf,r2.mono zO,r3⟩
end Go.Proofs.YtnioemnkfojmkaaGreat
