/- Parts of the proof: walks of functions and plain laws. -/
import Derived.Test.YtnioemnkfojmkaaGreatP11
import Derived.Laws.Bits64b
set_option maxRecDepth 100000
set_option maxHeartbeats 16000000
namespace Go.Proofs.YtnioemnkfojmkaaGreat
open Go Go.RowKit
structure tM (n:ao) (K:List (List Bool)) (kf:Nat->Nat->Bool):Prop where
 len:K.length=n.ends.length
 row:∀(v:Nat) (es:List (Int×Int)),n.ends[v]?=some es->∃row,K[v]?=some row/\row.length=es.length/\∀i,i<es.length->row[i]?=some (kf v i)
def j9 (kf:Nat->Nat->Bool) (v m:Nat):List Int:=(List.range m).map fun i=>((js kf v i:Nat):Int)
theorem K3 (kf:Nat->Nat->Bool) (v m:Nat):j9 kf v (m+1)=j9 kf v m++[((js kf v m:Nat):Int)]:=by unfold j9;rw[Zaa,List.map_append];rfl
theorem DY (kf:Nat->Nat->Bool) (v m:Nat):(j9 kf v m).length=m:=by simp[j9]
theorem OG (kf:Nat->Nat->Bool) (v:Nat) {m i:Nat} (h:i<m):(j9 kf v m)[i]?=some ((js kf v i:Nat):Int):=by
 unfold j9
 rw[Zbr,Zcj h];rfl
def qK (n:ao) (kf:Nat->Nat->Bool) (k j:Nat):List (List Int):=(List.range n.ends.length).map fun v=>if v<k then j9 kf v (n.ends.getD v []).length else if v=k then j9 kf k j else []
theorem AZ (n:ao) (kf:Nat->Nat->Bool) (k j:Nat):(qK n kf k j).length=n.ends.length:=by simp[qK]
theorem rA {n:ao} {kf:Nat->Nat->Bool} {k j v:Nat} (h:v<n.ends.length):(qK n kf k j)[v]?=some (if v<k then j9 kf v (n.ends.getD v []).length else if v=k then j9 kf k j else []):=by
 unfold qK
 rw[Zbr,Zcj h];rfl
theorem OH (n:ao) (kf:Nat->Nat->Bool):qK n kf 0 0=List.replicate n.ends.length []:=by
 unfold qK;apply Zck
 intro i;rw[Zbr,Zch]
 by_cases h:i<n.ends.length
 ·rw[Zcj h,if_pos h];simp only[Option.map_some,Option.some.injEq];rw[if_neg zO]
  split <;> rfl
 ·rw[Zce (by simpa using h),if_neg h];rfl
theorem RU {n:ao} {kf:Nat->Nat->Bool} {k j:Nat} (hk:k<n.ends.length):(qK n kf k j).set k (j9 kf k (j+1))=qK n kf k (j+1):=by
 apply Zck
 intro i;rw[Zci]
 by_cases h:k=i
 ·subst h;rw[if_pos rfl,AZ,if_pos hk,rA hk,if_neg zO,if_pos rfl]
 ·rw[if_neg h]
  by_cases h2:i<n.ends.length
  ·rw[rA h2,rA h2,if_neg (c:=i=k) zO,if_neg (c:=i=k) zO]
  ·rw[Zce (by rw[AZ];omega),Zce (by rw[AZ];omega)]
theorem OI (n:ao) (kf:Nat->Nat->Bool) (k:Nat):qK n kf k (n.ends.getD k []).length=qK n kf (k+1) 0:=by
 unfold qK;apply List.map_congr_left
 intro v hv
 by_cases h1:v<k
 ·rw[if_pos h1,if_pos zO]
 ·rw[if_neg h1]
  by_cases h2:v=k
  ·rw[if_pos h2,if_pos zO,h2]
  ·rw[if_neg h2,if_neg zO]
   split <;> rfl
theorem OJ {n:ao} {kf:Nat->Nat->Bool} {k j:Nat} {es:List (Int×Int)} {x:Int×Int} (aU:n.ends.getD k []=es) (hx:es[j]?=some x):fW n kf k (j+1)=fW n kf k j++(if kf k j=true then [(x.1,((js kf x.1.toNat x.2.toNat:Nat):Int))] else []):=by
 rw[pR]
 have:(dW n k).getD j (0,0)=x:=by unfold dW;rw[aU];exact ag hx
 rw[this]
theorem Ff {n:ao} (kf:Nat->Nat->Bool) (k:Nat):(List.range (k+1)).map (kF n kf)=(List.range k).map (kF n kf)++[kF n kf k]:=by rw[Zaa,List.map_append];rfl
theorem mJ (W:World) (x y:Value) (t:TypeId):(W.alloc (.cells #[x,y] t)).cell? ⟨W.heap.size,0,none⟩=some x/\(W.alloc (.cells #[x,y] t)).cell? ⟨W.heap.size,1,none⟩=some y:=⟨zS,zS⟩
theorem lf {w:World} {ops:Array Oper} {rest:List Oper} {o:Oper} {a:Act} {Q:Exit->Act->World->Prop} (gT:o.guard=none) (s x:Operand)
  (ho:o.op=.call { callee:=.builtin .append,args:=#[s,x],argTypes:=#[59,59] }) {base:Nat} {v:Value} {xs:List (Int×Int)} {T:List Nat} (hs:a.eval s=v) (h:eE w base v xs T) (b:Nat) (y:Int×Int)
  (hx:a.eval x=.slice (some ⟨b,0,none⟩) 1 1) (hc:w.cell? ⟨b,0,none⟩=some (.int .i64 y.1)) (dk:w.cell? ⟨b,1,none⟩=some (.int .i64 y.2)) (hl:xs.length+1<=1000000) (kj:base<=w.heap.size)
  (k:∀g cap w',eE w' base (.slice (some ⟨g,0,none⟩) (xs.length+1) cap) (xs++[y]) [g]->w.grownBy w' v.ownBlock->(v.ownBlock=some g\/g=w.heap.size)->wpList Tryz.prog ops Q rest (a.put o.dst (.slice (some ⟨g,0,none⟩) (xs.length+1) cap)) w'):wpList Tryz.prog ops Q (o::rest) a w:=by
 obtain⟨i0,hi,e_,dP,dY⟩:=info_parts zv
 refine wpList_append_lies w gT s x 59 ho base 104 i0 _ 2 16 Tryz.underlying59 hi e_ dP dY rfl (by decide) v xs.length (xs.flatMap oO) hs h.1 ⟨b,0,none⟩ 1 1 [.int .i64 y.1,.int .i64 y.2] hx rfl
  (by intro j u hj;match j,hj with | 0,hj=>(simp at hj;subst hj;simpa[Addr.add]using hc) | 1,hj=>(simp at hj;subst hj;simpa[Addr.add]using dk) | j+2,hj=>simp at hj) (by simp[Value.oneCell']) zO (by unfold maxLen;omega) zO kj w.heap.size rfl ?_
 intro g cap w' q1 q2 q3 q4;have hq:w'.ownsRow base 104 2 (.slice (some ⟨g,0,none⟩) (xs.length+1) cap) (xs++[y]).length ((xs++[y]).flatMap oO):=by simpa[oO]using q1
 exact k g cap w' ⟨hq,by simp[Value.ownBlock]⟩ q2 q3
theorem OK (ve vi vn vk:Value) (n:ao) (K:List (List Bool)) (kf:Nat->Nat->Bool) (w:World) (h:aR w ve vi vn n) (hn:ar n=true) (hK:rz w vk K) (hkf:tM n K kf):
  Calls Tryz.prog 209 #[.agg #[ve,vi,vn],vk] w (tB w (jt n kf)):=by
 have iX:=(bK hn).2;have agk:=zh iX
 have rq:Hid (n.ids.length<=17592186044416):=by show _<=_;have:=OF hn;omega
 have iM:Hid (n.agT.length<=17592186044416):=by show _<=_;rw[(Oy hn).1];omega
 obtain⟨Hn,Hkf⟩:=A_ hn hkf;have V2:Hid (∀(k:Nat) (es:List (Int×Int)),n.ends[k]?=some es->es.length<=6):=fun (k:Nat) (es:List (Int×Int)) he=>(fO hn he).1
 obtain⟨w0,A,c,A2,c2,A3,c3,rfl,rfl,rfl,fR,hm,gC,jz,HA,H,cD,aY,fp,fE,fM⟩:=zB h;clear h
 obtain⟨wz,Z1⟩:=J_ (w0.alloc (.cells #[.slice none 0 0,.slice none 0 0,.slice none 0 0] 30))
 have fD:ab w0 wz:=by rw[Z1];exact ad _ (aa _)
 have HRz:Hid (∀X,ab wz X->bD X w0.heap.size (.slice none 0 0) (.slice none 0 0) (.slice none 0 0)):=fun X hX=>by
  refine bD.since (W:=wz) ?_ hX;rw[Z1];show(w0.heap.push _)[w0.heap.size]?=_
  rw[Zbc]
 have HKz:Hid (∀X,ab wz X->rz X vk K):=fun X hX=>(hK.agU (aY)).agU (fD.after hX).below
 have GR:Hid (wz.heap.size=w0.heap.size+1):=by show _=_;rw[Z1];simp
 have z00:=al fp fD;have z01:=al fE fD;have z02:=al fM fD;obtain⟨Hwz,kR⟩:=A_ Z1 fD;obtain⟨AK,cK,rfl,hlK,hmK,-⟩:=hK;unfold maxLen at hmK;have hKl:=hkf.len;have HKl:=zh hKl;clear Z1 fD fp fE fM hn hkf;rw[hKl]at hlK HKz ⊢;clear hKl
 go_enter Tryz.func209,Tryz.ntmps209
 go_upto_region 1 with(fail);rw[<- cD.out,<- Hwz.out]
 go_upto_region 2 with(at_make;refine uP _ rfl _ _ rfl n.ends.length rfl rfl zO ?_;intro w1 gL aP;have dw:ab wz w1:=aP)
 obtain⟨g,hg⟩:=J_ wz.heap.size
 rw[<- hg]at gL ⊢
 have Hg:Hid (wz.heap.size<=g):=by rw[hg];exact Zaj _
 have Ck:Hid (bu w1 wz.heap.size (.slice (some ⟨g,0,none⟩) n.ends.length n.ends.length) (qK n kf 0 0) [g]):=by rw[OH];exact aL.mono gL Hg
 have di:Hid (ab wz w1):=dw;clear gL aP hg;go_wp2;clear dw
 go_loopw [23] (fun i wr=>∃(k:Nat) (S:List Nat),k<=n.ends.length/\i=.int .i64 k/\bu wr wz.heap.size (.slice (some ⟨g,0,none⟩) n.ends.length n.ends.length) (qK n kf k 0) S/\ab wz wr) (fun i _=>n.ends.length-(intOf i).toNat)
 case atStart=>exact⟨0,_,Zac _,rfl,Ck,di⟩
 case round=>
  obtain⟨k,S,hk,rfl,ho,eD⟩:=hrel;obtain⟨Ho,Hs⟩:=A_ ho eD;clear ho
  by_cases aA:k<n.ends.length
  ·obtain⟨es,aU⟩:=au n.ends k aA;have E3:=V2 k es aU;obtain⟨b,CV,cr,ur,ja,Kv,dk,J6⟩:=iK H.es aU;cases ja;obtain⟨A1,y1,rfl,dP,dY,ja⟩:=J6;unfold maxLen at dY;have r1:=al (ae dk) kR;have r1:=al r1 Hs;have q5:=r1 wr (aa _);have m4:=zw k;obtain⟨kr,Kv,Z2,RX⟩:=Hkf.row k es aU;have Z3:=zh RX;have kw:Hid (n.ends.getD k []=es):=ag aU;clear aU dk ja RX eD;go_wp2
   go_loopw [8,30] (fun c8 i wq=>∃(j:Nat) (T:List Nat),j<=es.length/\i=.int .i64 j/\c8=.int .i64 (js kf k j:Nat)/\bu wq wz.heap.size (.slice (some ⟨g,0,none⟩) n.ends.length n.ends.length) (qK n kf k j) T/\ab wz wq) (fun _ i _=>es.length-(intOf i).toNat)
   case atStart=>exact⟨0,S,Zac _,rfl,rfl,Ho,Hs⟩
   case round=>
    obtain⟨j,T,hj,rfl,rfl,jf,xS⟩:=hrel;obtain⟨XZ,oy⟩:=A_ jf xS;clear jf;have hck:=E5 kf k j
    by_cases xK:j<es.length
    ·have m3:=zw j;obtain⟨cn,Vf⟩:=K_ (js kf k j)
     rw[Vf]at hck ⊢;have m5:=zw cn;have RY:(qK n kf k j)[k]?=some (j9 kf k j):=by rw[rA aA,if_neg zO,if_pos rfl]
     obtain⟨u,U,dk,hu,hUT,hgU,qk⟩:=aZ.grow fT XZ RY;obtain⟨Au,mu,cu,rfl⟩:=fT.one hu;have c2:=dk;obtain⟨Hu,RZ,HgU⟩:=B_ hu qk hgU
     have jb:Hid ((j9 kf k j).length+1<=17592186044416):=by show _<=_;rw[DY];omega
     obtain⟨n_,Hsu,Hcn⟩:=B_ (RU (kf:=kf) (j:=j) aA) (K3 kf k j) Vf;have Aa:Hid (wz.heap.size<=wr.heap.size):=oy.below.size
     have Yk:∀X:World,(X.heap[g]?=wr.heap[g]?)->X.frozen? ⟨g,k,none⟩=false/\X.cell? ⟨g,k,none⟩=some (.slice Au mu cu):=fun X hX=>by
      obtain⟨_,_,hc9,hf9,-⟩:=aZ.at_ XZ RY;constructor
      ·rw[<- hf9];simp only[World.frozen?,hX]
      ·rw[<- dk];exact Zam hX
     have Yl:=zh Yk;have DF:g<wr.heap.size:=World.block_lt_of_cell? wr _ dk;have Wj:=zh DF;clear RY dk hu hUT hgU qk Vf Yk DF xS
     go_upto_region 10 with(at_builtin;(refine sa (base:=wz.heap.size) (v:=.slice Au mu cu) (xs:=j9 kf k j) rfl _ _ rfl rfl (Hu.1.agU (ad _ (aa _))) wr.heap.size cn rfl (by simp[go_sem]) jb (Zak Aa zS) ?_;intro g9 cx w4 jA U3 Ym ael;have vQ:=zh jA;have Hg4:=zh U3;have Hl4:=zh Ym;have hkg:w4.heap[g]?=wr.heap[g]?:=(U3.block g (by have:=Wj.out;simp;omega) (fun e=>HgU.out (by rw[Hu.out.2,<- e];simp))).trans (Below.heap_alloc wr _ g Wj);have cz:=(Yl w4 hkg).2;have fz:=(Yl w4 hkg).1;clear jA U3 Ym ael hkg))
     have eB:aV U wr w4:=((aV.refl U wr).alloc _).trans (by have h7:=aV.agZ Hg4;rw[<- Hu.out.2]at h7;exact h7)
     have hng:∀q∈[g9],q∈U\/wr.heap.size<=q:=fun q hq=>by
      obtain rfl:q=g9:=by simpa using hq
      rcases Hl4.out with h8 | h8
      ·exact .inl (by rw[Hu.out.2,h8];simp)
      ·exact .inr (by rw[h8];simp)
     obtain⟨T2,QE,-⟩:=RZ (.slice (some ⟨g9,0,none⟩) ((j9 kf k j).length+1) cx) (j9 kf k j++[(cn:Int)]) [g9] w4 ⟨vQ,by simp[Value.ownBlock]⟩ eB hng
     rw[<- Hcn.out,<- Hsu.out,n_.out]at QE;obtain⟨w5,vS⟩:=J_ (w4.setCell ⟨g,k,none⟩ (.slice (some ⟨g9,0,none⟩) ((j9 kf k j).length+1) cx))
     have jF:Hid (ab wz w5):=by
      show ab _ _
      rw[vS];exact Below.setCell (Below.grown (oy.out.below.alloc (oy.out.below.size) _) Hg4.out (Zak Aa.out zS) (fun q hq=>(Zad Hu.out.1 q hq).1)) Hg.out _
     rw[<- vS]at QE
     have HT2:Hid (bu w5 wz.heap.size (.slice (some ⟨g,0,none⟩) n.ends.length n.ends.length) (qK n kf k (j+1)) T2):=by
      show bu _ _ _ _ _
      have h7:=QE;exact h7
     rw[<- vS];clear QE vS eB hng c2 cz fz;obtain⟨Ak0,ck0,e0,-,-,R1⟩:=HKz w5 jF;simp only[Value.slice.injEq]at e0;obtain⟨rfl,-,rfl⟩:=e0;obtain⟨bk,ofk,uk,rfl,Wk,Ak1,ck1,rfl,Z4,Z5,R2⟩:=R1 k kr Kv;obtain⟨bk1,aem,rfl,OL⟩:=R2 j _ (Z3 j xK);rw[Z2]at Wk Z4;unfold maxLen at Z5;clear R1 R2;cases G7:kf k j
     ·rw[G7]at OL
      have R3:Hid (js kf k (j+1)=cn):=by show _=_;rw[ss,G7,Hcn.out];simp
      go_wp2;go_roundw
      exact⟨j+1,T2,zO,zN,by rw[R3.out],HT2,jF⟩
      simp[intOf];omega
     ·rw[G7]at OL
      have R3:Hid (js kf k (j+1)=cn+1):=by show _=_;rw[ss,G7,Hcn.out];simp
      go_wp2;go_roundw
      exact⟨j+1,T2,zO,zN,by rw[R3.out];first | rfl | go_num,HT2,jF⟩
      simp[intOf];omega
    ·obtain rfl:j=es.length:=zO
     have si:=OI n kf k;rw[kw.out]at si;have HNx:=zh si;clear si xS;go_wp2;go_roundw
     exact⟨k+1,T,zO,zN,by rw[<- HNx.out];exact XZ,oy⟩
     simp[intOf];omega
  ·obtain rfl:k=n.ends.length:=zO
   have HTO:=zh (show ∀X,ab wr X->bS X (.slice (some ⟨g,0,none⟩) n.ends.length n.ends.length) (qK n kf n.ends.length 0)from fun X hX=>(bu.read Ho.out).agU hX.below)
   have U6:=al z00 eD;have U7:=al z01 eD;have U8:=al z02 eD;have HNe:=zh (show ∀X,ab wr X->oD X (.slice A n.ends.length c) n.ends from fun X hX=>(H.out.agU (kR.out.after (eD.after hX)).below).es)
   obtain⟨ZH,iD⟩:=A_ (show ∀X,ab wr X->bs X (.slice A2 n.ids.length c2) n.ids from fun X hX=>by have:=H.out.agU (kR.out.after (eD.after hX)).below;exact this.2.1) (show ∀X,ab wr X->bs X (.slice A3 n.agT.length c3) n.agT from fun X hX=>by have:=H.agU (kR.after (eD.after hX)).below;exact this.2.2)
   obtain⟨HKa,Ap⟩:=A_ (show ∀X,ab wr X->rz X (.slice AK n.ends.length cK) K from fun X hX=>HKz.out X (eD.after hX)) (show ∀X,ab wr X->bD X w0.heap.size (.slice none 0 0) (.slice none 0 0) (.slice none 0 0)from fun X hX=>HRz.out X (eD.after hX))
   have py:Hid (ab w0 wr):=kR.after eD
   have Hzb:Hid (w0.heap.size+1<=wr.heap.size):=by show _<=_;have h7:=GR.out;have h8:=eD.below.size;omega
   obtain⟨wa,acb⟩:=K_ wr
   rw[acb]at HTO U6 U7 U8 HNe ZH iD HKa Ap py Hzb ⊢;have Ao:=rq;have Rl:=iM;clear acb eD hk aA Ho Hs z00 z01 z02 Ck di;go_upto_region 14 with(fail);refine nV (w0:=wa) [fun V W=>V 0=.pointer (some ⟨w.heap.size,1,none⟩),fun V W=>V 1=.slice A2 n.ids.length c2,fun V W=>Own W wa.heap.size (V 2) n.ids,fun V W=>V 3=.pointer (some ⟨w.heap.size,2,none⟩),fun V W=>V 4=.slice A3 n.agT.length c3,fun V W=>Own W wa.heap.size (V 5) n.agT/\∀j,(V 2).ownBlock=some j->(V 5).ownBlock≠some j,fun V W=>V 6=.agg #[.slice none 0 0,V 2,V 5],fun V W=>rf W wa.heap.size (V 7)] ?_ ?_ 8 zK zK zK (aa _) ?_ ?_
   ·intro r hr V W W' h hs;simp only[Zbe,List.not_mem_nil,or_false]at hr;rcases hr with rfl | rfl | rfl | rfl | rfl | rfl | rfl | rfl
    ·exact h
    ·exact h
    ·exact(Own.since h hs)
    ·exact h
    ·exact h
    ·exact(⟨Own.since h.1 hs,h.2⟩)
    ·exact(h)
    ·exact(h.agU hs)
   ·intro j r hj V V' W h1 h2 h
    match j,hj with
    | 0,hj=>
     obtain rfl:=Zbx hj
     have h3:V 0=.pointer (some ⟨w.heap.size,1,none⟩):=h;show V' 0=.pointer (some ⟨w.heap.size,1,none⟩)
     rw[<- h1];exact h3
    | 1,hj=>
     obtain rfl:=Zbx hj
     have h3:V 1=.slice A2 n.ids.length c2:=h;show V' 1=.slice A2 n.ids.length c2
     rw[<- h1];exact h3
    | 2,hj=>
     obtain rfl:=Zbx hj
     have h3:Own W wa.heap.size (V 2) n.ids:=h;show Own W wa.heap.size (V' 2) n.ids
     rw[<- h1];exact h3
    | 3,hj=>
     obtain rfl:=Zbx hj
     have h3:V 3=.pointer (some ⟨w.heap.size,2,none⟩):=h;show V' 3=.pointer (some ⟨w.heap.size,2,none⟩)
     rw[<- h1];exact h3
    | 4,hj=>
     obtain rfl:=Zbx hj
     have h3:V 4=.slice A3 n.agT.length c3:=h;show V' 4=.slice A3 n.agT.length c3
     rw[<- h1];exact h3
    | 5,hj=>
     obtain rfl:=Zbx hj
     have ZI:=h2 _ rfl 2 (by decide +kernel);have h3:Own W wa.heap.size (V 5) n.agT/\∀j,(V 2).ownBlock=some j->(V 5).ownBlock≠some j:=h;show Own W wa.heap.size (V' 5) n.agT/\∀j,(V' 2).ownBlock=some j->(V' 5).ownBlock≠some j
     rw[<- h1,<- ZI];exact h3
    | 6,hj=>
     obtain rfl:=Zbx hj
     have ZI:=h2 _ rfl 2 (by decide +kernel);have h25:=h2 _ rfl 5 (by decide +kernel);have h3:V 6=.agg #[.slice none 0 0,V 2,V 5]:=h;show V' 6=.agg #[.slice none 0 0,V' 2,V' 5]
     rw[<- h1,<- ZI,<- h25];exact h3
    | 7,hj=>
     obtain rfl:=Zbx hj
     have h3:rf W wa.heap.size (V 7):=h;show rf W wa.heap.size (V' 7)
     rw[<- h1];exact h3
    | j+8,hj=>simp at hj
   ·intro i o hi ho V W hW hd
    match i,ho with
    | 0,ho=>
     cases ho;clear hd hi;refine⟨rfl,?_⟩;simp only[bh,zR8,zG,zA]
     refine du (u:=.pointer (some ⟨w.heap.size,1,none⟩)) (W':=W) (by go_simp) ⟨aa _,?_⟩;exact bX V 0 _
    | 1,ho=>
     cases ho;have e0:V 0=.pointer (some ⟨w.heap.size,1,none⟩):=hd 0 (by decide +kernel);clear hd hi;refine⟨rfl,?_⟩;simp only[bh,zR8,zG,zA]
     refine du (u:=.slice A2 n.ids.length c2) (W':=W) (by go_simp) ⟨aa _,?_⟩;exact bX V 1 _
    | 2,ho=>
     cases ho;have e1:V 1=.slice A2 n.ids.length c2:=hd 1 (by decide +kernel);clear hd hi;refine⟨rfl,?_⟩;simp only[bh,zR8,zG,zA]
     unfold qq
     go_simp
     (with_reducible refine(iU _ n.ids W (ZH.out W hW) Ao.out).mono ?_)
     rintro e W1 ⟨u,rfl,ho,hb⟩;refine⟨_,rfl,hb,?_⟩;show Own _ _ (xF V 2 _ 2) _
     rw[bX];exact Own.mono ho hW.below.size
    | 3,ho=>
     cases ho;clear hd hi;refine⟨rfl,?_⟩;simp only[bh,zR8,zG,zA]
     refine du (u:=.pointer (some ⟨w.heap.size,2,none⟩)) (W':=W) (by go_simp) ⟨aa _,?_⟩;exact bX V 3 _
    | 4,ho=>
     cases ho;have e3:V 3=.pointer (some ⟨w.heap.size,2,none⟩):=hd 3 (by decide +kernel);clear hd hi;refine⟨rfl,?_⟩;simp only[bh,zR8,zG,zA]
     refine du (u:=.slice A3 n.agT.length c3) (W':=W) (by go_simp) ⟨aa _,?_⟩;exact bX V 4 _
    | 5,ho=>
     cases ho;have e4:V 4=.slice A3 n.agT.length c3:=hd 4 (by decide +kernel);have e2:Own W wa.heap.size (V 2) n.ids:=hd 2 (by decide +kernel);clear hd hi;refine⟨rfl,?_⟩;simp only[bh,zR8,zG,zA]
     unfold qq;have E2:=zh e2;clear e2
     go_simp
     (with_reducible refine(iU _ n.agT W (iD.out W hW) Rl.out).mono ?_)
     rintro e W1 ⟨u,rfl,ho,hb⟩;refine⟨_,rfl,hb,?_⟩;show Own _ _ (xF V 5 _ 5) _/\∀j,(xF V 5 _ 2).ownBlock=some j->(xF V 5 _ 5).ownBlock≠some j
     rw[bX,mC V _ (show(2:Nat)≠5 by decide)]
     exact⟨Own.mono ho hW.below.size,fun j hj hk=>zY ((Zad E2.out j hj).2) ((Zad ho j hk).1)⟩
    | 6,ho=>
     cases ho;have e2:Own W wa.heap.size (V 2) n.ids:=hd 2 (by decide +kernel);have e5:Own W wa.heap.size (V 5) n.agT/\∀j,(V 2).ownBlock=some j->(V 5).ownBlock≠some j:=hd 5 (by decide +kernel);clear hd hi;refine⟨rfl,?_⟩;simp only[bh,zR8,zG,zA]
     obtain⟨B6,d6,h6,-⟩:=Own.ints e2;obtain⟨B9,d9,h9,-⟩:=Own.ints e5.1;clear e2 e5
     refine du (u:=.agg #[.slice none 0 0,V 2,V 5]) (W':=W) (by rw[h6,h9];go_simp) ⟨aa _,?_⟩
     show xF V 6 _ 6=.agg #[.slice none 0 0,xF V 6 _ 2,xF V 6 _ 5]
     rw[bX,mC V _ (show(2:Nat)≠6 by decide),mC V _ (show(5:Nat)≠6 by decide)]
    | 7,ho=>
     cases ho;clear hd hi;refine⟨rfl,?_⟩;simp only[bh,zR8,zG,zA]
     refine du (u:=.pointer (some ⟨W.heap.size,0,none⟩)) (W':=W.alloc (.cells #[.slice none 0 0,.slice none 0 0,.slice none 0 0] 30)) (by go_simp) ⟨ad _ (aa _),?_⟩;show rf _ _ (xF V 7 _ 7)
     rw[bX];exact rf.new _ hW.below.size
    | i+8,ho=>omega
   intro V W hW hV;have e0:V 0=.pointer (some ⟨w.heap.size,1,none⟩):=hV 0 (by decide);have e1:V 1=.slice A2 n.ids.length c2:=hV 1 (by decide);have e2:Own W wa.heap.size (V 2) n.ids:=hV 2 (by decide);have e3:V 3=.pointer (some ⟨w.heap.size,2,none⟩):=hV 3 (by decide);have e4:V 4=.slice A3 n.agT.length c3:=hV 4 (by decide);have e5:Own W wa.heap.size (V 5) n.agT/\∀j,(V 2).ownBlock=some j->(V 5).ownBlock≠some j:=hV 5 (by decide);have e6:V 6=.agg #[.slice none 0 0,V 2,V 5]:=hV 6 (by decide);have e7:rf W wa.heap.size (V 7):=hV 7 (by decide);clear hV;simp only[bh,zR8,zG]
   (try simp only[zA])
   simp only[List.drop_succ_cons,List.drop_zero];obtain⟨ob,h7,CT,dK⟩:=e7;obtain⟨BI,dI,h2,-⟩:=id (Own.ints e2);obtain⟨BN,dN,h5,-⟩:=id (Own.ints e5.1);rw[h2,h5]at e6
   have Rn:Hid (Own W wa.heap.size (.slice BI n.ids.length dI) n.ids):=by show Own _ _ _ _;rw[<- h2];exact e2
   have Aq:Hid (Own W wa.heap.size (.slice BN n.agT.length dN) n.agT):=by show Own _ _ _ _;rw[<- h5];exact e5.1
   have Hd3:Hid (∀j,(Value.slice BI n.ids.length dI).ownBlock=some j->(Value.slice BN n.agT.length dN).ownBlock≠some j):=by show ∀j,_;rw[<- h2,<- h5];exact e5.2
   have NP:=zh dK;obtain⟨c0,c1,yG,f0,f1,f2⟩:=dK.box.cells;rw[e0,e1,h2,e3,e4,h5,e6,h7];clear e0 e1 e2 e3 e4 e5 e6 h2 h5 h7 dK V;go_upto_region 15 with(fail);have Ks:bD (((W.setCell ⟨ob,0,none⟩ (.slice none 0 0)).setCell ⟨ob,1,none⟩ (.slice BI n.ids.length dI)).setCell ⟨ob,2,none⟩ (.slice BN n.agT.length dN)) ob (.slice none 0 0) (.slice BI n.ids.length dI) (.slice BN n.agT.length dN):=((NP.out.ahb _).ahh _).ahe _;obtain⟨w4,km⟩:=J_ (((W.setCell ⟨ob,0,none⟩ (.slice none 0 0)).setCell ⟨ob,1,none⟩ (.slice BI n.ids.length dI)).setCell ⟨ob,2,none⟩ (.slice BN n.agT.length dN))
   rw[<- km]at Ks ⊢
   have VQ:Hid (ab wa w4):=by show ab _ _;rw[km];exact(((hW.setCell CT _).setCell CT _).setCell CT _)
   have CU:aV [ob] W w4:=by rw[km];exact((((aV.refl _ _).setCell (.inl zS) _).setCell (.inl zS) _).setCell (.inl zS) _)
   have Kt:=yC Rn NP;have Ku:=yC Aq NP
   have X9:Hid (aw w4 wa.heap.size (.slice none 0 0) (.slice BI n.ids.length dI) (.slice BN n.agT.length dN) ⟨[],n.ids,n.agT⟩ ((Value.slice BI n.ids.length dI).ownBlock.toList++(Value.slice BN n.agT.length dN).ownBlock.toList)/\ob∉(Value.slice BI n.ids.length dI).ownBlock.toList++(Value.slice BN n.agT.length dN).ownBlock.toList):=by
    show _/\_
    refine⟨?_,fun hm=>(Zar.1 hm).elim (fun hm=>Kt (by simpa using hm)) (fun hm=>Ku (by simpa using hm))⟩
    have h1:Own w4 wa.heap.size (.slice BI n.ids.length dI) n.ids:=aD Rn (fun j hj=>CU.block j (Zad Rn j (by simpa using hj)).2 (fun e=>Kt (by simp at e;subst e;simpa using hj)))
    have h2:Own w4 wa.heap.size (.slice BN n.agT.length dN) n.agT:=aD Aq (fun j hj=>CU.block j (Zad Aq j (by simpa using hj)).2 (fun e=>Ku (by simp at e;subst e;simpa using hj)))
    exact DA (S1:=[]) ⟨[],[],World.ownsRow_nil _ _ _ _,rfl,fun k u x T h=>by simp at h,rfl,zS⟩ h1 h2 zS zS Hd3.out
   obtain⟨GK,U9⟩:=A_ Ks CT;clear Ks km CU Kt Ku Hd3 Rn Aq NP c0 c1 yG f0 f1 f2 hW CT;have oh:=VQ.out;go_wp2
   go_loopw [64] (fun i wr=>∃(k:Nat) (v:Value) (S:List Nat),k<=n.ends.length/\i=.int .i64 k/\aw wr wa.heap.size v (.slice BI n.ids.length dI) (.slice BN n.agT.length dN) ⟨(List.range k).map (kF n kf),n.ids,n.agT⟩ S/\ob∉S/\(∀q,v.ownBlock=some q->ob+1<=q)/\bD wr ob v (.slice BI n.ids.length dI) (.slice BN n.agT.length dN)/\ab wa wr) (fun i _=>n.ends.length-(intOf i).toNat)
   case atStart=>exact⟨0,_,_,Zac _,rfl,by simpa using X9.out.1,X9.out.2,by simp[Value.ownBlock],GK.out,VQ.out⟩
   case round=>
    obtain⟨k,v,S,hk,rfl,eB,Ro,V3,dK,eD⟩:=hrel;obtain⟨AV,cV,hV,_⟩:=id eB.read.1;obtain⟨mV,ZJ⟩:=J_ (((List.range k).map (kF n kf)).length)
    simp only[<- ZJ]at hV;have HmV:=zh ZJ;clear ZJ;subst hV;obtain⟨Cs,Rp,U_,uZ⟩:=C_ eB Ro V3 dK;clear oh eB Ro V3
    by_cases aA:k<n.ends.length
    ·obtain⟨es,aU⟩:=au n.ends k aA;have E3:=V2 k es aU;obtain⟨b,CV,cr,ur,ja,Kv,dk,aG⟩:=iK (HNe wa (aa _)) aU;cases ja;obtain⟨A1,y1,rfl,dP,dY,ja⟩:=aG;unfold maxLen at dY;have q5:=al (ae dk) eD;have q55:=q5 wr (aa _);have JT:=zh (show ∀(k:Nat) (x:Int×Int),es[k]?=some x->_ from ja);obtain⟨kr,Kv,Z2,RX⟩:=Hkf.row k es aU;obtain⟨Z3,Hkr⟩:=A_ RX Kv;have kw:Hid (n.ends.getD k []=es):=ag aU;obtain⟨ni,qu⟩:=A_ aU eD;obtain⟨wo,R4⟩:=J_ wr
     have FQ:Hid (ab wa wo):=by rw[R4];exact eD
     rw[<- R4]at Cs uZ
     have Fg:Hid (ab wo wr):=by show ab _ _;rw[R4];exact aa _
     clear dk ja aU dK RX Kv R4;go_wp2
     go_loopw [13,71] (fun u i wq=>∃(j:Nat) (T:List Nat),j<=es.length/\i=.int .i64 j/\eE wq wo.heap.size u (fW n kf k j) T/\ab wo wq) (fun _ i _=>es.length-(intOf i).toNat)
     case atStart=>exact⟨0,[],Zac _,rfl,⟨World.ownsRow_nil _ _ _ _,by simp[Value.ownBlock]⟩,Fg⟩
     case round=>
      obtain⟨j,T,hj,rfl,Qt,xS⟩:=hrel;obtain⟨Jv,oy⟩:=A_ Qt xS;clear eD Qt;have OM:=FQ.after oy
      by_cases xK:j<es.length
      ·obtain⟨⟨x1,x2⟩,hx⟩:=au es j xK
       have uy:bA n k j (x1,x2):=by unfold bA;rw[kw.out];exact hx
       obtain⟨-,p2,p3,p4,p5⟩:=dZ Hn uy;obtain⟨a1,rfl⟩:=Int.eq_ofNat_of_zero_le p2;obtain⟨a2,rfl⟩:=Int.eq_ofNat_of_zero_le p4;simp only[Zag]at p5;have Cw:a1<n.ends.length:=zO
       obtain⟨CZ,-⟩:=h_.1 p5;obtain⟨b1,CH,rfl,qD,jL⟩:=JT j _ hx;have t1:=bc OM qD;have t2:=bc OM jL
       obtain⟨gt,ot,Lt,y,ct,s1,hLt,s2⟩:∃gt ot Lt y ct,(∀W,ab wa W->W.cell? ⟨g,a1,none⟩=some (.slice (some ⟨gt,ot,none⟩) Lt ct)/\Lt<=ct/\ct<=9223372036854775807)/\a2<Lt/\∀W,ab wa W->W.cell? ⟨gt,ot+a2,none⟩=some (.int .i64 ((y:Nat):Int))/\y=js kf a1 a2:=by
        obtain⟨AT,cT,e0,-,-,hAT⟩:=HTO wa (aa _);simp only[Value.slice.injEq]at e0;obtain⟨rfl,-,rfl⟩:=e0;have EW:(qK n kf n.ends.length 0)[a1]?=some (j9 kf a1 (n.ends.getD a1 []).length):=by rw[rA Cw,if_pos Cw]
        obtain⟨b0,o0,u0,e0,xL,AT1,cT1,rfl,qs,qQ,aen⟩:=hAT a1 _ EW;simp only[Option.some.injEq,Addr.mk.injEq,and_true]at e0;obtain⟨rfl,rfl⟩:=e0;obtain⟨b2,o2,rfl,jT⟩:=aen a2 _ (OG kf a1 CZ);rw[DY]at xL qs;rw[Zba]at xL;unfold maxLen at qQ;exact⟨b2,o2,_,_,cT1,fun W hW=>⟨bc hW xL,qs,zO⟩,CZ,fun W hW=>⟨bc hW jT,rfl⟩⟩
       have s3:=fun W hW=>(s1 W hW).1
       have s4:=fun W hW=>(s2 W hW).1
       have Yn:=(s1 wa (aa _)).2;have agl:=Yn.1;have agm:=Yn.2;have Hy:Hid (y=js kf a1 a2):=(s2 wa (aa _)).2;obtain⟨AU,mU,cU,rfl⟩:=gY.one Jv;obtain⟨w8,lz⟩:=J_ (wr.alloc (.cells #[.int .i64 (a1:Int),.int .i64 (a2:Int)] 104))
       obtain⟨eb,tG⟩:=J_ wr.heap.size
       have kK:ab wr w8:=by rw[lz];exact ad _ (aa _)
       have k0:w8.cell? ⟨eb,0,none⟩=some (.int .i64 (a1:Int)):=by rw[lz,tG];simp
       have k1:w8.cell? ⟨eb,1,none⟩=some (.int .i64 (a2:Int)):=by rw[lz,tG];simp
       have K4:ab wa w8/\w8.cell? ⟨eb,0,none⟩=some (.int .i64 (a1:Int))/\w8.cell? ⟨eb,1,none⟩=some (.int .i64 (a2:Int)):=⟨OM.after kK,k0,k1⟩;have lF:=zh K4;have Hoc:Hid (eE w8 wo.heap.size (.slice AU mU cU) (fW n kf k j) T):=gY.agU Jv kK.below
       have Wm:Hid ((Value.slice AU mU cU).ownBlock≠some eb):=fun e=>by have h7:=(gY.range Jv eb (by rw[Jv.out.2,e];simp)).2;omega
       obtain⟨j6,KF,aeo,si⟩:=C_ (oy.out.after kK) lz tG (OJ (kf:=kf) kw.out hx)
       have Hln:Hid ((fW n kf k j).length+1<=1000000):=by show _<=_;rw[jG];have:=E5 kf k j;omega
       have m3:=zw j;obtain⟨Ak0,ck0,e0,-,-,R1⟩:=HKa w8 K4.1;simp only[Value.slice.injEq]at e0;obtain⟨rfl,-,rfl⟩:=e0;obtain⟨bk,ofk,uk,rfl,Wk,Ak1,ck1,rfl,Z4,Z5,R2⟩:=R1 k kr Hkr;obtain⟨bk1,aem,rfl,OL⟩:=R2 j _ (Z3 j xK);rw[Z2]at Wk Z4;unfold maxLen at Z5;clear R1 R2 hx uy p2 p3 p4 p5 qD jL kK K4 k0 k1 lz tG s1 s2 Yn;go_upto_region 22 with(fail);rw[<- KF.out,<- aeo.out];clear t1 t2;cases G7:kf k j
       ·rw[G7]at OL si;clear OM;go_wp2;go_roundw
        exact⟨j+1,T,zO,zN,by have h7:=si.out;simp only[Bool.false_eq_true,if_false,List.append_nil]at h7;rw[h7];exact Hoc,j6⟩
        simp[intOf];omega
       ·rw[G7]at OL si;clear OM;go_upto_region 23 with(fail);clear Wk OL;refine az (fun W=>ab wa W/\W.cell? ⟨eb,0,none⟩=some (.int .i64 (a1:Int))/\W.cell? ⟨eb,1,none⟩=some (.int .i64 (a2:Int))) 15 [false,false,false,false,false,false,false,false,false,false,false,false,false,true,true] zK zK (show ab wa (World.drew w8)/\(World.drew w8).cell? ⟨eb,0,none⟩=some (.int .i64 (a1:Int))/\(World.drew w8).cell? ⟨eb,1,none⟩=some (.int .i64 (a2:Int))from⟨aj lF.1,lF.2.1,lF.2.2⟩) ?_
        simp only[ew,dM,zT]
        iterate 13 (apply bC rfl;(intro W hW;(obtain⟨hW,k0,k1⟩:=hW);go_simp;with_reducible rfl);simp only[zA])
        obtain⟨W,dh⟩:=J_ (World.drew w8)
        rw[<- dh];have hW:=(show ab wa (World.drew w8)/\(World.drew w8).cell? ⟨eb,0,none⟩=some (.int .i64 (a1:Int))/\(World.drew w8).cell? ⟨eb,1,none⟩=some (.int .i64 (a2:Int))from⟨aj lF.1,lF.2.1,lF.2.2⟩);rw[<- dh]at hW;have fK:=zh dh;clear dh
        refine ca (v:=?_) (ob:=?_) rfl ?_ ?_ ?_;rotate_left 2
        (go_simp;first | with_reducible rfl | (refine⟨?_,?_⟩ <;> with_reducible rfl))
        exact⟨ad _ hW.1,bc (am _ _) hW.2.1,bc (am _ _) hW.2.2⟩;intro w9 acc acd
        replace hW:=acd
        clear acd
        have Hd9:Hid (w9=(World.drew w8).alloc (.cells #[.int .i64 (a1:Int),.int .i64 ((y:Nat):Int)] 104)):=by show _=_;rw[acc,fK.out]
        have yK:Hid (eE w9 wo.heap.size (.slice AU mU cU) (fW n kf k j) T):=by show eE _ _ _ _ _;rw[Hd9.out];exact gY.agU (gY.agU Hoc (aj (aa _)).below) (am _ _)
        have Yo:Hid (w9.cell? ⟨w8.heap.size,0,none⟩=some (.int .i64 (a1:Int))/\w9.cell? ⟨w8.heap.size,1,none⟩=some (.int .i64 ((y:Nat):Int))):=by show _/\_;rw[Hd9.out];exact mJ (World.drew w8) _ _ _
        have Z6:Hid (ab wo w9):=by show ab _ _;rw[Hd9.out];exact ad _ (aj j6)
        rw[show W.heap.size=w8.heap.size from by rw[fK.out];rfl]
        clear acc fK
        (try simp only[zA])
        refine dA (fun Q' HQ=>?_)
        (refine lf (base:=wo.heap.size) (v:=.slice AU mU cU) (xs:=fW n kf k j) rfl _ _ rfl rfl yK w8.heap.size ((a1:Int),((y:Nat):Int)) rfl Yo.1 Yo.2 Hln Z6.below.size ?_);intro g9 ON Mz ace Wn aep;have R5:(∀q,(Value.slice AU mU cU).ownBlock=some q->wo.heap.size<=q):=(fun q hq=>(gY.range yK q (by rw[yK.out.2,hq];simp)).1);have acf:ab wa Mz:=(Below.grown hW.1 Wn hW.1.below.size (fun q hq=>Zak FQ.below.size (R5 q hq)));have R6:=aV.agZ Wn;have hen:(⟨eb,0,none⟩:Addr).block∉(Value.slice AU mU cU).ownBlock.toList:=(fun hq=>Wm (by simpa using hq));refine HQ _ _ ⟨acf,R6.cell hen hW.2.1,R6.cell (p:=⟨eb,1,none⟩) hen hW.2.2⟩ ?_;have OO:=zh ace;have Wo:Hid (ab wo Mz):=(show ab _ _ from Below.grown Z6 Wn Z6.below.size R5);clear ace Wn aep R5 acf R6 hen hW
        (try simp only[zA])
        simp only[bP];go_wp2;go_roundw
        exact⟨j+1,[g9],zO,zN,by have h7:=si.out;simp only[if_true,Zag]at h7;rw[h7,<- Hy.out];have h8:=OO.out;simpa using h8,Wo.out⟩
        simp[intOf];omega
      ·obtain rfl:j=es.length:=zO
       obtain⟨AQ,mQ,cQ,rfl⟩:=gY.one Jv
       have HE:Hid (eE wr wo.heap.size (.slice AQ mQ cQ) (kF n kf k) T):=by
        have h7:=Jv.out
        rw[show es.length=(dW n k).length from by unfold dW;rw[kw.out]]at h7
        exact h7
       have oU:ob+1<=wo.heap.size:=uZ.lt;obtain⟨wT,Va⟩:=J_ (kt wo (ob+1))
       have hsT:ab wT wo:=by rw[Va];exact nE wo oU
       have hTs:wT.heap.size=ob+1:=by rw[Va];exact mB wo oU
       have hTa:ab wa wT:=by rw[Va];exact xE FQ oU (Nat.le_succ_of_le U9)
       obtain⟨wA,P_⟩:=J_ (wr.alloc (.cells #[.slice AQ mQ cQ] 59))
       have Mr:Hid (ab wo wA):=by show ab _ _;rw[P_];exact ad _ oy
       have HTA:Hid (ab wT wA):=hsT.after Mr
       have HE5:Hid (eE wA wa.heap.size (.slice AQ mQ cQ) (kF n kf k) T):=by show eE _ _ _ _ _;rw[P_];exact gY.mono (gY.agU HE (am _ _)) FQ.below.size
       have Hc5:Hid (wA.cell? ⟨wr.heap.size,0,none⟩=some (.slice AQ mQ cQ)):=by show _=_;rw[P_];simp
       have N3:=zh (Cs.out.agU Mr.out.below);have HT3:Hid (∀j∈T,wo.heap.size<=j):=fun j hj=>(gY.range HE j hj).1
       have Hd5:=zh (show ∀j∈T,j∉S from fun j hj hS=>zY (HT3.out j hj) ((Cs.out.range j hS).2))
       have Hl5:Hid (((List.range k).map (kF n kf)).length+1<=1000000):=by show _<=_;simp;omega
       have Ct:Hid (wa.heap.size<=wA.heap.size):=(FQ.after Mr).below.size
       have Hq5:Hid (∀q,(Value.slice AV mV cV).ownBlock=some q->wT.heap.size<=q):=fun q hq=>by rw[hTs];exact U_ q hq
       obtain⟨HwA,aeq,EX⟩:=B_ P_ hTa oU;have Cx:Hid (wr.heap.size=wr.heap.size):=rfl;have ks:=(uZ.since oy).box.cells.1;have m4:=zw k;obtain⟨so,z6⟩:=J_ wr.heap.size
       have acg:Hid (wo.heap.size<=so):=by show _<=_;rw[z6];exact oy.below.size
       have aer:=zh z6;have Ms:((List.range k).map (kF n kf)++[kF n kf k]).length=k+1:=zS
       have ach:=zh Ms;clear Va hsT hTs hTa P_ oU OM z6 Ms
       go_wp2_with (at_builtin;rw[<- HwA.out];refine rg (wT:=wT) (v:=.slice AV mV cV) (u:=.slice AQ mQ cQ) rfl _ _ rfl rfl N3 wr.heap.size rfl Hc5 HE5 Hd5 Hl5 HTA Ct Hq5 ?_;intro v6 w6 S6 hv6 iz N7 tH yq;have HvT:=zh hv6;obtain⟨A6,c6,hV6,_⟩:=id iz.read.1;simp only[ach.out]at hV6;subst hV6;have xJ:=zh iz;have HS6:=zh N7;have abV:=zh tH;have C1:Hid (ab wa w6):=aeq.after yq;have N_:=zh ((uZ.out.since Mr.out).only tH Rp.out);have c0:=N_.box.cells.1;have f0:=N_.box.cells.2.2.2.1;clear hv6 iz N7 tH yq)
       go_roundw
       case rel=>
        have agn:wA.heap.size=so+1:=by rw[HwA.out,aer.out];simp
        have Rr:ob∉S6:=fun hm=>by
         have h9:=EX.out;have h10:=acg.out;rcases HS6.out ob hm with h | h | h
         ·exact Rp h
         ·have:=HT3 ob h;omega
         ·omega
        refine⟨k+1,.slice A6 (k+1) c6,S6,zO,zM,?_,Rr,?_,N_.out.ahb _,C1.out.setCell U9.out _⟩
        ·have hx:=xJ.out.agV (w':=w6.setCell ⟨ob,0,none⟩ (.slice A6 (k+1) c6)) (fun j hj=>Zan w6 _ _ j (fun e=>Rr (by have e':j=ob:=e;exact e' ▸ hj)))
         rw[Ff];exact hx
        ·intro q hq;rcases HvT.out q hq with h | h
         ·exact U_ q h
         ·have:=EX.out;have:=acg.out;omega
       simp[intOf];omega
    ·obtain rfl:k=n.ends.length:=zO
     have pL:w0.heap.size=w.heap.size+1:=by rw[cD.out];simp
     have HR:=Ap wr eD;rw[pL]at HR
     have ZK:Hid (w.heap.size+1<wa.heap.size):=by show _<_;have:=Hzb.out;omega
     obtain⟨c0,c1,yG,_,_,_⟩:=uZ.box.cells;obtain⟨d0,d1,d2,f0,f1,f2⟩:=HR.box.cells;obtain⟨qu,HR'⟩:=A_ eD HR;clear HR dK eD aA hk pL;go_wp2;refine bodyPost_ret (v:=.agg #[.slice AV mV cV,.slice BI n.ids.length dI,.slice BN n.agT.length dN]) (by simp[results,Tryz.results209,go_sem, *]) rfl ?_;have hx:=Cs.out;refine⟨_,_,_,S,rfl,?_,?_⟩
     ·refine(hx.agV (fun j hj=>?_)).mono (Zak aY.size py.below.size)
      have zZ:=(Cs.range j hj).1;have CE:=ZK.out;rw[Zan _ _ _ j (by simp;omega),Zan _ _ _ j (by simp;omega),Zan _ _ _ j (by simp;omega)]
     ·exact(((Zbw aY.out ((py.out.after qu.out).below.mono aY.out.size)).setCell zS _).setCell zS _).setCell zS _
def FY (f:Nat->Nat):Nat->Nat->Nat
 | 0,x=>x
 | k+1,x=>FY f k (f x)
theorem Fh (f:Nat->Nat):∀(a b x:Nat),FY f (a+b) x=FY f b (FY f a x)
 | 0,b,x=>by simp[FY]
 | a+1,b,x=>by rw[Nat.succ_add];exact Fh f a b (f x)
def lg (s:Nat):Nat:=s*6364136223846793005+1442695040888963407
theorem aci (P u v x:Nat):(x*(1+4*P*u)+P*(1+2*v))*(1+4*P*u)+P*(1+2*v)=x*(1+4*(P+P)*(u+2*P*u*u))+(P+P)*(1+2*(v+P*u*(1+2*v))):=by grind
theorem R7:∀k:Nat,∃u v:Nat,∀x,FY lg (2^k) x=x*(1+4*2^k*u)+2^k*(1+2*v)
 | 0=>⟨1591034055961698251,721347520444481703,fun x=>by simp[FY,lg]⟩
 | k+1=>by
  obtain⟨u,v,h⟩:=R7 k;refine⟨u+2*2^k*u*u,v+2^k*u*(1+2*v),fun x=>?_⟩
  have e:2^(k+1)=2^k+2^k:=by rw[Nat.pow_succ];omega
  rw[e,Fh,h,h];exact aci _ _ _ _
theorem Wp (P u v z:Nat):(z*(1+4*P*u)+P*(1+2*v))%(2*P)=(z+P)%(2*P):=by
 have e:z*(1+4*P*u)+P*(1+2*v)=z+P+2*P*(2*z*u+v):=by grind
 rw[e,Nat.add_mul_mod_self_left]
theorem Wq (P a b:Nat) (hP:0<P) (h:a%P=b%P):a%(2*P)=b%(2*P)\/(a+P)%(2*P)=b%(2*P):=by
 have e1:a=P*(a/P)+b%P:=by rw[<- h];exact(Nat.div_add_mod a P).symm
 have e2:b=P*(b/P)+b%P:=(Nat.div_add_mod b P).symm;have lt:b%P<P:=Nat.mod_lt _ hP
 generalize b%P=r at *
 generalize a/P=q1 at *
 generalize b/P=q2 at *
 subst e1
 have lw:∀q:Nat,(P*q+r)%(2*P)=P*(q%2)+r:=fun q=>by
  have e3:P*q+r=P*(q%2)+r+2*P*(q/2):=by
   have h9:P*q=P*(2*(q/2)+q%2):=by rw[Nat.div_add_mod]
   rw[h9]
   grind
  rw[e3,Nat.add_mul_mod_self_left];apply Nat.mod_eq_of_lt
  rcases Nat.mod_two_eq_zero_or_one q with h0 | h0 <;> rw[h0] <;> omega
 have e4:P*q1+r+P=P*(q1+1)+r:=by grind
 rw[e2,e4,lw,lw,lw]
 rcases Nat.mod_two_eq_zero_or_one q1 with h0 | h0 <;> rcases Nat.mod_two_eq_zero_or_one q2 with h1 | h1
 ·exact .inl (by rw[h0,h1])
 ·exact .inr (by rw[h1,show(q1+1)%2=1 by omega])
 ·exact .inr (by rw[h1,show(q1+1)%2=0 by omega])
 ·exact .inl (by rw[h0,h1])
theorem H7:∀(k x y:Nat),∃t,t<2^k/\FY lg t x%2^k=y%2^k
 | 0,x,y=>⟨0,zS,by simp[Nat.mod_one]⟩
 | k+1,x,y=>by
  obtain⟨t,h1,h2⟩:=H7 k x y;obtain⟨u,v,h⟩:=R7 k
  have e:2^(k+1)=2*2^k:=by rw[Nat.pow_succ];omega
  have hP:0<2^k:=Nat.pow_pos zO;have h3:=h (FY lg t x);rw[<- Fh]at h3;rw[e];rcases Wq _ _ _ hP h2 with hc | hc
  ·exact⟨t,zO,hc⟩
  ·exact⟨t+2^k,zO,by rw[h3,Wp _ _ _ _];exact hc⟩
def byteOf (s:Nat):Nat:=s/1099511627776%256
theorem K5 (x b:Nat) (hb:b<256):∃t,t<281474976710656/\byteOf (FY lg t x)=b:=by
 obtain⟨t,h1,h2⟩:=H7 48 x (b*1099511627776);refine⟨t,by simpa using h1,?_⟩
 unfold byteOf
 generalize FY lg t x=z at *
 simp only[Nat.reducePow]at h2;omega
def nx (s b:Nat):Nat:=(s*6364136223846793005+b+1442695040888963407)%18446744073709551616
theorem Ba (f:Nat->Nat) (k x:Nat):FY f (k+1) x=FY f k (f x):=rfl
theorem acj (s:Nat):nx (s%18446744073709551616) 0=lg s%18446744073709551616:=by
 unfold nx lg
 omega
theorem R8:∀(t s:Nat),FY (fun s=>nx s 0) t (s%18446744073709551616)=FY lg t s%18446744073709551616
 | 0,s=>rfl
 | t+1,s=>by
  rw[Ba,Ba,<- R8 t (lg s),acj]
theorem R9 (z:Nat):byteOf (z%18446744073709551616)=byteOf z:=by unfold byteOf;omega
theorem R_ (s b:Nat) (hs:s<18446744073709551616) (hb:b<256):∃t,t<281474976710656/\byteOf (FY (fun s=>nx s 0) t s)=b:=by
 obtain⟨t,h1,h2⟩:=K5 s b hb
 refine⟨t,h1,?_⟩
 have:=R8 t s
 rw[Nat.mod_eq_of_lt hs]at this;rw[this,R9]
 exact h2
theorem rB {w:World} {b:Nat} {vs:Array Value} (h:fF w b vs) (i:Nat) (u:Value):fF (w.setCell ⟨b,i,none⟩ u) b (vs.setIfInBounds i u):=by
 obtain⟨r,h⟩:=h;refine⟨r,?_⟩;simp[World.setCell,Zbf,h]
structure CB (cb B:Nat) (w w':World):Prop where
 os:w'.os=w.os
 tape:w'.tape=w.tape
 output:w'.output=w.output
 size:w.heap.size<=w'.heap.size
 block:∀k,k<B->k≠cb->w'.heap[k]?=w.heap[k]?
theorem CB.refl (cb B:Nat) (w:World):CB cb B w w:=⟨rfl,rfl,rfl,Zaj _,fun _ _ _=>rfl⟩
theorem CB.trans {cb B:Nat} {a b c:World} (h:CB cb B a b) (k:CB cb B b c):CB cb B a c:=
 ⟨k.os.trans h.os,k.tape.trans h.tape,k.output.trans h.output,Zak h.size k.size,fun i hi hn=>(k.block i hi hn).trans (h.block i hi hn)⟩
theorem CB.mono {cb B B':Nat} {w w':World} (h:CB cb B w w') (hB:B'<=B):CB cb B' w w':=⟨h.os,h.tape,h.output,h.size,fun k hk hn=>h.block k zO hn⟩
theorem CB.of {cb B:Nat} {w w':World} (h:Below B w w'):CB cb B w w':=⟨h.os,h.tape,h.output,h.size,fun k hk _=>h.block k hk⟩
theorem CB.below {cb B:Nat} {w w':World} (h:CB cb B w w') (hB:B<=cb):Below B w w':=⟨h.os,h.tape,h.output,h.size,fun k hk=>h.block k hk zO⟩
theorem CB.setCell {cb B:Nat} {a w:World} (h:CB cb B a w) {p:Addr} (hp:B<=p.block\/p.block=cb) (u:Value):CB cb B a (w.setCell p u):=
 h.trans ⟨rfl,rfl,rfl,by simp[World.setCell],fun k hk hn=>Zan _ _ _ _ zO⟩
theorem CB.cell {cb B:Nat} {w w':World} (h:CB cb B w w') {p:Addr} (hp:p.block<B) (hn:p.block≠cb):w'.cell? p=w.cell? p:=Zam (w:=w) (h.block p.block hp hn)
theorem MA {w:World} {p:Addr} {v:Value} (h:w.cell? p=some v):p.block<w.heap.size:=by
 rcases Zbi p.block w.heap.size with hl | hl
 ·exact hl
 ·exfalso
  have e:w.heap[p.block]?=none:=Array.getElem?_eq_none hl;simp[World.cell?,e]at h
def bO (cb:Nat) (w0 W:World):Prop:=CB cb w0.heap.size w0 W
theorem bO.refl (cb:Nat) (w:World):bO cb w w:=CB.refl _ _ _
theorem bO.trans {cb:Nat} {w0 W W':World} (h:bO cb w0 W) (h':CB cb W.heap.size W W'):bO cb w0 W':=CB.trans h (h'.mono h.size)
theorem bO.after {cb:Nat} {w0 W W':World} (h:bO cb w0 W) (h':ab W W'):bO cb w0 W':=h.trans (CB.of h')
theorem ay {cb:Nat} {w0:World} {p:Addr} {v:Value} (h:w0.cell? p=some v) (hn:p.block≠cb):∀W,bO cb w0 W->W.cell? p=some v:=fun W hW=>by
 rw[CB.cell hW ?_ hn]
 ·exact h
 ·exact MA h
def Fi (w:World) (cb:Nat) (A:Option Addr) (L:Nat):Prop:=∀k,k<L->∃b off v,A=some ⟨b,off,none⟩/\b<cb/\w.cell? ⟨b,off+k,none⟩=some (.int .u8 v)/\0<=v/\v<256
theorem Fi.agU {w w':World} {cb:Nat} {A:Option Addr} {L:Nat} (h:Fi w cb A L) (hb:∀k,k<cb->w'.heap[k]?=w.heap[k]?):Fi w' cb A L:=fun k hk=>by
 obtain⟨b,off,v,hA,aA,hc,h1,h2⟩:=h k hk
 exact⟨b,off,v,hA,aA,by rw[Zam (w:=w) (hb b aA)];exact hc,h1,h2⟩
structure FZ (w:World) (cb:Nat) (A:Option Addr) (L c p s:Nat):Prop where
 cells:∃r,w.heap[cb]?=some (.cells #[.slice A L c,.int .i64 p,.int .u64 s] r)
 code:Fi w cb A L
 len:L<=1048576
 cap:L<=c
 ahM:s<18446744073709551616
theorem FZ.agU {w w':World} {cb:Nat} {A:Option Addr} {L c p s:Nat} (h:FZ w cb A L c p s) (hb:∀k,k<cb+1->w'.heap[k]?=w.heap[k]?):FZ w' cb A L c p s:=by
 obtain⟨⟨r,h1⟩,h2,h3,h4,h5⟩:=h;exact⟨⟨r,(hb cb zO).trans h1⟩,h2.agU (fun k hk=>hb k zO),h3,h4,h5⟩
theorem FZ.lt {w:World} {cb:Nat} {A:Option Addr} {L c p s:Nat} (h:FZ w cb A L c p s):cb<w.heap.size:=by
 obtain⟨⟨r,h1⟩,_⟩:=h;exact(Zas.1 h1).1
theorem FZ.since {w w':World} {cb:Nat} {A:Option Addr} {L c p s:Nat} (h:FZ w cb A L c p s) (hs:ab w w'):FZ w' cb A L c p s:=h.agU fun k hk=>hs.block k (zX h.lt)
theorem FZ.cellsOf {w:World} {cb:Nat} {A:Option Addr} {L c p s:Nat} (h:FZ w cb A L c p s):w.cell? ⟨cb,0,none⟩=some (.slice A L c)/\w.cell? ⟨cb,1,none⟩=some (.int .i64 p)/\w.cell? ⟨cb,2,none⟩=some (.int .u64 s):=by
 obtain⟨⟨r,h1⟩,_⟩:=h;have hb:fF w cb #[.slice A L c,.int .i64 p,.int .u64 s]:=⟨r,h1⟩;exact⟨(hb.cell 0 _ rfl).1,(hb.cell 1 _ rfl).1,(hb.cell 2 _ rfl).1⟩
theorem K6 (n:Int):IntKind.u64.wrap n=n%18446744073709551616:=by simp[IntKind.wrap,IntKind.bits,IntKind.signed]
theorem Sa (s b:Nat) (hb:b<256):IntKind.u64.wrap (IntKind.u64.wrap (IntKind.u64.wrap ((s:Int)*6364136223846793005)+(b:Int))+1442695040888963407)=((nx s b:Nat):Int):=by
 rw[K6,K6,K6];unfold nx;omega
theorem Sb (z:Nat) (hz:z<18446744073709551616):wrap64 (bits BinOp.and IntKind.u64 ((z:Int)/1099511627776) 255)=((byteOf z:Nat):Int):=by
 have h:=bits_and_u64_nat (z/1099511627776) 255 zO zO;have e:(((z/1099511627776:Nat)):Int)=(z:Int)/1099511627776:=zS
 have e2:z/1099511627776 &&& 255=byteOf z:=Nat.and_two_pow_sub_one_eq_mod _ 8
 rw[e,e2]at h;rw[show((255:Nat):Int)=255 from rfl]at h;rw[h]
 have:byteOf z<256:=by unfold byteOf;omega
 unfold wrap64;omega
theorem MB (s b:Nat):nx s b<18446744073709551616:=Nat.mod_lt _ zO
theorem H8 (cb:Nat) (A:Option Addr) (L c p s:Nat) (w:World) (h:FZ w cb A L c p s) (hp:p<=4611686018427387904):
  Calls Tryz.prog 117 #[.pointer (some ⟨cb,0,none⟩)] w fun e w'=>∃x s':Nat,e=.returned (.int .i64 x)/\x<256/\FZ w' cb A L c (p+1) s'/\(L<=p->s'=nx s 0/\x=byteOf s')/\CB cb w.heap.size w w':=by
 obtain⟨k0,k1,k2⟩:=h.cellsOf;have p0:=ae k0;have p1:=ae k1;have p2:=ae k2;have hL:=h.len;have hc:=h.cap;have H:=zh h;clear h k0 k1 k2
 by_cases aA:p<L
 ·obtain⟨b,off,v,rfl,hb,hv,Qv,hv1⟩:=H.code p aA;have pv:=ae hv;clear hv
  go_enter Tryz.func117,Tryz.ntmps117
  go_upto_region 2 with(fail);refine ap 10 (ab w) zK zK zS (aj (aa _)) ?_;simp only[zT]
  iterate 10 (refine ch rfl ?_;simp only[zA])
  intro W hW;go_upto_region 3 with(fail);obtain⟨v,rfl⟩:∃n:Nat,v=(n:Int):=⟨v.toNat,zO⟩
  have Mn:v<256:=zO
  clear Qv hv1;refine ap 10 (ab w) zK zK zS (aj hW) ?_;simp only[zT]
  iterate 10 (refine ch rfl ?_;simp only[zA])
  clear hW;intro W2 hW
  have dK:fF W2 cb #[.slice (some ⟨b,off,none⟩) L c,.int .i64 p,.int .u64 s]:=by
   obtain⟨r,hr⟩:=H.cells;exact⟨r,(hW.block cb H.lt).trans hr⟩
  have m1:=zw p;have m2:=Sa s v zO;have f1:=(dK.cell 1 _ rfl).2;have f2:=(dK.cell 2 _ rfl).2;have g0:=(dK.cell 0 _ rfl).1;have g1:=(dK.cell 1 _ rfl).1;have g2:=(dK.cell 2 _ rfl).1;have Hb:=zh dK;clear dK p0 p1 p2 pv;go_upto_region 6 with(fail);obtain⟨w3,ib⟩:=J_ ((W2.setCell ⟨cb,1,none⟩ (.int .i64 ((p:Int)+1))).setCell ⟨cb,2,none⟩ (.int .u64 (nx s v:Nat)))
  rw[<- ib]
  have er:fF w3 cb #[.slice (some ⟨b,off,none⟩) L c,.int .i64 ((p:Int)+1),.int .u64 (nx s v:Nat)]:=by rw[ib];exact rB (rB Hb 1 _) 2 _
  have pz:CB cb w.heap.size w w3:=by rw[ib];exact((CB.of hW).setCell (p:=⟨cb,1,none⟩) (.inr rfl) _).setCell (p:=⟨cb,2,none⟩) (.inr rfl) _
  have q0:=ae (er.cell 0 _ rfl).1;have q1:=ae (er.cell 1 _ rfl).1;have q2:=ae (er.cell 2 _ rfl).1;obtain⟨tF,xU⟩:=A_ er pz;clear er pz ib g0 g1 g2 f1 f2 hW Hb;refine ap 10 (ab w3) zK zK zS (aj (aa _)) ?_;simp only[zT]
  iterate 10 (refine ch rfl ?_;simp only[zA])
  intro W4 qS
  have EB:((p:Int)+1<=(L:Int))=True:=by simp;omega
  go_wp2_with fail;go_ret;refine⟨v,nx s v,rfl,Mn,⟨?_,?_,hL,hc,MB _ _⟩,fun h=>absurd h zO,xU.out.trans (CB.mono (CB.of qS) xU.out.size)⟩
  ·obtain⟨r,hr⟩:=tF.out;exact⟨r,(qS.block cb (tF.lt)).trans hr⟩
  ·exact H.code.agU (fun k hk=>by
    have h1:=H.lt;have h2:=xU.size
    exact(qS.block k zO).trans (xU.block k zO zO))
 ·have hge:((p:Int)<(L:Int))=False:=by simp;omega
  go_enter Tryz.func117,Tryz.ntmps117
  go_upto_region 2 with(fail);refine ap 10 (ab w) zK zK zS (aj (aa _)) ?_;simp only[zT]
  iterate 10 (refine ch rfl ?_;simp only[zA])
  intro W2 hW
  have dK:fF W2 cb #[.slice A L c,.int .i64 p,.int .u64 s]:=by
   obtain⟨r,hr⟩:=H.cells;exact⟨r,(hW.block cb H.lt).trans hr⟩
  have m1:=zw p
  have m2:IntKind.u64.wrap (IntKind.u64.wrap (IntKind.u64.wrap ((s:Int)*6364136223846793005))+1442695040888963407)=((nx s 0:Nat):Int):=by have:=Sa s 0 zO;simpa using this
  have f1:=(dK.cell 1 _ rfl).2;have f2:=(dK.cell 2 _ rfl).2;have g0:=(dK.cell 0 _ rfl).1;have g1:=(dK.cell 1 _ rfl).1;have g2:=(dK.cell 2 _ rfl).1;have Hb:=zh dK;clear dK p0 p1 p2;go_upto_region 6 with(fail);obtain⟨w3,ib⟩:=J_ ((W2.setCell ⟨cb,1,none⟩ (.int .i64 ((p:Int)+1))).setCell ⟨cb,2,none⟩ (.int .u64 (nx s 0:Nat)))
  rw[<- ib]
  have er:fF w3 cb #[.slice A L c,.int .i64 ((p:Int)+1),.int .u64 (nx s 0:Nat)]:=by rw[ib];exact rB (rB Hb 1 _) 2 _
  have pz:CB cb w.heap.size w w3:=by rw[ib];exact((CB.of hW).setCell (p:=⟨cb,1,none⟩) (.inr rfl) _).setCell (p:=⟨cb,2,none⟩) (.inr rfl) _
  have q0:=ae (er.cell 0 _ rfl).1;have q1:=ae (er.cell 1 _ rfl).1;have q2:=ae (er.cell 2 _ rfl).1;obtain⟨tF,xU⟩:=A_ er pz;clear er pz ib g0 g1 g2 f1 f2 hW Hb;refine ap 10 (ab w3) zK zK zS (aj (aa _)) ?_;simp only[zT]
  iterate 10 (refine ch rfl ?_;simp only[zA])
  intro W4 qS
  have EB:((p:Int)+1<=(L:Int))=False:=by simp;omega
  go_wp2_with fail;go_ret
  refine⟨byteOf (nx s 0),nx s 0,by rw[Sb _ (MB _ _)];rfl,by unfold byteOf;omega,⟨?_,?_,hL,hc,MB _ _⟩,fun _=>⟨rfl,rfl⟩,xU.out.trans (CB.mono (CB.of qS) xU.out.size)⟩
  ·obtain⟨r,hr⟩:=tF.out;exact⟨r,(qS.block cb (tF.lt)).trans hr⟩
  ·exact H.code.agU (fun k hk=>by
    have h1:=H.lt;have h2:=xU.size
    exact(qS.block k zO).trans (xU.block k zO zO))
theorem Bb (cb:Nat) (A:Option Addr) (L c p s n:Nat) (w:World) (h:FZ w cb A L c p s) (hp:p<=4611686018427387000) (hn:n<=1048576):
  Calls Tryz.prog 65 #[.pointer (some ⟨cb,0,none⟩),.int .i64 n] w fun e w'=>∃x p' s':Nat,e=.returned (.int .i64 x)/\(x=0\/x<n)/\p<=p'/\p'<=p+2/\FZ w' cb A L c p' s'/\(2<=n->n<=200->p'=p+1/\(L<=p->s'=nx s 0/\x=byteOf s'%n))/\CB cb w.heap.size w w':=by
 have H:=zh h;clear h
 go_enter Tryz.func65,Tryz.ntmps65
 by_cases h1:n<=1
 ·have e1:((n:Int)<=1)=True:=by simp;omega
  go_wp2_with fail;go_ret;exact⟨0,p,s,rfl,.inl rfl,Zaj _,zO,H.out,fun h=>absurd h zO,CB.refl _ _ _⟩
 ·have e1:((n:Int)<=1)=False:=by simp;omega
  go_wp2_with fail;refine(H8 cb A L c p s _ H zO).mono ?_;rintro e w1 ⟨x,s1,rfl,hx,dk,qs,mc⟩;obtain⟨HC,U0,Hl⟩:=B_ mc dk qs;clear dk qs mc
  by_cases h2:n<=200
  ·have e2:((200:Int)<(n:Int))=False:=by simp;omega
   have m1:IntKind.i64.wrap ((x:Int)%(n:Int))=(x:Int)%(n:Int):=by
    have q1:=Int.emod_nonneg (x:Int) (show(n:Int)≠0 by omega)
    have q2:=Int.emod_lt_of_pos (x:Int) (show(0:Int)<n by omega)
    exact bU _ zO zO
   have m2:(x:Int).tmod (n:Int)=(x:Int)%(n:Int):=Int.tmod_eq_emod_of_nonneg zO
   have m3:((n:Int)=0)=False:=by simp;omega
   have m4:(n=0)=False:=by simp;omega
   go_wp2_with fail;go_ret;refine⟨x%n,p+1,s1,kO zS,.inr (Nat.mod_lt _ zO),zO,zO,U0,fun _ _=>⟨rfl,fun h=>?_⟩,HC⟩
   obtain⟨q1,q2⟩:=Hl h;exact⟨q1,by rw[q2]⟩
  ·have e2:((200:Int)<(n:Int))=True:=by simp;omega
   have m5:IntKind.i64.wrap ((x:Int)*256)=(x:Int)*256:=bU _ zO zO;go_wp2_with fail;refine(H8 cb A L c (p+1) s1 _ U0 zO).mono ?_;rintro e w2 ⟨y,s2,rfl,hy,jT,CK,sY⟩;obtain⟨Qa,Hc2⟩:=A_ sY jT;clear jT CK sY;obtain⟨z,hz⟩:=J_ (x*256+y:Nat)
   have m6:(x:Int)*256+(y:Int)=(z:Int):=zO
   have m7:IntKind.i64.wrap (z:Int)=(z:Int):=bU _ zO zO
   have m1:IntKind.i64.wrap ((z:Int)%(n:Int))=(z:Int)%(n:Int):=by
    have q1:=Int.emod_nonneg (z:Int) (show(n:Int)≠0 by omega)
    have q2:=Int.emod_lt_of_pos (z:Int) (show(0:Int)<n by omega)
    exact bU _ zO zO
   have m2:(z:Int).tmod (n:Int)=(z:Int)%(n:Int):=Int.tmod_eq_emod_of_nonneg zO
   have m3:((n:Int)=0)=False:=by simp;omega
   have m4:(n=0)=False:=by simp;omega
   clear hz;go_wp2_with fail;go_ret;refine⟨z%n,p+1+1,s2,kO zS,.inr (Nat.mod_lt _ zO),zO,zO,Hc2.out,fun _ h=>absurd h zO,HC.out.trans (Qa.out.mono HC.out.size)⟩
def dj (w:World) (cb:Nat) (A:Option Addr) (L c P:Nat):Prop:=∃p s,FZ w cb A L c p s/\p<=P
theorem dj.lt {w:World} {cb:Nat} {A:Option Addr} {L c P:Nat} (h:dj w cb A L c P):cb<w.heap.size:=by obtain⟨p,s,h,_⟩:=h;exact h.lt
theorem dj.since {w w':World} {cb:Nat} {A:Option Addr} {L c P:Nat} (h:dj w cb A L c P) (hs:ab w w'):dj w' cb A L c P:=by obtain⟨p,s,h,hp⟩:=h;exact⟨p,s,h.since hs,hp⟩
theorem dj.agU {w w':World} {cb:Nat} {A:Option Addr} {L c P:Nat} (h:dj w cb A L c P) (hb:∀k,k<cb+1->w'.heap[k]?=w.heap[k]?):dj w' cb A L c P:=by obtain⟨p,s,h,hp⟩:=h;exact⟨p,s,h.agU hb,hp⟩
theorem dj.mono {w:World} {cb:Nat} {A:Option Addr} {L c P P':Nat} (h:dj w cb A L c P) (hP:P<=P'):dj w cb A L c P':=by obtain⟨p,s,h,hp⟩:=h;exact⟨p,s,h,zO⟩
theorem eG.seen {β:Type} {R:World->Nat->Value->β->List Nat->Prop} (L:eG R) {w w':World} {base cb:Nat} {v:Value} {x:β} {S:List Nat} (h:R w base v x S) (hC:bO cb w w') (hb:cb<base):R w' base v x S:=
 L.agV h fun k hk=>hC.block k (L.range h k hk).2 (zX ((L.range h k hk).1))
theorem aw.seen {w w':World} {base cb:Nat} {a b d:Value} {n:ao} {S:List Nat} (h:aw w base a b d n S) (hC:bO cb w w') (hb:cb<base):aw w' base a b d n S:=
 h.agV fun k hk=>hC.block k (h.range k hk).2 (zX ((h.range k hk).1))
theorem Own.seen {w w':World} {base cb:Nat} {v:Value} {xs:List Int} (h:Own w base v xs) (hC:bO cb w w') (hb:cb<base):Own w' base v xs:=(eG.seen fT (S:=v.ownBlock.toList) ⟨h,rfl⟩ hC hb).1
theorem dF (cb:Nat) (A:Option Addr) (L c P:Nat) (z:Int) (w:World) (h:dj w cb A L c P) (hP:P<=4611686018427387000) (hz:0<=z/\z<=1048576):
  Calls Tryz.prog 65 #[.pointer (some ⟨cb,0,none⟩),.int .i64 z] w fun e w'=>∃x:Nat,e=.returned (.int .i64 x)/\(x=0\/(x:Int)<z)/\dj w' cb A L c (P+2)/\CB cb w.heap.size w w':=by
 obtain⟨p,s,h,hp⟩:=h;obtain⟨n,rfl⟩:∃n:Nat,z=(n:Int):=⟨z.toNat,zO⟩
 refine(Bb cb A L c p s n w h zO zO).mono ?_;rintro e w' ⟨x,p',s',rfl,hx,h1,h2,hc,_,hC⟩;exact⟨x,rfl,zO,⟨p',s',hc,zO⟩,hC⟩
theorem xV (cb:Nat) (A:Option Addr) (L c P:Nat) (z:Int) (w:World) (h:dj w cb A L c P) (hP:P<=4611686018427387000) (hz:0<=z/\z<=1048576):
  Calls Tryz.prog 67 #[.pointer (some ⟨cb,0,none⟩),.int .i64 z] w fun e w'=>∃b:Bool,e=.returned (.bool b)/\dj w' cb A L c (P+2)/\CB cb w.heap.size w w':=by
 have H:=zh h;clear h
 go_enter Tryz.func67,Tryz.ntmps67
 go_wp2_with fail;refine(dF cb A L c P z _ H hP hz).mono ?_;rintro e w1 ⟨x,rfl,-,dk,mc⟩;obtain⟨HC,U0⟩:=A_ mc dk;clear dk mc;go_wp2_with fail;go_ret;exact⟨_,rfl,U0,HC⟩
theorem sA (cb:Nat) (A:Option Addr) (L c P:Nat) (B g q:Nat) (xs:List Int) (w:World) (h:dj w cb A L c P) (hP:P<=4611686018427387000) (ho:Own w B (.slice (some ⟨g,0,none⟩) xs.length q) xs) (hB:cb<B) (hx:1<=xs.length) (uJ:xs.length<=1048576):
  Calls Tryz.prog 46 #[.pointer (some ⟨cb,0,none⟩),.slice (some ⟨g,0,none⟩) xs.length q] w fun e w'=>∃x,e=.returned (.int .i64 x)/\x∈xs/\dj w' cb A L c (P+2)/\CB cb w.heap.size w w':=by
 obtain⟨H,Ho⟩:=A_ h ho;clear h ho
 go_enter Tryz.func46,Tryz.ntmps46
 go_wp2_with fail;refine(dF cb A L c P xs.length _ H hP zO).mono ?_;rintro e w1 ⟨x,rfl,hx3,dk,mc⟩;have ou:x<xs.length:=zO
 obtain⟨y,hy⟩:=au xs x ou;have c1:=(Ho.seen (cb:=cb) mc hB).cell hy;obtain⟨Hy,HC,U0⟩:=B_ hy mc dk;clear dk mc hy hx3;go_wp2_with fail;go_ret;exact⟨y,rfl,Zaq Hy,U0,HC⟩
def tN (n:Nat) (xs:List Int):Prop:=∀x∈xs,0<=x/\x<(n:Int)
theorem tN.set {n:Nat} {xs:List Int} (h:tN n xs) (k:Nat) {x:Int} (hx:0<=x/\x<(n:Int)):tN n (xs.set k x):=fun y hy=>by
 rcases List.mem_or_eq_of_mem_set hy with h1 | h1
 ·exact h y h1
 ·rw[h1];exact hx
theorem Sc (cb:Nat) (A:Option Addr) (L c P n:Nat) (w:World) (h:dj w cb A L c P) (hP:P<=4611686018427000000) (hn:n<=100):
  Calls Tryz.prog 172 #[.pointer (some ⟨cb,0,none⟩),.int .i64 n] w fun e w'=>∃g xs,e=.returned (.slice (some ⟨g,0,none⟩) n n)/\Own w' w.heap.size (.slice (some ⟨g,0,none⟩) n n) xs/\tN n xs/\dj w' cb A L c (P+200)/\CB cb w.heap.size w w':=by
 have H:=zh h;have jW:=h.lt;clear h
 go_enter Tryz.func172,Tryz.ntmps172
 go_wp2_with (at_make;refine lT _ rfl _ _ rfl _ _ n rfl rfl rfl rfl zO ?_;intro w1 gL aP dP;have dw:ab w w1:=aP)
 have yN:=zh dP;clear aP dP
 go_loopw [14] (fun i wr=>∃(k:Nat) (xs:List Int),k<=n/\i=.int .i64 k/\Own wr w.heap.size (.slice (some ⟨w.heap.size,0,none⟩) n n) xs/\tN n xs/\ab w wr/\w.heap.size<wr.heap.size) (fun i _=>n-(intOf i).toNat)
 case atStart=>
  refine⟨0,_,Zac _,rfl,gL,fun x hx=>?_,dw,yN⟩
  obtain⟨h1,rfl⟩:=List.mem_replicate.1 hx;omega
 case round=>
  obtain⟨k,xs,hk,rfl,ho,hB,eD,Wr⟩:=hrel;obtain⟨HB,qu,Ho,OP⟩:=C_ hB eD ho Wr
  by_cases aA:k<n
  ·have f0:=ho.free k
   obtain⟨y,hy⟩:=au xs k (zX ho.len)
   have c0:=ho.cell hy;have m1:=zw k;clear ho hB eD Wr hy gL dw;go_wp2;go_roundw
   case rel=>
    refine⟨k+1,_,zO,zN,Ho.out.set (k:Int),HB.out.set k zO,qu.out.setCell zS _,?_⟩
    show _<(wr.setCell _ _).heap.size
    rw[iC];exact OP
   simp[intOf];omega
  ·obtain rfl:k=n:=zO
   have ago:=zh gL;clear ho hB eD Wr gL dw;have m1:IntKind.i64.wrap ((k:Int)-1)=(k:Int)-1:=bU _ zO zO;obtain⟨wo,rfl⟩:=J_ wr
   go_wp2
   go_loopw [7] (fun i wr=>∃(z:Int) (xs:List Int),-1<=z/\z<(k:Int)/\i=.int .i64 z/\Own wr w.heap.size (.slice (some ⟨w.heap.size,0,none⟩) k k) xs/\tN k xs/\dj wr cb A L c (P+2*(k-z.toNat))/\CB cb w.heap.size w wr/\w.heap.size<wr.heap.size) (fun i _=>(intOf i).toNat)
   case atStart=>exact⟨(k:Int)-1,xs,zO,zO,zM,Ho,HB,(H.since qu).mono zO,CB.of qu,OP⟩
   case round=>
    obtain⟨z,ys,dP,dY,rfl,ho,hB,hc,hC,ack⟩:=hrel;obtain⟨rc,mg,Hc2,Qa,acl⟩:=D_ hB ho hc hC ack;clear ho hB hc hC ack
    by_cases hgt:0<z
    ·obtain⟨j,rfl⟩:∃j:Nat,z=(j:Int):=⟨z.toNat,zO⟩
     have zZ:1<=j:=zO
     have CE:j<k:=zO
     have m2:=zw j;have m3:IntKind.i64.wrap ((j:Int)-1)=(j:Int)-1:=bU _ zO zO;clear dP dY;go_wp2_with fail;refine(dF cb A L c _ ((j:Int)+1) wr Hc2 zO zO).mono ?_;rintro e w3 ⟨x,rfl,hx,pC,pz⟩;have hxk:x<k:=zO
     have gZ:=mg.seen (cb:=cb) pz jW;have ii:=gZ.len;obtain⟨a,ha⟩:=au ys j zO;obtain⟨b,hb⟩:=au ys x zO;have c1:=gZ.cell ha;have c2:=gZ.cell hb;have f1:=gZ.free j;have f2:=gZ.free x;obtain⟨uU,Hc3,xU,Ha,Hbm,jb⟩:=E_ gZ pC pz (rc.out a (Zaq ha)) (rc.out b (Zaq hb)) ii;clear hx gZ pC pz ha hb ii;go_upto_region 13 with(fail);have jA:=uU.set (k:=j) b;have oa:CB cb w.heap.size w3 (w3.setCell ⟨w.heap.size,j,none⟩ (.int .i64 b)):=(CB.refl cb w.heap.size w3).setCell (p:=⟨w.heap.size,j,none⟩) (.inl (Zaj _)) _
     have hk4:∀q,q<cb+1->(w3.setCell ⟨w.heap.size,j,none⟩ (.int .i64 b)).heap[q]?=w3.heap[q]?:=fun q hq=>Zan _ _ _ _ (by show q≠w.heap.size;omega)
     obtain⟨w4,km⟩:=J_ (w3.setCell ⟨w.heap.size,j,none⟩ (.int .i64 b))
     rw[<- km]at jA oa hk4 ⊢
     obtain⟨d,hd⟩:=au (ys.set j b) x (by rw[Zau,jb.out];exact hxk)
     have c4:=jA.cell hd;have f4:=jA.free x;obtain⟨vQ,HC4,Hk4⟩:=B_ jA oa hk4;clear km hd jA oa hk4 c1 c2 f1 f2;go_wp2;go_roundw
     case rel=>
      have hh:w.heap.size<w4.heap.size:=Zal acl (Zak xU.size HC4.size)
      refine⟨(j:Int)-1,(ys.set j b).set x a,zO,zO,zN,vQ.out.set a,(rc.out.set j Hbm.out).set x Ha.out,?_,((Qa.out.trans (xU.out.mono (zX acl.out))).trans HC4.out).setCell (p:=⟨w.heap.size,x,none⟩) (.inl (Zaj _)) _,by rw[iC];exact hh⟩
      have h1:=(Hc3.out.agU Hk4.out).agU (w':=w4.setCell ⟨w.heap.size,x,none⟩ (.int .i64 a)) (fun q hq=>Zan _ _ _ _ (by show q≠w.heap.size;omega))
      exact h1.mono zO
     simp[intOf];omega
    ·have HF:=zh hgt;go_wp2;go_ret;exact⟨w.heap.size,rfl,ys,mg,rc,Hc2.mono zO,Qa⟩
end Go.Proofs.YtnioemnkfojmkaaGreat
