/- Parts of the proof: walks of functions and plain laws. -/
import Derived.Test.YtgmdpppljkmabaaGreatQ0
import Derived.Test.YtgmdpppljkmabaaGreatQ1
import Derived.Test.YtgmdpppljkmabaaGreatQ11
import Derived.Test.YtgmdpppljkmabaaGreatQ5
import Derived.Test.YtgmdpppljkmabaaGreatQ3
import Derived.BigQuiet
import Derived.Test.YtgmdpppljkmabaaGreatQ4
import Derived.Laws.Bits64b
import Derived.Test.YtgmdpppljkmabaaGreatQ2
set_option maxRecDepth 100000
set_option maxHeartbeats 16000000
namespace Go.Proofs.YtgmdpppljkmabaaGreat
open Go Go.RowKit
structure rr (n:ak) (K:List (List Bool)) (kf:Nat->Nat->Bool):Prop where
 len:K.length=n.ends.length
 row:∀(v:Nat) (es:List (Int×Int)),n.ends[v]?=some es->∃row,K[v]?=some row/\row.length=es.length/\∀i,i<es.length->row[i]?=some (kf v i)
def jB (kf:Nat->Nat->Bool) (v m:Nat):List Int:=(List.range m).map fun i=>((iD kf v i:Nat):Int)
theorem GA (kf:Nat->Nat->Bool) (v m:Nat):jB kf v (m+1)=jB kf v m++[((iD kf v m:Nat):Int)]:=by unfold jB;rw[List.range_succ,List.map_append];rfl
theorem Ao (kf:Nat->Nat->Bool) (v m:Nat):(jB kf v m).length=m:=by simp[jB]
theorem KP (kf:Nat->Nat->Bool) (v:Nat) {m i:Nat} (h:i<m):(jB kf v m)[i]?=some ((iD kf v i:Nat):Int):=by
 unfold jB
 rw[List.getElem?_map,List.getElem?_range h];rfl
def oJ (n:ak) (kf:Nat->Nat->Bool) (k j:Nat):List (List Int):=(List.range n.ends.length).map fun v=>if v<k then jB kf v (n.ends.getD v []).length else if v=k then jB kf k j else []
theorem xE (n:ak) (kf:Nat->Nat->Bool) (k j:Nat):(oJ n kf k j).length=n.ends.length:=by simp[oJ]
theorem pw {n:ak} {kf:Nat->Nat->Bool} {k j v:Nat} (h:v<n.ends.length):(oJ n kf k j)[v]?=some (if v<k then jB kf v (n.ends.getD v []).length else if v=k then jB kf k j else []):=by
 unfold oJ
 rw[List.getElem?_map,List.getElem?_range h];rfl
theorem KQ (n:ak) (kf:Nat->Nat->Bool):oJ n kf 0 0=List.replicate n.ends.length []:=by
 unfold oJ;apply List.ext_getElem?
 intro i;rw[List.getElem?_map,List.getElem?_replicate]
 by_cases h:i<n.ends.length
 ·rw[List.getElem?_range h,if_pos h];simp only[Option.map_some,Option.some.injEq];rw[if_neg (by omega)]
  split <;> rfl
 ·rw[List.getElem?_eq_none (by simpa using h),if_neg h];rfl
theorem NN {n:ak} {kf:Nat->Nat->Bool} {k j:Nat} (hk:k<n.ends.length):(oJ n kf k j).set k (jB kf k (j+1))=oJ n kf k (j+1):=by
 apply List.ext_getElem?
 intro i;rw[List.getElem?_set]
 by_cases h:k=i
 ·subst h;rw[if_pos rfl,xE,if_pos hk,pw hk,if_neg (by omega),if_pos rfl]
 ·rw[if_neg h]
  by_cases h2:i<n.ends.length
  ·rw[pw h2,pw h2,if_neg (c:=i=k) (by omega),if_neg (c:=i=k) (by omega)]
  ·rw[List.getElem?_eq_none (by rw[xE];omega),List.getElem?_eq_none (by rw[xE];omega)]
theorem KR (n:ak) (kf:Nat->Nat->Bool) (k:Nat):oJ n kf k (n.ends.getD k []).length=oJ n kf (k+1) 0:=by
 unfold oJ;apply List.map_congr_left
 intro v hv
 by_cases h1:v<k
 ·rw[if_pos h1,if_pos (by omega)]
 ·rw[if_neg h1]
  by_cases h2:v=k
  ·rw[if_pos h2,if_pos (by omega),h2]
  ·rw[if_neg h2,if_neg (by omega)]
   split <;> rfl
theorem KS {n:ak} {kf:Nat->Nat->Bool} {k j:Nat} {es:List (Int×Int)} {x:Int×Int} (bW:n.ends.getD k []=es) (hx:es[j]?=some x):fm n kf k (j+1)=fm n kf k j++(if kf k j=true then [(x.1,((iD kf x.1.toNat x.2.toNat:Nat):Int))] else []):=by
 rw[nE]
 have:(dX n k).getD j (0,0)=x:=by unfold dX;rw[bW];exact au hx
 rw[this]
theorem BZ {n:ak} (kf:Nat->Nat->Bool) (k:Nat):(List.range (k+1)).map (jS n kf)=(List.range k).map (jS n kf)++[jS n kf k]:=by rw[List.range_succ,List.map_append];rfl
theorem lx (W:World) (x y:Value) (t:TypeId):(W.alloc (.cells #[x,y] t)).cell? ⟨W.heap.size,0,none⟩=some x/\(W.alloc (.cells #[x,y] t)).cell? ⟨W.heap.size,1,none⟩=some y:=⟨by simp,by simp⟩
theorem kg {w:World} {ops:Array Oper} {rest:List Oper} {o:Oper} {a:Act} {Q:Exit->Act->World->Prop} (iY:o.guard=none) (s x:Operand)
  (ho:o.op=.call { callee:=.builtin .append,args:=#[s,x],argTypes:=#[81,81] }) {base:Nat} {v:Value} {xs:List (Int×Int)} {T:List Nat} (hs:a.eval s=v) (h:eO w base v xs T) (b:Nat) (y:Int×Int)
  (hx:a.eval x=.slice (some ⟨b,0,none⟩) 1 1) (hc:w.cell? ⟨b,0,none⟩=some (.int .i64 y.1)) (dS:w.cell? ⟨b,1,none⟩=some (.int .i64 y.2)) (hl:xs.length+1<=1000000) (yD:base<=w.heap.size)
  (k:∀g cap w',eO w' base (.slice (some ⟨g,0,none⟩) (xs.length+1) cap) (xs++[y]) [g]->w.grownBy w' v.ownBlock->(v.ownBlock=some g\/g=w.heap.size)->wpList Tryz.prog ops Q rest (a.put o.dst (.slice (some ⟨g,0,none⟩) (xs.length+1) cap)) w'):wpList Tryz.prog ops Q (o::rest) a w:=by
 obtain⟨i0,hi,il,dV,d8⟩:=info_parts C7
 refine wpList_append_lies w iY s x 81 ho base 83 i0 _ 2 16 Tryz.underlying81 hi il dV d8 rfl (by decide) v xs.length (xs.flatMap oW) hs h.1 ⟨b,0,none⟩ 1 1 [.int .i64 y.1,.int .i64 y.2] hx rfl
  (by intro j u hj;match j,hj with | 0,hj=>(simp at hj;subst hj;simpa[Addr.add]using hc) | 1,hj=>(simp at hj;subst hj;simpa[Addr.add]using dS) | j+2,hj=>simp at hj) (by simp[Value.oneCell']) (by omega) (by unfold maxLen;omega) (by omega) yD w.heap.size rfl ?_
 intro g cap w' q1 q2 q3 q4;have hq:w'.ownsRow base 83 2 (.slice (some ⟨g,0,none⟩) (xs.length+1) cap) (xs++[y]).length ((xs++[y]).flatMap oW):=by simpa[oW]using q1
 exact k g cap w' ⟨hq,by simp[Value.ownBlock]⟩ q2 q3
theorem KT (ve vi vn vk:Value) (n:ak) (K:List (List Bool)) (kf:Nat->Nat->Bool) (w:World) (h:aQ w ve vi vn n) (hn:al n=true) (hK:pu w vk K) (Yl:rr n K kf):
  Calls Tryz.prog 239 #[.agg #[ve,vi,vn],vk] w (qZ w (gW n kf)):=by
 have lN:=(aE hn).2;have adM:=zh lN
 have yE:Hid (n.ids.length<=17592186044416):=by show _<=_;have:=An hn;omega
 have eS:Hid (n.aea.length<=17592186044416):=by show _<=_;rw[(tG hn).1];omega
 have Hn:=zh hn;have Hkf:=zh Yl;have yZ:Hid (∀(k:Nat) (es:List (Int×Int)),n.ends[k]?=some es->es.length<=6):=fun (k:Nat) (es:List (Int×Int)) he=>(bX hn he).1
 obtain⟨w0,A,c,A2,c2,A3,c3,rfl,rfl,rfl,eV,hm,fJ,fB,HA,bK,aT,H,dL,dR,dU⟩:=zB h;clear h
 obtain⟨wz,NO⟩:∃wz,wz=w0.alloc (.cells #[.slice none 0 0,.slice none 0 0,.slice none 0 0] 27):=⟨_,rfl⟩
 have eP:aa w0 wz:=by rw[NO];exact ag _ (ad _)
 have HRz:Hid (∀X,aa wz X->bx X w0.heap.size (.slice none 0 0) (.slice none 0 0) (.slice none 0 0)):=fun X hX=>by
  refine bx.since (W:=wz) ?_ hX;rw[NO];show(w0.heap.push _)[w0.heap.size]?=_
  rw[Array.getElem?_push_size]
 have HKz:Hid (∀X,aa wz X->pu X vk K):=fun X hX=>(hK.keep (aT.out)).keep (eP.after hX).below
 have FJ:Hid (wz.heap.size=w0.heap.size+1):=by show _=_;rw[NO];simp
 have z00:=ah dL eP;have z01:=ah dR eP;have z02:=ah dU eP;have Hwz:=zh NO;have jF:=zh eP;obtain⟨AK,cK,rfl,hlK,hmK,-⟩:=hK;unfold maxLen at hmK;have hKl:=Yl.len;have HKl:=zh hKl;clear NO eP dL dR dU hn Yl;rw[hKl]at hlK HKz ⊢;clear hKl
 go_enter Tryz.func239,Tryz.ntmps239
 go_upto_region 1 with(fail);rw[<- bK.out,<- Hwz.out]
 go_upto_region 2 with(at_make;refine NL _ rfl _ _ rfl n.ends.length rfl rfl (by omega) ?_;intro w1 dT ay;have cY:aa wz w1:=ay)
 obtain⟨g,hg⟩:∃g,g=wz.heap.size:=⟨_,rfl⟩
 rw[<- hg]at dT ⊢
 have Hg:Hid (wz.heap.size<=g):=by rw[hg];exact Nat.le_refl _
 have rP:Hid (qQ w1 wz.heap.size (.slice (some ⟨g,0,none⟩) n.ends.length n.ends.length) (oJ n kf 0 0) [g]):=by rw[KQ];exact Y7.mono dT Hg.out
 have dC:Hid (aa wz w1):=cY;clear dT ay hg;go_wp2;clear cY
 go_loopw [23] (fun i wr=>∃(k:Nat) (S:List Nat),k<=n.ends.length/\i=.int .i64 k/\qQ wr wz.heap.size (.slice (some ⟨g,0,none⟩) n.ends.length n.ends.length) (oJ n kf k 0) S/\aa wz wr) (fun i _=>n.ends.length-(intOf i).toNat)
 case atStart=>exact⟨0,_,Nat.zero_le _,rfl,rP.out,dC.out⟩
 case round=>
  obtain⟨k,S,hk,rfl,ho,bA⟩:=hrel;have Ho:=zh ho;have Hs:=zh bA;clear ho
  by_cases hlt:k<n.ends.length
  ·obtain⟨es,bW⟩:=aM n.ends k hlt;have vj:=yZ.out k es bW;obtain⟨b,y4,cr,ur,g_,Bk,dS,yH⟩:=gy H.out.es bW;cases g_;obtain⟨A1,y1,rfl,dV,d8,g_⟩:=yH;unfold maxLen at d8;have r1:=ah (ae dS) jF.out;have r1:=ah r1 Hs.out;have q5:=r1 wr (ad _);have m4:IntKind.i64.wrap ((k:Int)+1)=(k:Int)+1:=aF _ (by omega) (by omega);obtain⟨kr,Bk,UQ,NP⟩:=Hkf.out.row k es bW;have UR:=zh NP;have iL:Hid (n.ends.getD k []=es):=au bW;clear bW dS g_ NP bA;go_wp2
   go_loopw [8,30] (fun c8 i wq=>∃(j:Nat) (T:List Nat),j<=es.length/\i=.int .i64 j/\c8=.int .i64 (iD kf k j:Nat)/\qQ wq wz.heap.size (.slice (some ⟨g,0,none⟩) n.ends.length n.ends.length) (oJ n kf k j) T/\aa wz wq) (fun _ i _=>es.length-(intOf i).toNat)
   case atStart=>exact⟨0,S,Nat.zero_le _,rfl,rfl,Ho.out,Hs.out⟩
   case round=>
    obtain⟨j,T,hj,rfl,rfl,fZ,po⟩:=hrel;have Hoj:=zh fZ;have jJ:=zh po;clear fZ;have Rc:=BB kf k j
    by_cases mH:j<es.length
    ·have m3:IntKind.i64.wrap ((j:Int)+1)=(j:Int)+1:=aF _ (by omega) (by omega);obtain⟨cn,Re⟩:∃cn,iD kf k j=cn:=⟨_,rfl⟩
     rw[Re]at Rc ⊢;have m5:IntKind.i64.wrap ((cn:Int)+1)=(cn:Int)+1:=aF _ (by omega) (by omega);have NQ:(oJ n kf k j)[k]?=some (jB kf k j):=by rw[pw hlt,if_neg (by omega),if_pos rfl]
     obtain⟨u,U,dS,hu,hUT,hgU,sa⟩:=ca.grow iy Hoj.out NQ;obtain⟨Au,mu,cu,rfl⟩:=iy.one hu;have c2:=dS;have Hu:=zh hu;have Za:=zh sa;have HgU:=zh hgU
     have cJ:Hid ((jB kf k j).length+1<=17592186044416):=by show _<=_;rw[Ao];omega
     have B3:=zh (NN (kf:=kf) (j:=j) hlt);have Zb:=zh (GA kf k j);have WY:=zh Re;have CE:Hid (wz.heap.size<=wr.heap.size):=jJ.out.below.size
     have Dc:∀X:World,(X.heap[g]?=wr.heap[g]?)->X.frozen? ⟨g,k,none⟩=false/\X.cell? ⟨g,k,none⟩=some (.slice Au mu cu):=fun X hX=>by
      obtain⟨_,_,WT,hf9,-⟩:=ca.at_ Hoj.out NQ;constructor
      ·rw[<- hf9];simp only[World.frozen?,hX]
      ·rw[<- dS];exact World.cell?_of_block hX
     have Th:=zh Dc;have CJ:g<wr.heap.size:=World.block_lt_of_cell? wr _ dS;have Hgl:=zh CJ;clear NQ dS hu hUT hgU sa Re Dc CJ po
     go_upto_region 10 with(at_builtin;(refine lZ (base:=wz.heap.size) (v:=.slice Au mu cu) (xs:=jB kf k j) rfl _ _ rfl rfl (Hu.out.1.keep (ag _ (ad _))) wr.heap.size cn rfl (by simp[go_sem]) cJ.out (Nat.le_trans CE.out (by simp)) ?_;intro g9 cx w4 oH y6 Te Rb;have ut:=zh oH;have UM:=zh y6;have Hl4:=zh Te;have hkg:w4.heap[g]?=wr.heap[g]?:=(y6.block g (by have:=Hgl.out;simp;omega) (fun e=>HgU.out (by rw[Hu.out.2,<- e];simp))).trans (Below.heap_alloc wr _ g Hgl.out);have cz:=(Th.out w4 hkg).2;have fz:=(Th.out w4 hkg).1;clear oH y6 Te Rb hkg))
     have eY:bg U wr w4:=((bg.refl U wr).alloc _).trans (by have h7:=bg.aee UM.out;rw[<- Hu.out.2]at h7;exact h7)
     have LR:∀q∈[g9],q∈U\/wr.heap.size<=q:=fun q hq=>by
      obtain rfl:q=g9:=by simpa using hq
      rcases Hl4.out with h8 | h8
      ·exact .inl (by rw[Hu.out.2,h8];simp)
      ·exact .inr (by rw[h8];simp)
     obtain⟨T2,MD,-⟩:=Za.out (.slice (some ⟨g9,0,none⟩) ((jB kf k j).length+1) cx) (jB kf k j++[(cn:Int)]) [g9] w4 ⟨ut.out,by simp[Value.ownBlock]⟩ eY LR
     rw[<- WY.out,<- Zb.out,B3.out]at MD;obtain⟨w5,rO⟩:∃w5,w5=w4.setCell ⟨g,k,none⟩ (.slice (some ⟨g9,0,none⟩) ((jB kf k j).length+1) cx):=⟨_,rfl⟩
     have nl:Hid (aa wz w5):=by
      show aa _ _
      rw[rO];exact Below.setCell (Below.grown (jJ.out.below.alloc (jJ.out.below.size) _) UM.out (Nat.le_trans CE.out (by simp)) (fun q hq=>(World.ownsRow.lt Hu.out.1 q hq).1)) Hg.out _
     rw[<- rO]at MD
     have Rf:Hid (qQ w5 wz.heap.size (.slice (some ⟨g,0,none⟩) n.ends.length n.ends.length) (oJ n kf k (j+1)) T2):=by
      show qQ _ _ _ _ _
      have h7:=MD;exact h7
     rw[<- rO];clear MD rO eY LR c2 cz fz;obtain⟨Ak0,ck0,e0,-,-,NR⟩:=HKz.out w5 nl.out;simp only[Value.slice.injEq]at e0;obtain⟨rfl,-,rfl⟩:=e0;obtain⟨bk,ofk,uk,rfl,DU,Ak1,ck1,rfl,US,UT,NS⟩:=NR k kr Bk;obtain⟨bk1,ab1,rfl,KU⟩:=NS j _ (UR.out j mH);rw[UQ]at DU US;unfold maxLen at UT;clear NR NS;cases FZ:kf k j
     ·rw[FZ]at KU
      have UU:Hid (iD kf k (j+1)=cn):=by show _=_;rw[pV,FZ,WY.out];simp
      go_wp2;go_roundw
      case rel=>exact⟨j+1,T2,by omega,by first | rfl | go_num,by rw[UU.out],Rf.out,nl.out⟩
      case measure=>simp[intOf];omega
     ·rw[FZ]at KU
      have UU:Hid (iD kf k (j+1)=cn+1):=by show _=_;rw[pV,FZ,WY.out];simp
      go_wp2;go_roundw
      case rel=>exact⟨j+1,T2,by omega,by first | rfl | go_num,by rw[UU.out];first | rfl | go_num,Rf.out,nl.out⟩
      case measure=>simp[intOf];omega
    ·obtain rfl:j=es.length:=by omega
     have oy:=KR n kf k;rw[iL.out]at oy;have HNx:=zh oy;clear oy po;go_wp2;go_roundw
     case rel=>exact⟨k+1,T,by omega,by first | rfl | go_num,by rw[<- HNx.out];exact Hoj.out,jJ.out⟩
     case measure=>simp[intOf];omega
  ·obtain rfl:k=n.ends.length:=by omega
   have HTO:=zh (show ∀X,aa wr X->DQ X (.slice (some ⟨g,0,none⟩) n.ends.length n.ends.length) (oJ n kf n.ends.length 0)from fun X hX=>(qQ.read Ho.out).keep hX.below)
   have LN:=ah z00 bA;have LO:=ah z01 bA;have LP:=ah z02 bA;have HNe:=zh (show ∀X,aa wr X->nU X (.slice A n.ends.length c) n.ends from fun X hX=>(H.out.keep (jF.out.after (bA.after hX)).below).es)
   have Ud:=zh (show ∀X,aa wr X->aY X (.slice A2 n.ids.length c2) n.ids from fun X hX=>by have:=H.out.keep (jF.out.after (bA.after hX)).below;exact this.2.1)
   have HNn:=zh (show ∀X,aa wr X->aY X (.slice A3 n.aea.length c3) n.aea from fun X hX=>by have:=H.out.keep (jF.out.after (bA.after hX)).below;exact this.2.2)
   have HKa:=zh (show ∀X,aa wr X->pu X (.slice AK n.ends.length cK) K from fun X hX=>HKz.out X (bA.after hX))
   have J1:=zh (show ∀X,aa wr X->bx X w0.heap.size (.slice none 0 0) (.slice none 0 0) (.slice none 0 0)from fun X hX=>HRz.out X (bA.after hX))
   have zW:Hid (aa w0 wr):=jF.out.after bA
   have Hzb:Hid (w0.heap.size+1<=wr.heap.size):=by show _<=_;have h7:=FJ.out;have h8:=bA.below.size;omega
   obtain⟨wa,Zc⟩:∃wa,wr=wa:=⟨_,rfl⟩
   rw[Zc]at HTO LN LO LP HNe Ud HNn HKa J1 zW Hzb ⊢;have si:=yE;have Hnl:=eS;clear Zc bA hk hlt Ho Hs z00 z01 z02 rP dC;go_upto_region 14 with(fail);refine o_ (w0:=wa) 9 [0,0,1,0,0,1,1,2,3] (fun _ W u=>ts W wa.heap.size u) (fun _ W W' u h hs=>h.keep hs) (by kernel_rfl) (by kernel_rfl) (ad _) ?_
   rw[show tm 2 ([0,0,1,0,0,1,1,2,3]:List Nat)=[7]from by decide]
   simp only[ky,List.take_succ_cons,List.take_zero,List.drop_succ_cons,List.drop_zero,if_true,if_false,reduceCtorEq,Nat.reduceEqDiff,reduceIte,Nat.zero_ne_one,Nat.one_ne_zero]
   iterate 4 (apply aR rfl;(intro W hW;go_simp;with_reducible rfl);simp only[zA])
   refine⟨?_,?_⟩
   ·intro j hj;obtain rfl:=List.mem_singleton.1 hj
    intro o ho;cases ho;refine⟨rfl,fun W hW=>?_⟩
    unfold k_
    go_simp
    all_goals (first | exact ts.new _ hW.below.size | exact⟨ts.new _ hW.below.size,ag _ (ad _)⟩)
   intro W hW;intro W1 h1;have Bi:=aa.after hW h1;refine⟨rfl,?_⟩
   go_simp
   (with_reducible refine(mF _ n.ids W1 (Ud.out W1 Bi) si.out).mono ?_)
   rintro e W ⟨u1,rfl,ho,hb⟩;refine⟨_,rfl,hb,?_⟩;have hW:=Bi.after (hb)
   have HI:=zh (show ∀X,aa W X->Own X wa.heap.size u1 n.ids from fun X hX=>(ho.since hX).mono Bi.below.size);clear ho hb
   (try simp only[zA])
   intro W1 h1;have Bi:=aa.after hW h1;refine⟨rfl,?_⟩
   go_simp
   (with_reducible refine(mF _ n.aea W1 (HNn.out W1 Bi) Hnl.out).mono ?_)
   rintro e W ⟨u2,rfl,ho,hb⟩;refine⟨_,rfl,hb,?_⟩;have hW:=Bi.after (hb)
   have Ue:=zh (show ∀X,aa W X->Own X wa.heap.size u1 n.ids from fun X hX=>HI.out X ((h1.trans hb).after hX));have P4:=zh (show ∀X,aa W X->Own X wa.heap.size u2 n.aea from fun X hX=>(ho.since hX).mono Bi.below.size);have XV:=zh (show ∀j,u1.ownBlock=some j->u2.ownBlock≠some j from fun j hj hk=>by have:=(World.ownsRow.lt (HI.out W1 h1) j hj).2;have:=(World.ownsRow.lt ho j hk).1;omega);clear ho hb HI;obtain⟨BI,dI,rfl,_⟩:=id (Ue.out W (ad _)).ints;obtain⟨BN,dN,rfl,_⟩:=id (P4.out W (ad _)).ints
   (try simp only[zA])
   intro W1 h1;have Bi:=aa.after hW h1;refine⟨rfl,?_⟩
   go_simp
   have XW:=h1;have hW:=Bi
   (try simp only[zA])
   intro us W h1 hU;have hW:=aa.after hW h1;have Uf:(fun _ W u=>ts W wa.heap.size u) 7 W (us 7):=by first | exact hU 7 (by simp) | exact hU
   (try simp only[]at Uf)
   simp only[aN,zG]
   (try simp only[zA])
   obtain⟨u7,XX⟩:∃x,x=us 7:=⟨_,rfl⟩
   rw[<- XX]at Uf ⊢;clear XX;clear hU us
   obtain⟨ob,rfl,zX,fe⟩:=Uf;have MO:=zh (Ue.out _ (XW.after h1));have vd:=zh (P4.out _ (XW.after h1));have QF:=zh fe;obtain⟨c0,c1,Bj,f0,f1,f2⟩:=fe.box.cells
   refine uj (W':=?_) rfl ?_ ?_ ?_;rotate_left
   (go_simp;with_reducible rfl)
   exact(((hW.setCell zX _).setCell zX _).setCell zX _)
   (try simp only[zA])
   simp only[bz];have FL:bx (((W.setCell ⟨ob,0,none⟩ (.slice none 0 0)).setCell ⟨ob,1,none⟩ (.slice BI n.ids.length dI)).setCell ⟨ob,2,none⟩ (.slice BN n.aea.length dN)) ob (.slice none 0 0) (.slice BI n.ids.length dI) (.slice BN n.aea.length dN):=((QF.out.aev _).aew _).aex _;obtain⟨w4,iC⟩:∃w4,w4=((W.setCell ⟨ob,0,none⟩ (.slice none 0 0)).setCell ⟨ob,1,none⟩ (.slice BI n.ids.length dI)).setCell ⟨ob,2,none⟩ (.slice BN n.aea.length dN):=⟨_,rfl⟩
   rw[<- iC]at FL ⊢
   have XY:Hid (aa wa w4):=by show aa _ _;rw[iC];exact(((hW.setCell zX _).setCell zX _).setCell zX _)
   have FM:bg [ob] W w4:=by rw[iC];exact((((bg.refl _ _).setCell (.inl (by simp)) _).setCell (.inl (by simp)) _).setCell (.inl (by simp)) _)
   have yY:=vN MO.out QF.out;have Dg:=vN vd.out QF.out
   have MP:Hid (az w4 wa.heap.size (.slice none 0 0) (.slice BI n.ids.length dI) (.slice BN n.aea.length dN) ⟨[],n.ids,n.aea⟩ ((Value.slice BI n.ids.length dI).ownBlock.toList++(Value.slice BN n.aea.length dN).ownBlock.toList)/\ob∉(Value.slice BI n.ids.length dI).ownBlock.toList++(Value.slice BN n.aea.length dN).ownBlock.toList):=by
    show _/\_
    refine⟨?_,fun hm=>(List.mem_append.1 hm).elim (fun hm=>yY (by simpa using hm)) (fun hm=>Dg (by simpa using hm))⟩
    have h1:Own w4 wa.heap.size (.slice BI n.ids.length dI) n.ids:=aK MO.out (fun j hj=>FM.block j (World.ownsRow.lt MO.out j (by simpa using hj)).2 (fun e=>yY (by simp at e;subst e;simpa using hj)))
    have h2:Own w4 wa.heap.size (.slice BN n.aea.length dN) n.aea:=aK vd.out (fun j hj=>FM.block j (World.ownsRow.lt vd.out j (by simpa using hj)).2 (fun e=>Dg (by simp at e;subst e;simpa using hj)))
    exact zU (S1:=[]) ⟨[],[],World.ownsRow_nil _ _ _ _,rfl,fun k u x T h=>by simp at h,rfl,by simp⟩ h1 h2 (by simp) (by simp) XV.out
   have MQ:=zh FL;have P6:=zh zX;clear FL iC FM yY Dg Ue P4 XV MO vd QF c0 c1 Bj f0 f1 f2 hW zX;have nj:=XY.out;go_wp2
   go_loopw [64] (fun i wr=>∃(k:Nat) (v:Value) (S:List Nat),k<=n.ends.length/\i=.int .i64 k/\az wr wa.heap.size v (.slice BI n.ids.length dI) (.slice BN n.aea.length dN) ⟨(List.range k).map (jS n kf),n.ids,n.aea⟩ S/\ob∉S/\(∀q,v.ownBlock=some q->ob+1<=q)/\bx wr ob v (.slice BI n.ids.length dI) (.slice BN n.aea.length dN)/\aa wa wr) (fun i _=>n.ends.length-(intOf i).toNat)
   case atStart=>exact⟨0,_,_,Nat.zero_le _,rfl,by simpa using MP.out.1,MP.out.2,by simp[Value.ownBlock],MQ.out,XY.out⟩
   case round=>
    obtain⟨k,v,S,hk,rfl,eY,MR,Ug,fe,bA⟩:=hrel;obtain⟨AV,cV,hV,_⟩:=id eY.read.1;obtain⟨mV,Uh⟩:∃m,m=((List.range k).map (jS n kf)).length:=⟨_,rfl⟩
    simp only[<- Uh]at hV;have HmV:=zh Uh;clear Uh;subst hV;have s9:=zh eY;have MS:=zh MR;have Ui:=zh Ug;have CF:=zh fe;clear nj eY MR Ug
    by_cases hlt:k<n.ends.length
    ·obtain⟨es,bW⟩:=aM n.ends k hlt;have vj:=yZ.out k es bW;obtain⟨b,y4,cr,ur,g_,Bk,dS,dB⟩:=gy (HNe.out wa (ad _)) bW;cases g_;obtain⟨A1,y1,rfl,dV,d8,g_⟩:=dB;unfold maxLen at d8;have q5:=ah (ae dS) bA;have q55:=q5 wr (ad _);have r9:=zh (show ∀(k:Nat) (x:Int×Int),es[k]?=some x->_ from g_);obtain⟨kr,Bk,UQ,NP⟩:=Hkf.out.row k es bW;have UR:=zh NP;have Hkr:=zh Bk;have iL:Hid (n.ends.getD k []=es):=au bW;have kw:=zh bW;have nA:=zh bA;obtain⟨wo,hwo⟩:∃wo,wo=wr:=⟨_,rfl⟩
     have Zd:Hid (aa wa wo):=by rw[hwo];exact bA
     rw[<- hwo]at s9 CF
     have Ap:Hid (aa wo wr):=by show aa _ _;rw[hwo];exact ad _
     clear dS g_ bW fe NP Bk hwo;go_wp2
     go_loopw [13,71] (fun u i wq=>∃(j:Nat) (T:List Nat),j<=es.length/\i=.int .i64 j/\eO wq wo.heap.size u (fm n kf k j) T/\aa wo wq) (fun _ i _=>es.length-(intOf i).toNat)
     case atStart=>exact⟨0,[],Nat.zero_le _,rfl,⟨World.ownsRow_nil _ _ _ _,by simp[Value.ownBlock]⟩,Ap.out⟩
     case round=>
      obtain⟨j,T,hj,rfl,SD,po⟩:=hrel;have NT:=zh SD;have jJ:=zh po;clear bA SD;have KV:=Zd.out.after jJ.out
      by_cases mH:j<es.length
      ·obtain⟨⟨x1,x2⟩,hx⟩:=aM es j mH
       have Je:bv n k j (x1,x2):=by unfold bv;rw[iL.out];exact hx
       obtain⟨-,p2,p3,p4,p5⟩:=df Hn.out Je;obtain⟨a1,rfl⟩:=Int.eq_ofNat_of_zero_le p2;obtain⟨a2,rfl⟩:=Int.eq_ofNat_of_zero_le p4;simp only[Int.toNat_natCast]at p5;have DL:a1<n.ends.length:=by omega
       obtain⟨Ke,-⟩:=gF.1 p5;obtain⟨b1,oZ,rfl,j6,iq⟩:=r9.out j _ hx;have t1:=bc KV j6;have t2:=bc KV iq
       obtain⟨gt,ot,Lt,y,ct,s1,hLt,s2⟩:∃gt ot Lt y ct,(∀W,aa wa W->W.cell? ⟨g,a1,none⟩=some (.slice (some ⟨gt,ot,none⟩) Lt ct)/\Lt<=ct/\ct<=9223372036854775807)/\a2<Lt/\∀W,aa wa W->W.cell? ⟨gt,ot+a2,none⟩=some (.int .i64 ((y:Nat):Int))/\y=iD kf a1 a2:=by
        obtain⟨AT,cT,e0,-,-,hAT⟩:=HTO.out wa (ad _);simp only[Value.slice.injEq]at e0;obtain⟨rfl,-,rfl⟩:=e0;have vr:(oJ n kf n.ends.length 0)[a1]?=some (jB kf a1 (n.ends.getD a1 []).length):=by rw[pw DL,if_pos DL]
        obtain⟨b0,o0,u0,e0,FU,AT1,cT1,rfl,rN,rM,ab2⟩:=hAT a1 _ vr;simp only[Option.some.injEq,Addr.mk.injEq,and_true]at e0;obtain⟨rfl,rfl⟩:=e0;obtain⟨b2,o2,rfl,ks⟩:=ab2 a2 _ (KP kf a1 Ke);rw[Ao]at FU rN;rw[Nat.zero_add]at FU;unfold maxLen at rM;exact⟨b2,o2,_,_,cT1,fun W hW=>⟨bc hW FU,rN,by omega⟩,Ke,fun W hW=>⟨bc hW ks,rfl⟩⟩
       have s3:=fun W hW=>(s1 W hW).1
       have s4:=fun W hW=>(s2 W hW).1
       have NU:=(s1 wa (ad _)).2;have adN:=NU.1;have adO:=NU.2;have Hy:Hid (y=iD kf a1 a2):=(s2 wa (ad _)).2;obtain⟨AU,mU,cU,rfl⟩:=ip.one NT.out;obtain⟨w8,kH⟩:∃w8,w8=wr.alloc (.cells #[.int .i64 (a1:Int),.int .i64 (a2:Int)] 83):=⟨_,rfl⟩
       obtain⟨eb,Jf⟩:∃eb,eb=wr.heap.size:=⟨_,rfl⟩
       have mc:aa wr w8:=by rw[kH];exact ag _ (ad _)
       have k0:w8.cell? ⟨eb,0,none⟩=some (.int .i64 (a1:Int)):=by rw[kH,Jf];simp
       have k1:w8.cell? ⟨eb,1,none⟩=some (.int .i64 (a2:Int)):=by rw[kH,Jf];simp
       have WZ:aa wa w8/\w8.cell? ⟨eb,0,none⟩=some (.int .i64 (a1:Int))/\w8.cell? ⟨eb,1,none⟩=some (.int .i64 (a2:Int)):=⟨KV.after mc,k0,k1⟩;have lp:=zh WZ;have Ti:Hid (eO w8 wo.heap.size (.slice AU mU cU) (fm n kf k j) T):=ip.keep NT.out mc.below
       have UV:Hid ((Value.slice AU mU cU).ownBlock≠some eb):=fun e=>by have h7:=(ip.range NT.out eb (by rw[NT.out.2,e];simp)).2;omega
       have kt:=zh (jJ.out.after mc);have Kc:=zh kH;have ab3:=zh Jf;have oy:=zh (KS (kf:=kf) iL.out hx)
       have NE:Hid ((fm n kf k j).length+1<=1000000):=by show _<=_;rw[i_];have:=BB kf k j;omega
       have m3:IntKind.i64.wrap ((j:Int)+1)=(j:Int)+1:=aF _ (by omega) (by omega);obtain⟨Ak0,ck0,e0,-,-,NR⟩:=HKa.out w8 WZ.1;simp only[Value.slice.injEq]at e0;obtain⟨rfl,-,rfl⟩:=e0;obtain⟨bk,ofk,uk,rfl,DU,Ak1,ck1,rfl,US,UT,NS⟩:=NR k kr Hkr.out;obtain⟨bk1,ab1,rfl,KU⟩:=NS j _ (UR.out j mH);rw[UQ]at DU US;unfold maxLen at UT;clear NR NS hx Je p2 p3 p4 p5 j6 iq mc WZ k0 k1 kH Jf s1 s2 NU;go_upto_region 22 with(fail);rw[<- Kc.out,<- ab3.out];clear t1 t2;cases FZ:kf k j
       ·rw[FZ]at KU oy;clear KV;go_wp2;go_roundw
        case rel=>exact⟨j+1,T,by omega,by first | rfl | go_num,by have h7:=oy.out;simp only[Bool.false_eq_true,if_false,List.append_nil]at h7;rw[h7];exact Ti.out,kt.out⟩
        case measure=>simp[intOf];omega
       ·rw[FZ]at KU oy;clear KV;go_upto_region 23 with(fail);clear DU KU;refine aL (fun W=>aa wa W/\W.cell? ⟨eb,0,none⟩=some (.int .i64 (a1:Int))/\W.cell? ⟨eb,1,none⟩=some (.int .i64 (a2:Int))) 15 [false,false,false,false,false,false,false,false,false,false,false,false,false,true,true] (by kernel_rfl) (by kernel_rfl) (show aa wa (World.drew w8)/\(World.drew w8).cell? ⟨eb,0,none⟩=some (.int .i64 (a1:Int))/\(World.drew w8).cell? ⟨eb,1,none⟩=some (.int .i64 (a2:Int))from⟨aj lp.out.1,lp.out.2.1,lp.out.2.2⟩) ?_
        simp only[eE,ea,zT]
        iterate 13 (apply bV rfl;(intro W hW;(obtain⟨hW,k0,k1⟩:=hW);go_simp;with_reducible rfl);simp only[zA])
        obtain⟨W,dE⟩:∃W,W=World.drew w8:=⟨_,rfl⟩
        rw[<- dE];have hW:=(show aa wa (World.drew w8)/\(World.drew w8).cell? ⟨eb,0,none⟩=some (.int .i64 (a1:Int))/\(World.drew w8).cell? ⟨eb,1,none⟩=some (.int .i64 (a2:Int))from⟨aj lp.out.1,lp.out.2.1,lp.out.2.2⟩);rw[<- dE]at hW;have gA:=zh dE;clear dE
        refine dD (v:=?_) (ob:=?_) rfl ?_ ?_ ?_;rotate_left 2
        (go_simp;first | with_reducible rfl | (refine⟨?_,?_⟩ <;> with_reducible rfl))
        exact⟨ag _ hW.1,bc (am _ _) hW.2.1,bc (am _ _) hW.2.2⟩;intro w9 Ze Zf
        replace hW:=Zf
        clear Zf
        have Hd9:Hid (w9=(World.drew w8).alloc (.cells #[.int .i64 (a1:Int),.int .i64 ((y:Nat):Int)] 83)):=by show _=_;rw[Ze,gA.out]
        have vP:Hid (eO w9 wo.heap.size (.slice AU mU cU) (fm n kf k j) T):=by show eO _ _ _ _ _;rw[Hd9.out];exact ip.keep (ip.keep Ti.out (aj (ad _)).below) (am _ _)
        have Hc9:Hid (w9.cell? ⟨w8.heap.size,0,none⟩=some (.int .i64 (a1:Int))/\w9.cell? ⟨w8.heap.size,1,none⟩=some (.int .i64 ((y:Nat):Int))):=by show _/\_;rw[Hd9.out];exact lx (World.drew w8) _ _ _
        have UW:Hid (aa wo w9):=by show aa _ _;rw[Hd9.out];exact ag _ (aj kt.out)
        rw[show W.heap.size=w8.heap.size from by rw[gA.out];rfl]
        clear Ze gA
        (try simp only[zA])
        refine ee (fun Q' HQ=>?_)
        (refine kg (base:=wo.heap.size) (v:=.slice AU mU cU) (xs:=fm n kf k j) rfl _ _ rfl rfl vP.out w8.heap.size ((a1:Int),((y:Nat):Int)) rfl Hc9.out.1 Hc9.out.2 NE.out UW.out.below.size ?_);intro g9 GB Ar Zg Rg ab4;have NV:(∀q,(Value.slice AU mU cU).ownBlock=some q->wo.heap.size<=q):=(fun q hq=>(ip.range vP.out q (by rw[vP.out.2,hq];simp)).1);have Zh:aa wa Ar:=(Below.grown hW.1 Rg hW.1.below.size (fun q hq=>Nat.le_trans Zd.out.below.size (NV q hq)));have NW:=bg.aee Rg;have W8:(⟨eb,0,none⟩:Addr).block∉(Value.slice AU mU cU).ownBlock.toList:=(fun hq=>UV.out (by simpa using hq));refine HQ _ _ ⟨Zh,NW.cell W8 hW.2.1,NW.cell (p:=⟨eb,1,none⟩) W8 hW.2.2⟩ ?_;have ab5:=zh Zg;have ab6:Hid (aa wo Ar):=(show aa _ _ from Below.grown UW.out Rg UW.out.below.size NV);clear Zg Rg ab4 NV Zh NW W8 hW
        (try simp only[zA])
        simp only[bz];go_wp2;go_roundw
        case rel=>exact⟨j+1,[g9],by omega,by first | rfl | go_num,by have h7:=oy.out;simp only[if_true,Int.toNat_natCast]at h7;rw[h7,<- Hy.out];have h8:=ab5.out;simpa using h8,ab6.out⟩
        case measure=>simp[intOf];omega
      ·obtain rfl:j=es.length:=by omega
       obtain⟨AQ,mQ,cQ,rfl⟩:=ip.one NT.out
       have HE:Hid (eO wr wo.heap.size (.slice AQ mQ cQ) (jS n kf k) T):=by
        have h7:=NT.out
        rw[show es.length=(dX n k).length from by unfold dX;rw[iL.out]]at h7
        exact h7
       have qE:ob+1<=wo.heap.size:=CF.out.lt;obtain⟨wT,P8⟩:∃wT,wT=l0 wo (ob+1):=⟨_,rfl⟩
       have XZ:aa wT wo:=by rw[P8];exact pd wo qE
       have WK:wT.heap.size=ob+1:=by rw[P8];exact li wo qE
       have WL:aa wa wT:=by rw[P8];exact uh Zd.out qE (Nat.le_succ_of_le P6.out)
       obtain⟨wA,L7⟩:∃wA,wA=wr.alloc (.cells #[.slice AQ mQ cQ] 81):=⟨_,rfl⟩
       have J2:Hid (aa wo wA):=by show aa _ _;rw[L7];exact ag _ jJ.out
       have HTA:Hid (aa wT wA):=XZ.after J2.out
       have HE5:Hid (eO wA wa.heap.size (.slice AQ mQ cQ) (jS n kf k) T):=by show eO _ _ _ _ _;rw[L7];exact ip.mono (ip.keep HE.out (am _ _)) Zd.out.below.size
       have E8:Hid (wA.cell? ⟨wr.heap.size,0,none⟩=some (.slice AQ mQ cQ)):=by show _=_;rw[L7];simp
       have J3:=zh (s9.out.keep J2.out.below);have X5:Hid (∀j∈T,wo.heap.size<=j):=fun j hj=>(ip.range HE.out j hj).1
       have Hd5:=zh (show ∀j∈T,j∉S from fun j hj hS=>by have:=X5.out j hj;have:=(s9.out.range j hS).2;omega)
       have Hl5:Hid (((List.range k).map (jS n kf)).length+1<=1000000):=by show _<=_;simp;omega
       have E9:Hid (wa.heap.size<=wA.heap.size):=(Zd.out.after J2.out).below.size
       have QG:Hid (∀q,(Value.slice AV mV cV).ownBlock=some q->wT.heap.size<=q):=fun q hq=>by rw[WK];exact Ui.out q hq
       have HwA:=zh L7;have ab7:=zh WL;have P9:=zh qE;have Hws:Hid (wr.heap.size=wr.heap.size):=rfl;have nu:=(CF.out.since jJ.out).box.cells.1;have m4:IntKind.i64.wrap ((k:Int)+1)=(k:Int)+1:=aF _ (by omega) (by omega);obtain⟨so,hso⟩:∃so,so=wr.heap.size:=⟨_,rfl⟩
       have Zi:Hid (wo.heap.size<=so):=by show _<=_;rw[hso];exact jJ.out.below.size
       have ab8:=zh hso;have IQ:((List.range k).map (jS n kf)++[jS n kf k]).length=k+1:=by simp
       have Zj:=zh IQ;clear P8 XZ WK WL L7 qE KV hso IQ
       go_wp2_with (at_builtin;rw[<- HwA.out];refine sg (wT:=wT) (v:=.slice AV mV cV) (u:=.slice AQ mQ cQ) rfl _ _ rfl rfl J3.out wr.heap.size rfl E8.out HE5.out Hd5.out Hl5.out HTA.out E9.out QG.out ?_;intro v6 w6 S6 X6 vf X7 vg Bl;have HvT:=zh X6;obtain⟨A6,c6,X9,_⟩:=id vf.read.1;simp only[Zj.out]at X9;subst X9;have IP:=zh vf;have HS6:=zh X7;have X8:=zh vg;have Zk:Hid (aa wa w6):=ab7.out.after Bl;have J4:=zh ((CF.out.since J2.out).only vg MS.out);have c0:=J4.out.box.cells.1;have f0:=J4.out.box.cells.2.2.2.1;clear X6 vf X7 vg Bl)
       go_roundw
       case rel=>
        have adP:wA.heap.size=so+1:=by rw[HwA.out,ab8.out];simp
        have MT:ob∉S6:=fun hm=>by
         have h9:=P9.out;have h10:=Zi.out;rcases HS6.out ob hm with h | h | h
         ·exact MS.out h
         ·have:=X5.out ob h;omega
         ·omega
        refine⟨k+1,.slice A6 (k+1) c6,S6,by omega,by go_num,?_,MT,?_,J4.out.aev _,Zk.out.setCell P6.out _⟩
        ·have hx:=IP.out.aeb (w':=w6.setCell ⟨ob,0,none⟩ (.slice A6 (k+1) c6)) (fun j hj=>Below.heap_setCell w6 _ _ j (fun e=>MT (by have e':j=ob:=e;exact e' ▸ hj)))
         rw[BZ];exact hx
        ·intro q hq;rcases HvT.out q hq with h | h
         ·exact Ui.out q h
         ·have:=P9.out;have:=Zi.out;omega
       case measure=>simp[intOf];omega
    ·obtain rfl:k=n.ends.length:=by omega
     have nk:w0.heap.size=w.heap.size+1:=by rw[bK.out];simp
     have HR:=J1.out wr bA;rw[nk]at HR
     have Uk:Hid (w.heap.size+1<wa.heap.size):=by show _<_;have:=Hzb.out;omega
     obtain⟨c0,c1,Bj,_,_,_⟩:=CF.out.box.cells;obtain⟨d0,d1,d2,f0,f1,f2⟩:=HR.box.cells;have nA:=zh bA;have HR':=zh HR;clear HR fe bA hlt hk nk;go_wp2;refine bodyPost_ret (v:=.agg #[.slice AV mV cV,.slice BI n.ids.length dI,.slice BN n.aea.length dN]) (by simp[results,Tryz.results239,go_sem, *]) rfl ?_;have hx:=s9.out;refine⟨_,_,_,S,rfl,?_,?_⟩
     ·refine(hx.aeb (fun j hj=>?_)).mono (Nat.le_trans aT.out.size zW.out.below.size)
      have uf:=(s9.out.range j hj).1;have yQ:=Uk.out;rw[Below.heap_setCell _ _ _ j (by simp;omega),Below.heap_setCell _ _ _ j (by simp;omega),Below.heap_setCell _ _ _ j (by simp;omega)]
     ·exact(((Below.trans aT.out ((zW.out.after nA.out).below.mono aT.out.size)).setCell (by simp) _).setCell (by simp) _).setCell (by simp) _
def CL (f:Nat->Nat):Nat->Nat->Nat
 | 0,x=>x
 | k+1,x=>CL f k (f x)
theorem B4 (f:Nat->Nat):∀(a b x:Nat),CL f (a+b) x=CL f b (CL f a x)
 | 0,b,x=>by simp[CL]
 | a+1,b,x=>by rw[Nat.succ_add];exact B4 f a b (f x)
def lg (s:Nat):Nat:=s*6364136223846793005+1442695040888963407
theorem Zl (P u v x:Nat):(x*(1+4*P*u)+P*(1+2*v))*(1+4*P*u)+P*(1+2*v)=x*(1+4*(P+P)*(u+2*P*u*u))+(P+P)*(1+2*(v+P*u*(1+2*v))):=by grind
theorem NX:∀k:Nat,∃u v:Nat,∀x,CL lg (2^k) x=x*(1+4*2^k*u)+2^k*(1+2*v)
 | 0=>⟨1591034055961698251,721347520444481703,fun x=>by simp[CL,lg]⟩
 | k+1=>by
  obtain⟨u,v,h⟩:=NX k;refine⟨u+2*2^k*u*u,v+2^k*u*(1+2*v),fun x=>?_⟩
  have e:2^(k+1)=2^k+2^k:=by rw[Nat.pow_succ];omega
  rw[e,B4,h,h];exact Zl _ _ _ _
theorem Rh (P u v z:Nat):(z*(1+4*P*u)+P*(1+2*v))%(2*P)=(z+P)%(2*P):=by
 have e:z*(1+4*P*u)+P*(1+2*v)=z+P+2*P*(2*z*u+v):=by grind
 rw[e,Nat.add_mul_mod_self_left]
theorem Ri (P a b:Nat) (hP:0<P) (h:a%P=b%P):a%(2*P)=b%(2*P)\/(a+P)%(2*P)=b%(2*P):=by
 have e1:a=P*(a/P)+b%P:=by rw[<- h];exact(Nat.div_add_mod a P).symm
 have e2:b=P*(b/P)+b%P:=(Nat.div_add_mod b P).symm;have lt:b%P<P:=Nat.mod_lt _ hP
 generalize b%P=r at *
 generalize a/P=q1 at *
 generalize b/P=q2 at *
 subst e1
 have rJ:∀q:Nat,(P*q+r)%(2*P)=P*(q%2)+r:=fun q=>by
  have e3:P*q+r=P*(q%2)+r+2*P*(q/2):=by
   have h9:P*q=P*(2*(q/2)+q%2):=by rw[Nat.div_add_mod]
   rw[h9]
   grind
  rw[e3,Nat.add_mul_mod_self_left];apply Nat.mod_eq_of_lt
  rcases Nat.mod_two_eq_zero_or_one q with h0 | h0 <;> rw[h0] <;> omega
 have e4:P*q1+r+P=P*(q1+1)+r:=by grind
 rw[e2,e4,rJ,rJ,rJ]
 rcases Nat.mod_two_eq_zero_or_one q1 with h0 | h0 <;> rcases Nat.mod_two_eq_zero_or_one q2 with h1 | h1
 ·exact .inl (by rw[h0,h1])
 ·exact .inr (by rw[h1,show(q1+1)%2=1 by omega])
 ·exact .inr (by rw[h1,show(q1+1)%2=0 by omega])
 ·exact .inl (by rw[h0,h1])
theorem DV:∀(k x y:Nat),∃t,t<2^k/\CL lg t x%2^k=y%2^k
 | 0,x,y=>⟨0,by simp,by simp[Nat.mod_one]⟩
 | k+1,x,y=>by
  obtain⟨t,h1,h2⟩:=DV k x y;obtain⟨u,v,h⟩:=NX k
  have e:2^(k+1)=2*2^k:=by rw[Nat.pow_succ];omega
  have hP:0<2^k:=Nat.pow_pos (by omega);have h3:=h (CL lg t x);rw[<- B4]at h3;rw[e];rcases Ri _ _ _ hP h2 with hc | hc
  ·exact⟨t,by omega,hc⟩
  ·exact⟨t+2^k,by omega,by rw[h3,Rh _ _ _ _];exact hc⟩
def byteOf (s:Nat):Nat:=s/1099511627776%256
theorem GC (x b:Nat) (hb:b<256):∃t,t<281474976710656/\byteOf (CL lg t x)=b:=by
 obtain⟨t,h1,h2⟩:=DV 48 x (b*1099511627776);refine⟨t,by simpa using h1,?_⟩
 unfold byteOf
 generalize CL lg t x=z at *
 simp only[Nat.reducePow]at h2;omega
def nx (s b:Nat):Nat:=(s*6364136223846793005+b+1442695040888963407)%18446744073709551616
theorem xF (f:Nat->Nat) (k x:Nat):CL f (k+1) x=CL f k (f x):=rfl
theorem Zm (s:Nat):nx (s%18446744073709551616) 0=lg s%18446744073709551616:=by
 unfold nx lg
 omega
theorem NY:∀(t s:Nat),CL (fun s=>nx s 0) t (s%18446744073709551616)=CL lg t s%18446744073709551616
 | 0,s=>rfl
 | t+1,s=>by
  rw[xF,xF,<- NY t (lg s),Zm]
theorem N3 (z:Nat):byteOf (z%18446744073709551616)=byteOf z:=by unfold byteOf;omega
theorem N_ (s b:Nat) (hs:s<18446744073709551616) (hb:b<256):∃t,t<281474976710656/\byteOf (CL (fun s=>nx s 0) t s)=b:=by
 obtain⟨t,h1,h2⟩:=GC s b hb
 refine⟨t,h1,?_⟩
 have:=NY t s
 rw[Nat.mod_eq_of_lt hs]at this;rw[this,N3]
 exact h2
section
variable {ops : Array Oper} {rest : List Oper} {o : Oper} {a : Act} {Q : Exit → Act → World → Prop}
end
section
variable {ops : Array Oper} {rest : List Oper} {o : Oper} {a : Act} {Q : Exit → Act → World → Prop}
end
section
variable {ops : Array Oper} {rest : List Oper} {o : Oper} {a : Act} {Q : Exit → Act → World → Prop}
end
section
open Go.ChangeShapes Go.WideShapes Go.ChangeAt Go.Joins Go.Deep
variable {H : Type} {enc : TypeId × Value → H} {W : World}
end
structure ASt where
 rounds:List Int
 before:List Int
 now:List Int
 aeU:List (List Int)
 aeT:List (List (List (Int×Int)))
theorem jC (w:World) (p:Addr) (u:Value):(w.setCell p u).heap.size=w.heap.size:=by simp[World.setCell]
def mR (w:World) (b:Nat) (vs:Array Value):Prop:=∃r,w.heap[b]?=some (.cells vs r)
theorem mR.lt {w:World} {b:Nat} {vs:Array Value} (h:mR w b vs):b<w.heap.size:=by
 obtain⟨r,h⟩:=h;exact(Array.getElem?_eq_some_iff.1 h).1
theorem mR.set {w:World} {b:Nat} {vs:Array Value} {u:Value} {p:Addr} (h:mR w b vs) (ha:p.block≠b):mR (w.setCell p u) b vs:=by
 obtain⟨r,h⟩:=h
 exact⟨r,by rw[Below.heap_setCell _ _ _ _ (fun e=>ha e.symm)];exact h⟩
theorem mR.cell {w:World} {b:Nat} {vs:Array Value} (h:mR w b vs) (i:Nat) (u:Value) (hi:vs[i]?=some u):w.cell? ⟨b,i,none⟩=some u/\w.frozen? ⟨b,i,none⟩=false:=by
 obtain⟨r,h⟩:=h;exact⟨by simp[World.cell?,h,hi],by simp[World.frozen?,h]⟩
theorem mR.new (w:World) (vs:Array Value) (t:TypeId):mR (w.alloc (.cells vs t)) w.heap.size vs:=⟨t,by show(w.heap.push _)[w.heap.size]?=_;rw[Array.getElem?_push_size]⟩
theorem px {w:World} {b:Nat} {vs:Array Value} (h:mR w b vs) (i:Nat) (u:Value):mR (w.setCell ⟨b,i,none⟩ u) b (vs.setIfInBounds i u):=by
 obtain⟨r,h⟩:=h;refine⟨r,?_⟩;simp[World.setCell,Array.getElem?_modify,h]
structure CB (cb B:Nat) (w w':World):Prop where
 os:w'.os=w.os
 tape:w'.tape=w.tape
 output:w'.output=w.output
 size:w.heap.size<=w'.heap.size
 block:∀k,k<B->k≠cb->w'.heap[k]?=w.heap[k]?
theorem CB.refl (cb B:Nat) (w:World):CB cb B w w:=⟨rfl,rfl,rfl,Nat.le_refl _,fun _ _ _=>rfl⟩
theorem CB.trans {cb B:Nat} {a b c:World} (h:CB cb B a b) (k:CB cb B b c):CB cb B a c:=
 ⟨k.os.trans h.os,k.tape.trans h.tape,k.output.trans h.output,Nat.le_trans h.size k.size,fun i hi hn=>(k.block i hi hn).trans (h.block i hi hn)⟩
theorem CB.mono {cb B B':Nat} {w w':World} (h:CB cb B w w') (hB:B'<=B):CB cb B' w w':=⟨h.os,h.tape,h.output,h.size,fun k hk hn=>h.block k (by omega) hn⟩
theorem CB.of {cb B:Nat} {w w':World} (h:Below B w w'):CB cb B w w':=⟨h.os,h.tape,h.output,h.size,fun k hk _=>h.block k hk⟩
theorem CB.below {cb B:Nat} {w w':World} (h:CB cb B w w') (hB:B<=cb):Below B w w':=⟨h.os,h.tape,h.output,h.size,fun k hk=>h.block k hk (by omega)⟩
theorem CB.setCell {cb B:Nat} {a w:World} (h:CB cb B a w) {p:Addr} (hp:B<=p.block\/p.block=cb) (u:Value):CB cb B a (w.setCell p u):=
 h.trans ⟨rfl,rfl,rfl,by simp[World.setCell],fun k hk hn=>Below.heap_setCell _ _ _ _ (by omega)⟩
theorem CB.cell {cb B:Nat} {w w':World} (h:CB cb B w w') {p:Addr} (hp:p.block<B) (hn:p.block≠cb):w'.cell? p=w.cell? p:=World.cell?_of_block (w:=w) (h.block p.block hp hn)
theorem vV {w:World} {p:Addr} {v:Value} (h:w.cell? p=some v):p.block<w.heap.size:=by
 rcases Nat.lt_or_ge p.block w.heap.size with hl | hl
 ·exact hl
 ·exfalso
  have e:w.heap[p.block]?=none:=Array.getElem?_eq_none hl;simp[World.cell?,e]at h
def eF (cb:Nat) (w0 W:World):Prop:=CB cb w0.heap.size w0 W
theorem eF.refl (cb:Nat) (w:World):eF cb w w:=CB.refl _ _ _
theorem eF.trans {cb:Nat} {w0 W W':World} (h:eF cb w0 W) (h':CB cb W.heap.size W W'):eF cb w0 W':=CB.trans h (h'.mono h.size)
theorem eF.after {cb:Nat} {w0 W W':World} (h:eF cb w0 W) (h':aa W W'):eF cb w0 W':=h.trans (CB.of h')
theorem aA {cb:Nat} {w0:World} {p:Addr} {v:Value} (h:w0.cell? p=some v) (hn:p.block≠cb):∀W,eF cb w0 W->W.cell? p=some v:=fun W hW=>by
 rw[CB.cell hW ?_ hn]
 ·exact h
 ·exact vV h
def B5 (w:World) (cb:Nat) (A:Option Addr) (L:Nat):Prop:=∀k,k<L->∃b off v,A=some ⟨b,off,none⟩/\b<cb/\w.cell? ⟨b,off+k,none⟩=some (.int .u8 v)/\0<=v/\v<256
theorem B5.keep {w w':World} {cb:Nat} {A:Option Addr} {L:Nat} (h:B5 w cb A L) (hb:∀k,k<cb->w'.heap[k]?=w.heap[k]?):B5 w' cb A L:=fun k hk=>by
 obtain⟨b,off,v,hA,hlt,hc,h1,h2⟩:=h k hk
 exact⟨b,off,v,hA,hlt,by rw[World.cell?_of_block (w:=w) (hb b hlt)];exact hc,h1,h2⟩
structure CM (w:World) (cb:Nat) (A:Option Addr) (L c p s:Nat):Prop where
 cells:∃r,w.heap[cb]?=some (.cells #[.slice A L c,.int .i64 p,.int .u64 s] r)
 code:B5 w cb A L
 len:L<=1048576
 cap:L<=c
 aeV:s<18446744073709551616
theorem CM.keep {w w':World} {cb:Nat} {A:Option Addr} {L c p s:Nat} (h:CM w cb A L c p s) (hb:∀k,k<cb+1->w'.heap[k]?=w.heap[k]?):CM w' cb A L c p s:=by
 obtain⟨⟨r,h1⟩,h2,h3,h4,h5⟩:=h;exact⟨⟨r,(hb cb (by omega)).trans h1⟩,h2.keep (fun k hk=>hb k (by omega)),h3,h4,h5⟩
theorem CM.lt {w:World} {cb:Nat} {A:Option Addr} {L c p s:Nat} (h:CM w cb A L c p s):cb<w.heap.size:=by
 obtain⟨⟨r,h1⟩,_⟩:=h;exact(Array.getElem?_eq_some_iff.1 h1).1
theorem CM.since {w w':World} {cb:Nat} {A:Option Addr} {L c p s:Nat} (h:CM w cb A L c p s) (hs:aa w w'):CM w' cb A L c p s:=h.keep fun k hk=>hs.block k (by have:=h.lt;omega)
theorem CM.cellsOf {w:World} {cb:Nat} {A:Option Addr} {L c p s:Nat} (h:CM w cb A L c p s):w.cell? ⟨cb,0,none⟩=some (.slice A L c)/\w.cell? ⟨cb,1,none⟩=some (.int .i64 p)/\w.cell? ⟨cb,2,none⟩=some (.int .u64 s):=by
 obtain⟨⟨r,h1⟩,_⟩:=h;have hb:mR w cb #[.slice A L c,.int .i64 p,.int .u64 s]:=⟨r,h1⟩;exact⟨(hb.cell 0 _ rfl).1,(hb.cell 1 _ rfl).1,(hb.cell 2 _ rfl).1⟩
theorem GD (n:Int):IntKind.u64.wrap n=n%18446744073709551616:=by simp[IntKind.wrap,IntKind.bits,IntKind.signed]
theorem Oa (s b:Nat) (hb:b<256):IntKind.u64.wrap (IntKind.u64.wrap (IntKind.u64.wrap ((s:Int)*6364136223846793005)+(b:Int))+1442695040888963407)=((nx s b:Nat):Int):=by
 rw[GD,GD,GD];unfold nx;omega
theorem Oc (z:Nat) (hz:z<18446744073709551616):wrap64 (bits BinOp.and IntKind.u64 ((z:Int)/1099511627776) 255)=((byteOf z:Nat):Int):=by
 have h:=bits_and_u64_nat (z/1099511627776) 255 (by omega) (by omega);have e:(((z/1099511627776:Nat)):Int)=(z:Int)/1099511627776:=by simp
 have e2:z/1099511627776 &&& 255=byteOf z:=Nat.and_two_pow_sub_one_eq_mod _ 8
 rw[e,e2]at h;rw[show((255:Nat):Int)=255 from rfl]at h;rw[h]
 have:byteOf z<256:=by unfold byteOf;omega
 unfold wrap64;omega
theorem Jg (s b:Nat):nx s b<18446744073709551616:=Nat.mod_lt _ (by omega)
theorem DW (cb:Nat) (A:Option Addr) (L c p s:Nat) (w:World) (h:CM w cb A L c p s) (hp:p<=4611686018427387904):
  Calls Tryz.prog 136 #[.pointer (some ⟨cb,0,none⟩)] w fun e w'=>∃x s':Nat,e=.returned (.int .i64 x)/\x<256/\CM w' cb A L c (p+1) s'/\(L<=p->s'=nx s 0/\x=byteOf s')/\CB cb w.heap.size w w':=by
 obtain⟨k0,k1,k2⟩:=h.cellsOf;have p0:=ae k0;have p1:=ae k1;have p2:=ae k2;have hL:=h.len;have hc:=h.cap;have H:=zh h;clear h k0 k1 k2
 by_cases hlt:p<L
 ·obtain⟨b,off,v,rfl,hb,hv,C3,WG⟩:=H.out.code p hlt;have pv:=ae hv;clear hv
  go_enter Tryz.func136,Tryz.ntmps136
  go_upto_region 2 with(fail);refine ar 10 (aa w) (by kernel_rfl) (by kernel_rfl) (by simp) (aj (ad _)) ?_;simp only[zT]
  iterate 10 (refine bU rfl ?_;simp only[zA])
  intro W hW;go_upto_region 3 with(fail);obtain⟨v,rfl⟩:∃n:Nat,v=(n:Int):=⟨v.toNat,by omega⟩
  have Zn:v<256:=by omega
  clear C3 WG;refine ar 10 (aa w) (by kernel_rfl) (by kernel_rfl) (by simp) (aj hW) ?_;simp only[zT]
  iterate 10 (refine bU rfl ?_;simp only[zA])
  clear hW;intro W2 hW
  have fe:mR W2 cb #[.slice (some ⟨b,off,none⟩) L c,.int .i64 p,.int .u64 s]:=by
   obtain⟨r,hr⟩:=H.out.cells;exact⟨r,(hW.block cb H.out.lt).trans hr⟩
  have m1:IntKind.i64.wrap ((p:Int)+1)=(p:Int)+1:=aF _ (by omega) (by omega);have m2:=Oa s v (by omega);have f1:=(fe.cell 1 _ rfl).2;have f2:=(fe.cell 2 _ rfl).2;have g0:=(fe.cell 0 _ rfl).1;have g1:=(fe.cell 1 _ rfl).1;have g2:=(fe.cell 2 _ rfl).1;have Hb:=zh fe;clear fe p0 p1 p2 pv;go_upto_region 6 with(fail);obtain⟨w3,iR⟩:∃z,z=(W2.setCell ⟨cb,1,none⟩ (.int .i64 ((p:Int)+1))).setCell ⟨cb,2,none⟩ (.int .u64 (nx s v:Nat)):=⟨_,rfl⟩
  rw[<- iR]
  have bN:mR w3 cb #[.slice (some ⟨b,off,none⟩) L c,.int .i64 ((p:Int)+1),.int .u64 (nx s v:Nat)]:=by rw[iR];exact px (px Hb.out 1 _) 2 _
  have ly:CB cb w.heap.size w w3:=by rw[iR];exact((CB.of hW).setCell (p:=⟨cb,1,none⟩) (.inr rfl) _).setCell (p:=⟨cb,2,none⟩) (.inr rfl) _
  have q0:=ae (bN.cell 0 _ rfl).1;have q1:=ae (bN.cell 1 _ rfl).1;have q2:=ae (bN.cell 2 _ rfl).1;have Jd:=zh bN;have xG:=zh ly;clear bN ly iR g0 g1 g2 f1 f2 hW Hb;refine ar 10 (aa w3) (by kernel_rfl) (by kernel_rfl) (by simp) (aj (ad _)) ?_;simp only[zT]
  iterate 10 (refine bU rfl ?_;simp only[zA])
  intro W4 lQ
  have rK:((p:Int)+1<=(L:Int))=True:=by simp;omega
  go_wp2_with fail;go_ret;refine⟨v,nx s v,rfl,Zn,⟨?_,?_,hL,hc,Jg _ _⟩,fun h=>absurd h (by omega),xG.out.trans (CB.mono (CB.of lQ) xG.out.size)⟩
  ·obtain⟨r,hr⟩:=Jd.out;exact⟨r,(lQ.block cb (Jd.out.lt)).trans hr⟩
  ·exact H.out.code.keep (fun k hk=>by
    have h1:=H.out.lt;have h2:=xG.out.size
    exact(lQ.block k (by omega)).trans (xG.out.block k (by omega) (by omega)))
 ·have hge:((p:Int)<(L:Int))=False:=by simp;omega
  go_enter Tryz.func136,Tryz.ntmps136
  go_upto_region 2 with(fail);refine ar 10 (aa w) (by kernel_rfl) (by kernel_rfl) (by simp) (aj (ad _)) ?_;simp only[zT]
  iterate 10 (refine bU rfl ?_;simp only[zA])
  intro W2 hW
  have fe:mR W2 cb #[.slice A L c,.int .i64 p,.int .u64 s]:=by
   obtain⟨r,hr⟩:=H.out.cells;exact⟨r,(hW.block cb H.out.lt).trans hr⟩
  have m1:IntKind.i64.wrap ((p:Int)+1)=(p:Int)+1:=aF _ (by omega) (by omega)
  have m2:IntKind.u64.wrap (IntKind.u64.wrap (IntKind.u64.wrap ((s:Int)*6364136223846793005))+1442695040888963407)=((nx s 0:Nat):Int):=by have:=Oa s 0 (by omega);simpa using this
  have f1:=(fe.cell 1 _ rfl).2;have f2:=(fe.cell 2 _ rfl).2;have g0:=(fe.cell 0 _ rfl).1;have g1:=(fe.cell 1 _ rfl).1;have g2:=(fe.cell 2 _ rfl).1;have Hb:=zh fe;clear fe p0 p1 p2;go_upto_region 6 with(fail);obtain⟨w3,iR⟩:∃z,z=(W2.setCell ⟨cb,1,none⟩ (.int .i64 ((p:Int)+1))).setCell ⟨cb,2,none⟩ (.int .u64 (nx s 0:Nat)):=⟨_,rfl⟩
  rw[<- iR]
  have bN:mR w3 cb #[.slice A L c,.int .i64 ((p:Int)+1),.int .u64 (nx s 0:Nat)]:=by rw[iR];exact px (px Hb.out 1 _) 2 _
  have ly:CB cb w.heap.size w w3:=by rw[iR];exact((CB.of hW).setCell (p:=⟨cb,1,none⟩) (.inr rfl) _).setCell (p:=⟨cb,2,none⟩) (.inr rfl) _
  have q0:=ae (bN.cell 0 _ rfl).1;have q1:=ae (bN.cell 1 _ rfl).1;have q2:=ae (bN.cell 2 _ rfl).1;have Jd:=zh bN;have xG:=zh ly;clear bN ly iR g0 g1 g2 f1 f2 hW Hb;refine ar 10 (aa w3) (by kernel_rfl) (by kernel_rfl) (by simp) (aj (ad _)) ?_;simp only[zT]
  iterate 10 (refine bU rfl ?_;simp only[zA])
  intro W4 lQ
  have rK:((p:Int)+1<=(L:Int))=False:=by simp;omega
  go_wp2_with fail;go_ret
  refine⟨byteOf (nx s 0),nx s 0,by rw[Oc _ (Jg _ _)];rfl,by unfold byteOf;omega,⟨?_,?_,hL,hc,Jg _ _⟩,fun _=>⟨rfl,rfl⟩,xG.out.trans (CB.mono (CB.of lQ) xG.out.size)⟩
  ·obtain⟨r,hr⟩:=Jd.out;exact⟨r,(lQ.block cb (Jd.out.lt)).trans hr⟩
  ·exact H.out.code.keep (fun k hk=>by
    have h1:=H.out.lt;have h2:=xG.out.size
    exact(lQ.block k (by omega)).trans (xG.out.block k (by omega) (by omega)))
theorem xH (cb:Nat) (A:Option Addr) (L c p s n:Nat) (w:World) (h:CM w cb A L c p s) (hp:p<=4611686018427387000) (hn:n<=1048576):
  Calls Tryz.prog 62 #[.pointer (some ⟨cb,0,none⟩),.int .i64 n] w fun e w'=>∃x p' s':Nat,e=.returned (.int .i64 x)/\(x=0\/x<n)/\p<=p'/\p'<=p+2/\CM w' cb A L c p' s'/\(2<=n->n<=200->p'=p+1/\(L<=p->s'=nx s 0/\x=byteOf s'%n))/\CB cb w.heap.size w w':=by
 have H:=zh h;clear h
 go_enter Tryz.func62,Tryz.ntmps62
 by_cases h1:n<=1
 ·have e1:((n:Int)<=1)=True:=by simp;omega
  go_wp2_with fail;go_ret;exact⟨0,p,s,rfl,.inl rfl,Nat.le_refl _,by omega,H.out,fun h=>absurd h (by omega),CB.refl _ _ _⟩
 ·have e1:((n:Int)<=1)=False:=by simp;omega
  go_wp2_with fail;refine(DW cb A L c p s _ H.out (by omega)).mono ?_;rintro e w1 ⟨x,s1,rfl,hx,dS,rN,mS⟩;have HC:=zh mS;have Tj:=zh dS;have Hl:=zh rN;clear dS rN mS
  by_cases h2:n<=200
  ·have e2:((200:Int)<(n:Int))=False:=by simp;omega
   have m1:IntKind.i64.wrap ((x:Int)%(n:Int))=(x:Int)%(n:Int):=by
    have q1:=Int.emod_nonneg (x:Int) (show(n:Int)≠0 by omega)
    have q2:=Int.emod_lt_of_pos (x:Int) (show(0:Int)<n by omega)
    exact aF _ (by omega) (by omega)
   have m2:(x:Int).tmod (n:Int)=(x:Int)%(n:Int):=Int.tmod_eq_emod_of_nonneg (by omega)
   have m3:((n:Int)=0)=False:=by simp;omega
   have m4:(n=0)=False:=by simp;omega
   go_wp2_with fail;go_ret;refine⟨x%n,p+1,s1,vH (by simp),.inr (Nat.mod_lt _ (by omega)),by omega,by omega,Tj.out,fun _ _=>⟨rfl,fun h=>?_⟩,HC.out⟩
   obtain⟨q1,q2⟩:=Hl.out h;exact⟨q1,by rw[q2]⟩
  ·have e2:((200:Int)<(n:Int))=True:=by simp;omega
   have m5:IntKind.i64.wrap ((x:Int)*256)=(x:Int)*256:=aF _ (by omega) (by omega);go_wp2_with fail;refine(DW cb A L c (p+1) s1 _ Tj.out (by omega)).mono ?_;rintro e w2 ⟨y,s2,rfl,hy,ks,lL,qp⟩;have Jh:=zh qp;have WW:=zh ks;clear ks lL qp;obtain⟨z,hz⟩:∃z:Nat,z=x*256+y:=⟨_,rfl⟩
   have m6:(x:Int)*256+(y:Int)=(z:Int):=by omega
   have m7:IntKind.i64.wrap (z:Int)=(z:Int):=aF _ (by omega) (by omega)
   have m1:IntKind.i64.wrap ((z:Int)%(n:Int))=(z:Int)%(n:Int):=by
    have q1:=Int.emod_nonneg (z:Int) (show(n:Int)≠0 by omega)
    have q2:=Int.emod_lt_of_pos (z:Int) (show(0:Int)<n by omega)
    exact aF _ (by omega) (by omega)
   have m2:(z:Int).tmod (n:Int)=(z:Int)%(n:Int):=Int.tmod_eq_emod_of_nonneg (by omega)
   have m3:((n:Int)=0)=False:=by simp;omega
   have m4:(n=0)=False:=by simp;omega
   clear hz;go_wp2_with fail;go_ret;refine⟨z%n,p+1+1,s2,vH (by simp),.inr (Nat.mod_lt _ (by omega)),by omega,by omega,WW.out,fun _ h=>absurd h (by omega),HC.out.trans (Jh.out.mono HC.out.size)⟩
def dm (w:World) (cb:Nat) (A:Option Addr) (L c P:Nat):Prop:=∃p s,CM w cb A L c p s/\p<=P
theorem dm.lt {w:World} {cb:Nat} {A:Option Addr} {L c P:Nat} (h:dm w cb A L c P):cb<w.heap.size:=by obtain⟨p,s,h,_⟩:=h;exact h.lt
theorem dm.since {w w':World} {cb:Nat} {A:Option Addr} {L c P:Nat} (h:dm w cb A L c P) (hs:aa w w'):dm w' cb A L c P:=by obtain⟨p,s,h,hp⟩:=h;exact⟨p,s,h.since hs,hp⟩
theorem dm.keep {w w':World} {cb:Nat} {A:Option Addr} {L c P:Nat} (h:dm w cb A L c P) (hb:∀k,k<cb+1->w'.heap[k]?=w.heap[k]?):dm w' cb A L c P:=by obtain⟨p,s,h,hp⟩:=h;exact⟨p,s,h.keep hb,hp⟩
theorem dm.mono {w:World} {cb:Nat} {A:Option Addr} {L c P P':Nat} (h:dm w cb A L c P) (hP:P<=P'):dm w cb A L c P':=by obtain⟨p,s,h,hp⟩:=h;exact⟨p,s,h,by omega⟩
theorem fL.seen {β:Type} {R:World->Nat->Value->β->List Nat->Prop} (L:fL R) {w w':World} {base cb:Nat} {v:Value} {x:β} {S:List Nat} (h:R w base v x S) (hC:eF cb w w') (hb:cb<base):R w' base v x S:=
 L.aeb h fun k hk=>hC.block k (L.range h k hk).2 (by have:=(L.range h k hk).1;omega)
theorem az.seen {w w':World} {base cb:Nat} {a b d:Value} {n:ak} {S:List Nat} (h:az w base a b d n S) (hC:eF cb w w') (hb:cb<base):az w' base a b d n S:=
 h.aeb fun k hk=>hC.block k (h.range k hk).2 (by have:=(h.range k hk).1;omega)
theorem Own.seen {w w':World} {base cb:Nat} {v:Value} {xs:List Int} (h:Own w base v xs) (hC:eF cb w w') (hb:cb<base):Own w' base v xs:=(fL.seen iy (S:=v.ownBlock.toList) ⟨h,rfl⟩ hC hb).1
theorem dJ (cb:Nat) (A:Option Addr) (L c P:Nat) (z:Int) (w:World) (h:dm w cb A L c P) (hP:P<=4611686018427387000) (hz:0<=z/\z<=1048576):
  Calls Tryz.prog 62 #[.pointer (some ⟨cb,0,none⟩),.int .i64 z] w fun e w'=>∃x:Nat,e=.returned (.int .i64 x)/\(x=0\/(x:Int)<z)/\dm w' cb A L c (P+2)/\CB cb w.heap.size w w':=by
 obtain⟨p,s,h,hp⟩:=h;obtain⟨n,rfl⟩:∃n:Nat,z=(n:Int):=⟨z.toNat,by omega⟩
 refine(xH cb A L c p s n w h (by omega) (by omega)).mono ?_;rintro e w' ⟨x,p',s',rfl,hx,h1,h2,hc,_,hC⟩;exact⟨x,rfl,by omega,⟨p',s',hc,by omega⟩,hC⟩
theorem mT (cb:Nat) (A:Option Addr) (L c P:Nat) (z:Int) (w:World) (h:dm w cb A L c P) (hP:P<=4611686018427387000) (hz:0<=z/\z<=1048576):
  Calls Tryz.prog 94 #[.pointer (some ⟨cb,0,none⟩),.int .i64 z] w fun e w'=>∃b:Bool,e=.returned (.bool b)/\dm w' cb A L c (P+2)/\CB cb w.heap.size w w':=by
 have H:=zh h;clear h
 go_enter Tryz.func94,Tryz.ntmps94
 go_wp2_with fail;refine(dJ cb A L c P z _ H.out hP hz).mono ?_;rintro e w1 ⟨x,rfl,-,dS,mS⟩;have HC:=zh mS;have Tj:=zh dS;clear dS mS;go_wp2_with fail;go_ret;exact⟨_,rfl,Tj.out,HC.out⟩
theorem Ji (cb:Nat) (A:Option Addr) (L c P:Nat) (B g q:Nat) (xs:List Int) (w:World) (h:dm w cb A L c P) (hP:P<=4611686018427387000) (ho:Own w B (.slice (some ⟨g,0,none⟩) xs.length q) xs) (hB:cb<B) (hx:1<=xs.length) (oQ:xs.length<=1048576):
  Calls Tryz.prog 68 #[.pointer (some ⟨cb,0,none⟩),.slice (some ⟨g,0,none⟩) xs.length q] w fun e w'=>∃x,e=.returned (.int .i64 x)/\x∈xs/\dm w' cb A L c (P+2)/\CB cb w.heap.size w w':=by
 have H:=zh h;have Ho:=zh ho;clear h ho
 go_enter Tryz.func68,Tryz.ntmps68
 go_wp2_with fail;refine(dJ cb A L c P xs.length _ H.out hP (by omega)).mono ?_;rintro e w1 ⟨x,rfl,hx3,dS,mS⟩;have vh:x<xs.length:=by omega
 obtain⟨y,hy⟩:=aM xs x vh;have c1:=(Ho.out.seen (cb:=cb) mS hB).cell hy;have Hy:=zh hy;have HC:=zh mS;have Tj:=zh dS;clear dS mS hy hx3;go_wp2_with fail;go_ret;exact⟨y,rfl,List.mem_of_getElem? Hy.out,Tj.out,HC.out⟩
def rt (n:Nat) (xs:List Int):Prop:=∀x∈xs,0<=x/\x<(n:Int)
theorem rt.set {n:Nat} {xs:List Int} (h:rt n xs) (k:Nat) {x:Int} (hx:0<=x/\x<(n:Int)):rt n (xs.set k x):=fun y hy=>by
 rcases List.mem_or_eq_of_mem_set hy with h1 | h1
 ·exact h y h1
 ·rw[h1];exact hx
theorem GF (cb:Nat) (A:Option Addr) (L c P n:Nat) (w:World) (h:dm w cb A L c P) (hP:P<=4611686018427000000) (hn:n<=100):
  Calls Tryz.prog 138 #[.pointer (some ⟨cb,0,none⟩),.int .i64 n] w fun e w'=>∃g xs,e=.returned (.slice (some ⟨g,0,none⟩) n n)/\Own w' w.heap.size (.slice (some ⟨g,0,none⟩) n n) xs/\rt n xs/\dm w' cb A L c (P+200)/\CB cb w.heap.size w w':=by
 have H:=zh h;have ja:=h.lt;clear h
 go_enter Tryz.func138,Tryz.ntmps138
 go_wp2_with (at_make;refine jp _ rfl _ _ rfl _ _ n rfl rfl rfl rfl (by omega) ?_;intro w1 dT ay dV;have cY:aa w w1:=ay)
 have JU:=zh dV;clear ay dV
 go_loopw [14] (fun i wr=>∃(k:Nat) (xs:List Int),k<=n/\i=.int .i64 k/\Own wr w.heap.size (.slice (some ⟨w.heap.size,0,none⟩) n n) xs/\rt n xs/\aa w wr/\w.heap.size<wr.heap.size) (fun i _=>n-(intOf i).toNat)
 case atStart=>
  refine⟨0,_,Nat.zero_le _,rfl,dT,fun x hx=>?_,cY,JU.out⟩
  obtain⟨h1,rfl⟩:=List.mem_replicate.1 hx;omega
 case round=>
  obtain⟨k,xs,hk,rfl,ho,hB,bA,hzr⟩:=hrel;have HB:=zh hB;have nA:=zh bA;have Ho:=zh ho;have Hzr:=zh hzr
  by_cases hlt:k<n
  ·have f0:=ho.free k
   obtain⟨y,hy⟩:=aM xs k (by have:=ho.len;omega)
   have c0:=ho.cell hy;have m1:IntKind.i64.wrap ((k:Int)+1)=(k:Int)+1:=aF _ (by omega) (by omega);clear ho hB bA hzr hy dT cY;go_wp2;go_roundw
   case rel=>
    refine⟨k+1,_,by omega,by first | rfl | go_num,Ho.out.set (k:Int),HB.out.set k (by omega),nA.out.setCell (by simp) _,?_⟩
    show _<(wr.setCell _ _).heap.size
    rw[jC];exact Hzr.out
   case measure=>simp[intOf];omega
  ·obtain rfl:k=n:=by omega
   have adQ:=zh dT;clear ho hB bA hzr dT cY;have m1:IntKind.i64.wrap ((k:Int)-1)=(k:Int)-1:=aF _ (by omega) (by omega);obtain⟨wo,rfl⟩:∃z,z=wr:=⟨_,rfl⟩
   go_wp2
   go_loopw [7] (fun i wr=>∃(z:Int) (xs:List Int),-1<=z/\z<(k:Int)/\i=.int .i64 z/\Own wr w.heap.size (.slice (some ⟨w.heap.size,0,none⟩) k k) xs/\rt k xs/\dm wr cb A L c (P+2*(k-z.toNat))/\CB cb w.heap.size w wr/\w.heap.size<wr.heap.size) (fun i _=>(intOf i).toNat)
   case atStart=>exact⟨(k:Int)-1,xs,by omega,by omega,by go_num,Ho.out,HB.out,(H.out.since nA.out).mono (by omega),CB.of nA.out,Hzr.out⟩
   case round=>
    obtain⟨z,ys,dV,d8,rfl,ho,hB,hc,hC,Zo⟩:=hrel;have vz:=zh hB;have eX:=zh ho;have WW:=zh hc;have Jh:=zh hC;have Zp:=zh Zo;clear ho hB hc hC Zo
    by_cases Kv:0<z
    ·obtain⟨j,rfl⟩:∃j:Nat,z=(j:Int):=⟨z.toNat,by omega⟩
     have uf:1<=j:=by omega
     have yQ:j<k:=by omega
     have m2:IntKind.i64.wrap ((j:Int)+1)=(j:Int)+1:=aF _ (by omega) (by omega);have m3:IntKind.i64.wrap ((j:Int)-1)=(j:Int)-1:=aF _ (by omega) (by omega);clear dV d8;go_wp2_with fail;refine(dJ cb A L c _ ((j:Int)+1) wr WW.out (by omega) (by omega)).mono ?_;rintro e w3 ⟨x,rfl,hx,qf,ly⟩;have W9:x<k:=by omega
     have eH:=eX.out.seen (cb:=cb) ly ja;have hlen:=eH.len;obtain⟨a,ha⟩:=aM ys j (by omega);obtain⟨b,hb⟩:=aM ys x (by omega);have c1:=eH.cell ha;have c2:=eH.cell hb;have f1:=eH.free j;have f2:=eH.free x;have i8:=zh eH;have Hc3:=zh qf;have xG:=zh ly;have Ha:=zh (vz.out a (List.mem_of_getElem? ha));have Hbm:=zh (vz.out b (List.mem_of_getElem? hb));have cJ:=zh hlen;clear hx eH qf ly ha hb hlen;go_upto_region 13 with(fail);have oH:=i8.out.set (k:=j) b;have pY:CB cb w.heap.size w3 (w3.setCell ⟨w.heap.size,j,none⟩ (.int .i64 b)):=(CB.refl cb w.heap.size w3).setCell (p:=⟨w.heap.size,j,none⟩) (.inl (Nat.le_refl _)) _
     have hk4:∀q,q<cb+1->(w3.setCell ⟨w.heap.size,j,none⟩ (.int .i64 b)).heap[q]?=w3.heap[q]?:=fun q hq=>Below.heap_setCell _ _ _ _ (by show q≠w.heap.size;omega)
     obtain⟨w4,iC⟩:∃z,z=w3.setCell ⟨w.heap.size,j,none⟩ (.int .i64 b):=⟨_,rfl⟩
     rw[<- iC]at oH pY hk4 ⊢
     obtain⟨d,hd⟩:=aM (ys.set j b) x (by rw[List.length_set,cJ.out];exact W9)
     have c4:=oH.cell hd;have f4:=oH.free x;have ut:=zh oH;have HC4:=zh pY;have Hk4:=zh hk4;clear iC hd oH pY hk4 c1 c2 f1 f2;go_wp2;go_roundw
     case rel=>
      have hh:w.heap.size<w4.heap.size:=Nat.lt_of_lt_of_le Zp.out (Nat.le_trans xG.out.size HC4.out.size)
      refine⟨(j:Int)-1,(ys.set j b).set x a,by omega,by omega,by first | rfl | go_num,ut.out.set a,(vz.out.set j Hbm.out).set x Ha.out,?_,((Jh.out.trans (xG.out.mono (by have:=Zp.out;omega))).trans HC4.out).setCell (p:=⟨w.heap.size,x,none⟩) (.inl (Nat.le_refl _)) _,by rw[jC];exact hh⟩
      have h1:=(Hc3.out.keep Hk4.out).keep (w':=w4.setCell ⟨w.heap.size,x,none⟩ (.int .i64 a)) (fun q hq=>Below.heap_setCell _ _ _ _ (by show q≠w.heap.size;omega))
      exact h1.mono (by omega)
     case measure=>simp[intOf];omega
    ·have HF:=zh Kv;go_wp2;go_ret;exact⟨w.heap.size,rfl,ys,eX.out,vz.out,WW.out.mono (by omega),Jh.out⟩
end Go.Proofs.YtgmdpppljkmabaaGreat
