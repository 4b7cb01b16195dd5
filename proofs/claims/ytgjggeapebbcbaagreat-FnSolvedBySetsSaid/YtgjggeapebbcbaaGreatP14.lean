/- Parts of the proof: walks of functions and plain laws. -/
import Derived.Test.YtgjggeapebbcbaaGreatP0
import Derived.Test.YtgjggeapebbcbaaGreatP1
import Derived.Test.YtgjggeapebbcbaaGreatP13
import Derived.Test.YtgjggeapebbcbaaGreatP7
import Derived.Test.YtgjggeapebbcbaaGreatP9
import Derived.Test.YtgjggeapebbcbaaGreatP8
import Derived.Test.YtgjggeapebbcbaaGreatP4
import Derived.Test.YtgjggeapebbcbaaGreatP2
import Derived.Test.YtgjggeapebbcbaaGreatP3
set_option maxRecDepth 100000
set_option maxHeartbeats 16000000
namespace Go.Proofs.YtgjggeapebbcbaaGreat
open Go Go.RowKit
theorem tV {n:am} {R M:Nat} (hn:Gd R M n) {v:Nat} (hv:v<n.ends.length):n.ends[v]?=some (bJ n v)/\(bJ n v).length<=R/\True:=by
 obtain⟨es,ba⟩:=ax n.ends v hv;have e:bJ n v=es:=ag ba;rw[e];exact⟨ba,hn.row v es ba,trivial⟩
theorem rZ {n:am} (hn:Gd 100 100 n) (v:Nat):(bt n v).length<=100*v:=by
 induction v with
 | zero=>simp[bt]
 | succ v ih=>
  rw[gx,List.length_append];have h1:=lT v (bJ n v) (bJ n v).length
  have h2:(bJ n v).length<=100:=by
   unfold bJ;rw[zDd]
   cases h:n.ends[v]? with
   | none=>simp
   | some es=>exact hn.row v es h
  omega
theorem zd (ve vi vn:Value) (n:am) (v i:Nat) (x1 x2:Int) (w:World) (h:aI w ve vi vn n) (hn:Gd 100 100 n) (hv:v<n.ends.length) (hx:(bJ n v)[i]?=some (x1,x2)):
  Calls Tryz.prog 78 #[.agg #[ve,vi,vn],.int .i64 v,.int .i64 i] w fun e w'=>e=.returned (.bool (kF v i (x1,x2)))/\Below w.heap.size w w':=by
 have vG:=hn.ends
 obtain⟨w0,A,c,A2,c2,A3,c3,rfl,rfl,rfl,er,hm,et,fG,HA,bM,aY,H,e8,fh,fi⟩:=zB h;clear h
 obtain⟨kV,ku,vU⟩:=tV hn hv;obtain⟨es,ba⟩:∃es,es=bJ n v:=⟨_,rfl⟩
 rw[<- ba]at kV ku hx;have qh:=ai hx;obtain⟨b,vH,cr,ur,gn,A_,bS,bT⟩:=fo H.out.es kV;cases gn;have tr:=ad bS;obtain⟨A1,z1,rfl,cj,cX,gn⟩:=bT;unfold maxLen at cX;obtain⟨b1,sD,rfl,mO,gm⟩:=gn i _ hx;have t1:=ad mO;have t2:=ad gm;obtain⟨w1,pS⟩:∃w1,w1=w0.alloc (.cells #[.int .i64 x1,.int .i64 x2] 36):=⟨_,rfl⟩
 have GC:=zh pS
 have bu:aa w0 w1:=by rw[pS];exact ae _ (ab _)
 have q0:∀W,aa w1 W->W.cell? ⟨w0.heap.size,0,none⟩=some (.int .i64 x1):=ad (by rw[pS];simp)
 have q1:∀W,aa w1 W->W.cell? ⟨w0.heap.size,1,none⟩=some (.int .i64 x2):=ad (by rw[pS];simp)
 have iu:=zh bu;have aX:aa w0 w0:=ab _;have HR:Hid (kF v i (x1,x2)=(decide ((v:Int)<x1)||(((v:Int)==x1)&&decide ((i:Int)<=x2)))):=rfl
 clear kV ku vU ba hx bS mO gm gn hn pS bu
 go_enter Tryz.func78,Tryz.ntmps78
 go_upto_region 1 with(fail);rw[<- bM.out];go_upto_region 2 with(fail);rw[<- GC.out];clear e8 fh fi tr t1 t2 aX;refine bI 17 (aa w1) (ab _) ?_;simp only[zT]
 iterate 5 (refine cY rfl ?_;simp only[zA])
 iterate 5 (refine kA rfl rfl ?_;simp only[zA])
 iterate 4 (apply ou rfl rfl;(intro hb hb2;intro W hW;go_simp;with_reducible rfl);simp only[zA])
 refine qF rfl rfl rfl ?_;simp only[zA]
 (first | refine dh rfl rfl ?_ | (refine cY rfl ?_));simp only[zA]
 refine cY rfl ?_;simp only[zA]
 intro W hW;have HW:=zh hW;clear hW;go_wp2;go_ret;exact⟨congrArg (fun b=>Ending.returned (.bool b)) HR.out.symm,aa.after aY.out (iu.out.after HW.out)⟩
theorem CD:(Tryz.prog.info? 25).map (fun i=>(i.zero,i.size,i.bytes))=some (some (.slice none 0 0),1,24):=by kernel_rfl
def r9 (x:Ed):Obj:=.cells #[.int .i64 x.1,.int .i64 x.2.1,.int .i64 x.2.2.1,.int .i64 x.2.2.2] 3
def qs (b:Nat):Value:=.slice (some ⟨b,0,none⟩) 4 4
def j6 (W:World) (base:Nat) (u:Value) (L:List Ed):Prop:=
 ∃bs:List Nat,bs.length=L.length/\W.ownsRow base 25 1 u L.length (bs.map qs)/\∀(k:Nat) (x:Ed) (b:Nat),L[k]?=some x->bs[k]?=some b->base<=b/\W.heap[b]?=some (r9 x)/\u.ownBlock≠some b
theorem CE (W:World) (base:Nat):j6 W base (.slice none 0 0) []:=⟨[],rfl,World.ownsRow_nil W base _ _,fun k x b hx=>by simp at hx⟩
theorem j6.aac {W W':World} {base:Nat} {u:Value} {L:List Ed} (h:j6 W base u L) (hk:∀j,base<=j->j<W.heap.size->W'.heap[j]?=W.heap[j]?):j6 W' base u L:=by
 obtain⟨bs,h1,h2,h3⟩:=h;refine⟨bs,h1,aB h2 fun j hj=>hk j (World.ownsRow.lt h2 j (by simpa using hj)).1 (World.ownsRow.lt h2 j (by simpa using hj)).2,fun k x b hx hb=>?_⟩
 obtain⟨q1,q2,q3⟩:=h3 k x b hx hb
 exact⟨q1,by rw[hk b q1 (Array.getElem?_eq_some_iff.1 q2).1];exact q2,q3⟩
theorem j6.aab {W W':World} {base:Nat} {u:Value} {L:List Ed} (h:j6 W base u L) (hs:aa W W'):j6 W' base u L:=h.aac fun j _ hj=>hs.below.block j hj
theorem j6.at {W:World} {base:Nat} {u:Value} {L:List Ed} (h:j6 W base u L):(∃A c,u=.slice A L.length c/\L.length<=c/\c<=maxLen)/\∀(k:Nat) (x:Ed),L[k]?=some x->∃g c b,u=.slice (some ⟨g,0,none⟩) L.length c/\W.cell? ⟨g,k,none⟩=some (qs b)/\base<=b/\W.cell? ⟨b,0,none⟩=some (.int .i64 x.1)/\W.cell? ⟨b,1,none⟩=some (.int .i64 x.2.1)/\W.cell? ⟨b,2,none⟩=some (.int .i64 x.2.2.1)/\W.cell? ⟨b,3,none⟩=some (.int .i64 x.2.2.2):=by
 obtain⟨bs,h1,h2,h3⟩:=h;have h':=h2;rcases h2.2 with⟨rfl,hn⟩ | ⟨g,cap,cur,rfl,hb,hg,x_,vK,dM,NM⟩
 ·have:L=[]:=List.eq_nil_of_length_eq_zero hn
  subst this;exact⟨⟨none,0,rfl,Nat.le_refl _,Nat.zero_le _⟩,fun k x hk=>by simp at hk⟩
 ·refine⟨⟨_,cap,rfl,x_,vK⟩,fun k x hk=>?_⟩
  have mZ:=ai hk;obtain⟨b,I4⟩:∃b,bs[k]?=some b:=⟨_,List.getElem?_eq_getElem (by omega)⟩
  obtain⟨q1,q2,q3⟩:=h3 k x b hk I4;refine⟨g,cap,b,rfl,?_,q1,?_⟩
  ·rw[World.ownsRow.cellAt (cap:=cap) h' _ (by omega),List.getElem?_map,I4];rfl
  ·unfold r9 at q2;simp[World.cell?,q2]
theorem Ex {w w0:World} {ops:Array Oper} {rest:List Oper} {o:Oper} {a:Act} {Q:Exit->Act->World->Prop} (gA:o.guard=none) (s x:Operand)
  (ho:o.op=.call { callee:=.builtin .append,args:=#[s,x],argTypes:=#[33,33] }) {v:Value} {L:List Ed} (hs:a.eval s=v) (h:j6 w w0.heap.size v L) (b r:Nat) (y:Ed)
  (hx:a.eval x=.slice (some ⟨b,0,none⟩) 1 1) (hc:w.cell? ⟨b,0,none⟩=some (qs r)) (hr:w0.heap.size<=r) (zt:w.heap[r]?=some (r9 y)) (U6:v.ownBlock≠some r) (hl:L.length+1<=1000000) (lf:aa w0 w)
  (k:∀g cap w',j6 w' w0.heap.size (.slice (some ⟨g,0,none⟩) (L.length+1) cap) (L++[y])->aa w0 w'->wpList Tryz.prog ops Q rest (a.put o.dst (.slice (some ⟨g,0,none⟩) (L.length+1) cap)) w'):wpList Tryz.prog ops Q (o::rest) a w:=by
 obtain⟨i0,hi,eS,cj,cX⟩:=info_parts CD;obtain⟨bs,h1,h2,h3⟩:=h
 refine wpList_append_lies w gA s x 33 ho w0.heap.size 25 i0 _ 1 24 Tryz.underlying33 hi eS cj cX rfl (by decide) v L.length (bs.map qs) hs h2 ⟨b,0,none⟩ 1 1 [qs r] hx rfl
  (by intro j u hj;match j,hj with | 0,hj=>(simp at hj;subst hj;simpa[Addr.add]using hc) | j+1,hj=>simp at hj) (by simp[Value.oneCell',qs]) (by omega) (by unfold maxLen;omega) (by omega) lf.below.size w.heap.size rfl ?_
 intro g cap w' q1 q2 q3 q4;refine k g cap w' ⟨bs++[r],by simp[h1],by simpa using q1,fun k x b' hx hb=>?_⟩ (Below.grown lf q2 lf.below.size (fun q hq=>(World.ownsRow.lt h2 q hq).1))
 have Fq:r<w.heap.size:=(Array.getElem?_eq_some_iff.1 zt).1
 have rt:g≠r:=fun e=>by
  subst e;rcases q3 with q3 | q3
  ·exact U6 q3
  ·omega
 rcases Nat.lt_or_ge k L.length with hk | hk
 ·rw[List.getElem?_append_left hk]at hx;rw[List.getElem?_append_left (by omega)]at hb;obtain⟨p1,p2,p3⟩:=h3 k x b' hx hb;have qc:=(Array.getElem?_eq_some_iff.1 p2).1
  refine⟨p1,by rw[q2.block b' qc (fun e=>p3 e.symm)];exact p2,fun e=>?_⟩
  have e2:g=b':=by simpa[Value.ownBlock]using e
  subst e2;rcases q3 with q3 | q3
  ·exact p3 q3
  ·omega
 ·have ld:k=L.length:=by
   have:=ai hx
   simp at this;omega
  subst ld;rw[List.getElem?_append_right (Nat.le_refl _),Nat.sub_self]at hx;rw[<- h1,List.getElem?_append_right (Nat.le_refl _),Nat.sub_self]at hb;simp at hx hb
  subst hx hb
  refine⟨hr,by rw[q2.block r Fq (fun e=>U6 e.symm)];exact zt,fun e=>rt ?_⟩
  simpa[Value.ownBlock]using e
theorem ze (ve vi vn:Value) (n:am) (w:World) (h:aI w ve vi vn n) (hn:Gd 100 100 n):
  Calls Tryz.prog 35 #[.agg #[ve,vi,vn]] w fun e w'=>∃u,e=.returned u/\j6 w' w.heap.size u (eE n)/\Below w.heap.size w w':=by
 have yM:n.ends.length<=100:=hn.ends
 obtain⟨w0,A,c,A2,c2,A3,c3,rfl,rfl,rfl,er,hm,et,fG,HA,bM,aY,H,e8,fh,fi⟩:=zB h;clear h
 have Hn:=zh hn;have YH:=zh (rZ hn);have aX:aa w0 w0:=ab _;clear hn
 go_enter Tryz.func35,Tryz.ntmps35
 go_upto_region 1 with(fail);rw[<- bM.out];go_wp2
 go_loopw [3,11] (fun u i wr=>∃k:Nat,k<=n.ends.length/\i=.int .i64 k/\j6 wr w0.heap.size u (bt n k)/\aa w0 wr) (fun _ i _=>n.ends.length-(intOf i).toNat)
 case atStart=>exact⟨0,Nat.zero_le _,rfl,CE _ _,aX⟩
 case round=>
  obtain⟨k,hk,rfl,ho,dz⟩:=hrel;have Ho:=zh ho;clear ho aX
  by_cases aH:k<n.ends.length
  ·obtain⟨kV,ku,vU⟩:=tV Hn.out aH;obtain⟨es,ba⟩:∃es,es=bJ n k:=⟨_,rfl⟩
   have kB:=zh ba;rw[<- ba]at kV ku;obtain⟨b,vH,cr,ur,gn,A_,bS,bT⟩:=fo H.out.es kV;cases gn;have d0:=dz.cell bS;obtain⟨A1,z1,rfl,cj,cX,gn⟩:=bT;unfold maxLen at cX;have yh:=zh gn;have m3:IntKind.i64.wrap ((k:Int)+1)=(k:Int)+1:=aR _ (by omega) (by omega);clear kV vU ba bS gn;go_wp2
   go_loopw [3,18] (fun u i wr=>∃j:Nat,j<=es.length/\i=.int .i64 j/\j6 wr w0.heap.size u (bt n k++hZ k es j)/\aa w0 wr) (fun _ i _=>es.length-(intOf i).toNat)
   case atStart=>exact⟨0,Nat.zero_le _,rfl,by simpa[hZ]using Ho.out,dz⟩
   case round=>
    obtain⟨j,hj,rfl,ho,CF⟩:=hrel;have lv:=zh ho;clear ho dz d0
    by_cases mh:j<es.length
    ·obtain⟨⟨x1,x2⟩,hx⟩:=ax es j mh;obtain⟨b1,sD,rfl,mO,gm⟩:=yh.out j _ hx;have t1:=CF.cell mO;have t2:=CF.cell gm;simp only at t1 t2
     have m4:IntKind.i64.wrap ((j:Int)+1)=(j:Int)+1:=aR _ (by omega) (by omega);obtain⟨LL,Iu⟩:∃LL,LL=bt n k++hZ k es j:=⟨_,rfl⟩
     have hLl:LL.length<=100000:=by
      rw[Iu,List.length_append];have h1:=YH.out k;have h2:=lT k es j;omega
     rw[<- Iu]at lv
     have qM:Hid (bt n k++hZ k es (j+1)=LL++lS k j (x1,x2)):=by show _=_;rw[mA,ag hx,Iu,List.append_assoc]
     obtain⟨w5,nM⟩:∃w5,w5=wr.alloc (.cells #[.int .i64 x1,.int .i64 x2] 36):=⟨_,rfl⟩
     have tW:aa wr w5:=by rw[nM];exact ae _ (ab _)
     have z0:∀W,aa w5 W->W.cell? ⟨wr.heap.size,0,none⟩=some (.int .i64 x1):=ad (by rw[nM];simp)
     have Du:∀W,aa w5 W->W.cell? ⟨wr.heap.size,1,none⟩=some (.int .i64 x2):=ad (by rw[nM];simp)
     have Iv:=CF.after tW;obtain⟨zb,Rr⟩:∃zb,zb=kF k j (x1,x2):=⟨_,rfl⟩
     have iM:=zd _ _ _ n k j x1 x2 w5 (H.out.aab Iv.below) Hn.out aH (by rw[<- kB.out];exact hx)
     rw[<- Rr]at iM;have s8:=zh iM;have U7:=zh Rr;have FE:=zh nM;have CG:=zh (lv.out.aab tW);clear hx mO gm Iu iM Rr nM tW;go_upto_region 8 with(fail);rw[<- FE.out];clear CF t1 t2;go_wp2_with fail;refine s8.out.mono ?_;rintro e w6 ⟨rfl,rX⟩;have Ey:aa w5 w6:=rX;have rJ:aa w0 w6:=Iv.trans rX;have y8:=zh (CG.out.aab Ey);have y0:=ak z0 Ey;have y1:=ak Du Ey;have U8:aa w6 w6:=ab _;clear rX Iv z0 Du Ey;cases zb
     ·have ng:Hid (bt n k++hZ k es (j+1)=LL):=by show _=_;rw[qM.out];unfold lS;rw[<- U7.out];simp
      clear y0 y1 U8;go_wp2;go_roundw
      case rel=>exact⟨j+1,by omega,by go_num,by rw[ng.out];exact y8.out,rJ⟩
      case measure=>simp[intOf];omega
     ·have ng:Hid (bt n k++hZ k es (j+1)=LL++[((k:Int),(j:Int),x1,x2)]):=by show _=_;rw[qM.out];unfold lS;rw[<- U7.out,if_pos rfl]
      obtain⟨w8,mB⟩:∃w8,w8=(w6.alloc (r9 ((k:Int),(j:Int),x1,x2))).alloc (.cells #[qs w6.heap.size] 25):=⟨_,rfl⟩
      have la:aa w0 w8:=by rw[mB];exact ae _ (ae _ rJ)
      have pg:Hid (j6 w8 w0.heap.size u3 LL):=by show j6 _ _ _ _;rw[mB];exact y8.out.aab (ae _ (ae _ (ab _)))
      have c8:w8.cell? ⟨w6.heap.size+1,0,none⟩=some (qs w6.heap.size):=by rw[mB];simp
      have r8:w8.heap[w6.heap.size]?=some (r9 ((k:Int),(j:Int),x1,x2)):=by
       have h1:(w6.alloc (r9 ((k:Int),(j:Int),x1,x2))).heap[w6.heap.size]?=some (r9 ((k:Int),(j:Int),x1,x2)):=heap_alloc_new w6 _
       have h2:aa (w6.alloc (r9 ((k:Int),(j:Int),x1,x2))) w8:=by rw[mB];exact ae _ (ab _)
       rw[h2.below.block _ (Array.getElem?_eq_some_iff.1 h1).1];exact h1
      have n8:u3.ownBlock≠some w6.heap.size:=fun e=>by
       obtain⟨bs,_,q,_⟩:=y8.out
       have:=(World.ownsRow.lt q _ e).2
       omega
      have ql:=zh (And.intro c8 (And.intro r8 n8));have iz:=zh la;have g6:w0.heap.size<=w6.heap.size:=(aa.below rJ).size;have YI:LL.length+1<=1000000:=by omega
      have Jn:=zh mB
      unfold r9 qs at mB
      clear la c8 r8 n8
      go_wp2_with (at_builtin;rw[<- mB];refine Ex rfl _ _ rfl rfl pg.out (w6.heap.size+1) w6.heap.size ((k:Int),(j:Int),x1,x2) rfl ql.out.1 g6 ql.out.2.1 ql.out.2.2 YI iz.out ?_;intro g9 rf w9 fg zz)
      have Bi:=zh fg;have zC:=zh zz;clear fg zz rJ y0 y1 U8 mB;go_wp2;go_roundw
      case rel=>exact⟨j+1,by omega,by go_num,by rw[ng.out];exact Bi.out,zC.out⟩
      case measure=>simp[intOf];omega
    ·have qM:Hid (bt n (k+1)=bt n k++hZ k es j):=by show _=_;rw[gx,<- kB.out,show j=es.length by omega]
     have YJ:j=es.length:=by omega
     clear mh;subst YJ;go_wp2;go_roundw
     case rel=>exact⟨k+1,by omega,by go_num,by rw[qM.out];exact lv.out,CF⟩
     case measure=>simp[intOf];omega
  ·obtain rfl:k=n.ends.length:=by omega
   go_wp2;go_ret
   exact⟨_,rfl,by obtain⟨bs,q1,q2,q3⟩:=Ho.out;exact⟨bs,q1,fl q2 aY.out.size,fun k x b hx hb=>⟨Nat.le_trans aY.out.size (q3 k x b hx hb).1,(q3 k x b hx hb).2⟩⟩,aa.after aY.out dz⟩
theorem Ez {n:am} (hn:aw n=true) {x:Ed} (hx:x∈eE n):∃v i w j:Nat,x=((v:Int),(i:Int),(w:Int),(j:Int))/\v<n.ends.length/\w<n.ends.length:=by
 obtain⟨v,i,f,hv,nl,hk,rfl⟩:=d_.1 hx;obtain⟨-,f1,f2,f3,-⟩:=fA hn nl
 exact⟨v,i,f.1.toNat,f.2.toNat,Prod.ext rfl (Prod.ext rfl (Prod.ext (by simp;omega) (by simp;omega))),hv,by omega⟩
theorem FZ {α:Type} (v q mv mq:Int) (a b:α):(if v≠q/\mv<0/\mq<0 then a else b)=if ((v != q)&&decide (mv<0)&&decide (mq<0))=true then a else b:=by
 by_cases hc:((v != q)&&decide (mv<0)&&decide (mq<0))=true
 ·have Ds:=hc;rw[Bool.and_eq_true,Bool.and_eq_true,decide_eq_true_eq,decide_eq_true_eq,bne_iff_ne]at Ds;rw[if_pos hc,if_pos ⟨Ds.1.1,Ds.1.2,Ds.2⟩]
 ·rw[if_neg hc,if_neg];rintro⟨c1,c2,c3⟩
  exact hc (by rw[Bool.and_eq_true,Bool.and_eq_true,decide_eq_true_eq,decide_eq_true_eq,bne_iff_ne];exact⟨⟨c1,c2⟩,c3⟩)
theorem wR (m:List Int) (e:Ed):(cZ m e).length=m.length:=by unfold cZ;split <;> simp
theorem pJ:∀(es:List Ed) (m:List Int),(es.foldl cZ m).length=m.length
 | [],_=>rfl
 | e::es,m=>by rw[List.foldl_cons,pJ es,wR]
theorem rl {W:World} {base b k:Nat} {u:Value} {xs:List Ed} (h:gR W base u xs) (hd:u.ownBlock≠some b) (v:Value):gR (W.setCell ⟨b,k,none⟩ v) base u xs:=
 aB h fun j hj=>Below.heap_setCell W _ v j (fun e=>hd (by simp at hj;rw[hj,e]))
theorem wU (ve vi vn:Value) (n:am) (w:World) (h:aI w ve vi vn n) (hn:aw n=true) (dM:ij n<=1048576):
  Calls Tryz.prog 7 #[.agg #[ve,vi,vn]] w fun e w'=>∃u,e=.returned (.tuple #[u,.bool true])/\Own w' w.heap.size u (jv n)/\Below w.heap.size w w':=by
 have vG:=dj hn
 obtain⟨w0,A,c,A2,c2,A3,c3,rfl,rfl,rfl,er,hm,et,fG,HA,bM,aY,H,e8,fh,fi⟩:=zB h;clear h
 have Hn:=zh hn;obtain⟨es,ba⟩:∃es,es=eE n:=⟨_,rfl⟩
 have HG:Hid (jv n=es.foldl cZ (List.replicate n.ends.length (-1))):=by show _=_;unfold jv;rw[<- ba]
 have Rs:Hid (∀x∈es,∃v i w j:Nat,x=((v:Int),(i:Int),(w:Int),(j:Int))/\v<n.ends.length/\w<n.ends.length):=fun x hx=>Ez hn (by rw[<- ba];exact hx)
 have HE:Hid (∀W,aa w0 W->Calls Tryz.prog 32 #[.agg #[.slice A n.ends.length c,.slice A2 n.ids.length c2,.slice A3 n.aaa.length c3]] W fun e w'=>∃u,e=.returned u/\gR w' W.heap.size u es/\Below W.heap.size W w'):=fun W hW=>by
  rw[ba];exact yT _ _ _ n W (H.out.aab hW.below) hn
 have aX:aa w0 w0:=ab _;clear hn ba
 go_enter Tryz.func7,Tryz.ntmps7
 go_upto_region 1 with(fail);rw[<- bM.out];go_wp2_with fail;refine(dK _ _ _ n w0 H.out (iG dM)).mono ?_;rw[Hn.out];rintro e w1 ⟨rfl,aJ⟩;have bu:aa w0 w1:=aJ;clear aJ aX;go_wp2_with fail;refine(pj _ _ _ n w1 (H.out.aab bu.below) vG.1 (by omega)).mono ?_;rintro e w2 ⟨u2,rfl,cy,hb2⟩;have dS:aa w0 w2:=bu.trans hb2;rcases cy.cases with⟨-,e1⟩ | ⟨g,c1,rfl,uy,xx⟩
 ·have:=congrArg List.length e1;rw[List.length_replicate,List.length_nil]at this;omega
 rw[List.length_replicate]at cy ⊢;have U9:w0.heap.size<=g:=Nat.le_trans (aa.below bu).size uy;have lv:=zh (cy.mono (aa.below bu).size);clear cy hb2 bu uy;go_wp2_with fail;refine(HE.out w2 dS).mono ?_;rintro e w3 ⟨u3,rfl,fU,aZ⟩;have g_:aa w0 w3:=dS.trans aZ;have qe:=zh (lv.out.aab aZ)
 have Mu:u3.ownBlock≠some g:=fun e=>by
  have h1:=(World.ownsRow.lt fU g e).1;omega
 obtain⟨B3,d3,rfl,Iw,Rt,_⟩:=gR.read fU;unfold maxLen at Iw;have Og:=zh (fU.mono (aa.below dS).size);have Mv:=zh Mu;clear aZ fU dS Mu;go_wp2
 go_loopw [15] (fun i wr=>∃(k:Nat) (m:List Int),k<=es.length/\i=.int .i64 k/\m=(es.take k).foldl cZ (List.replicate n.ends.length (-1))/\Own wr w0.heap.size (.slice (some ⟨g,0,none⟩) n.ends.length c1) m/\gR wr w0.heap.size (.slice B3 es.length d3) es/\aa w0 wr) (fun i _=>es.length-(intOf i).toNat)
 case atStart=>exact⟨0,_,Nat.zero_le _,rfl,rfl,qe.out,Og.out,g_⟩
 case round=>
  obtain⟨k,m,hk,rfl,hm,ho,Ge,dz⟩:=hrel;have Hm:=zh hm;have Ho:=zh ho;have Og:=zh Ge;have F3:=zh ho.len;clear hm ho Ge g_
  by_cases aH:k<es.length
  ·obtain⟨x,hx⟩:∃x,es[k]?=some x:=⟨_,List.getElem?_eq_getElem aH⟩
   obtain⟨v,i,q,j,rfl,hv,hq⟩:=Rs.out x (List.mem_of_getElem? hx);obtain⟨_,_,eB,_,_,bW⟩:=gR.read Og.out;cases eB;obtain⟨b,rfl,k0,k1,k2,k3⟩:=bW k _ hx;simp only at k0 k1 k2 k3
   have m3:IntKind.i64.wrap ((k:Int)+1)=(k:Int)+1:=aR _ (by omega) (by omega)
   obtain⟨mv,CH⟩:=ax m v (by rw[F3.out];exact hv)
   obtain⟨mq,rW⟩:=ax m q (by rw[F3.out];exact hq)
   have pR:v<n.ends.length:=hv
   have qM:Hid ((es.take (k+1)).foldl cZ (List.replicate n.ends.length (-1))=if (((v:Int) != (q:Int))&&decide (mv<0)&&decide (mq<0))=true then (m.set v (i:Int)).set q (j:Int) else m):=by
    show _=_
    rw[aK hx,List.foldl_append,<- Hm.out];show cZ m _=_
    unfold cZ;simp only[Int.toNat_natCast];rw[ag CH,ag rW];exact FZ _ _ _ _ _ _
   obtain⟨w5,nM⟩:∃w5,w5=wr.alloc (.cells #[.int .i64 v,.int .i64 i,.int .i64 q,.int .i64 j] 67):=⟨_,rfl⟩
   have tW:aa wr w5:=by rw[nM];exact ae _ (ab _)
   have z0:∀W,aa w5 W->W.cell? ⟨wr.heap.size,0,none⟩=some (.int .i64 v):=ad (by rw[nM];simp)
   have z1:∀W,aa w5 W->W.cell? ⟨wr.heap.size,1,none⟩=some (.int .i64 i):=ad (by rw[nM];simp)
   have z2:∀W,aa w5 W->W.cell? ⟨wr.heap.size,2,none⟩=some (.int .i64 q):=ad (by rw[nM];simp)
   have z3:∀W,aa w5 W->W.cell? ⟨wr.heap.size,3,none⟩=some (.int .i64 j):=ad (by rw[nM];simp)
   have FE:=zh nM;have CG:=zh (Ho.out.since tW);have Ru:=zh (Og.out.aab tW);have d1:∀W,aa w5 W->W.cell? ⟨g,v,none⟩=some (.int .i64 mv):=ad (CG.out.cell CH);have d2:∀W,aa w5 W->W.cell? ⟨g,q,none⟩=some (.int .i64 mq):=ad (CG.out.cell rW);have F4:=zh (dz.after tW);have rt:g<wr.heap.size:=(World.ownsRow.lt Ho.out g rfl).2;clear hx CH rW nM tW;go_upto_region 7 with(fail);rw[<- FE.out];clear k0 k1 k2 k3 dz;refine bI 21 (aa w5) (ab _) ?_;simp only[zT]
   iterate 6 (refine cY rfl ?_;simp only[zA])
   iterate 6 (refine kA rfl rfl ?_;simp only[zA])
   (first | refine eH rfl rfl ?_ | (refine cY rfl ?_));simp only[zA]
   refine cY rfl ?_;simp only[zA]
   iterate 6 (refine kA rfl rfl ?_;simp only[zA])
   (first | refine eH rfl rfl ?_ | (refine cY rfl ?_));simp only[zA]
   intro W hW;have q0:=ak z0 hW;have q1:=ak z1 hW;have q2:=ak z2 hW;have q3:=ak z3 hW;have y8:=zh (CG.out.since hW);have Mw:=zh (Ru.out.aab hW);have FW:=zh (F4.out.after hW);have y1:=ak d1 hW;have y2:=ak d2 hW;have Rv:aa W W:=ab _;have hgW:g<W.heap.size:=(World.ownsRow.lt y8.out g rfl).2;clear z0 z1 z2 z3 d1 d2 hW;cases hb:(((v:Int) != (q:Int))&&decide (mv<0)&&decide (mq<0))
   ·have ng:Hid (m=(es.take (k+1)).foldl cZ (List.replicate n.ends.length (-1))):=by
     show _=_
     rw[qM.out,hb,if_neg (by simp)]
    clear hb;go_wp2;go_roundw
    case rel=>exact⟨k+1,m,by omega,by go_num,ng.out,y8.out,Mw.out,FW.out⟩
    case measure=>simp[intOf];omega
   ·have ng:Hid ((m.set v (i:Int)).set q (j:Int)=(es.take (k+1)).foldl cZ (List.replicate n.ends.length (-1))):=by
     show _=_
     rw[qM.out,hb,if_pos rfl]
    have f1:=y8.out.free v;have f2:=y8.out.free q
    have Jj:¬v=q:=fun e=>by subst e;simp at hb
    have hqv:¬q=v:=fun e=>Jj e.symm
    have DN:=zh (((y8.out.set (k:=v) (i:Int)).set (k:=q) (j:Int)).since (ah (ab _)));have YK:=zh (gR.aab (rl (k:=q) (rl (k:=v) Mw.out Mv.out (.int .i64 (i:Int))) Mv.out (.int .i64 (j:Int))) (ah (ab _)));have YL:=zh (show aa w0 ((W.setCell ⟨g,v,none⟩ (.int .i64 (i:Int))).setCell ⟨g,q,none⟩ (.int .i64 (j:Int))).drew from ah (Below.setCell (Below.setCell FW.out U9 _) U9 _));clear hb;go_upto_region 8 with(fail)
    go_region
    go_wp2;go_roundw
    case rel=>exact⟨k+1,_,by omega,by go_num,ng.out,DN.out,YK.out,YL.out⟩
    case measure=>simp[intOf];omega
  ·have Hr:Hid (jv n=m):=by show _=_;rw[HG.out,Hm.out,show k=es.length by omega,List.take_length]
   obtain rfl:k=es.length:=by omega
   go_wp2
   go_ret2
   exact⟨_,rfl,by rw[Hr.out];exact Ho.out.mono aY.out.size,aa.after aY.out dz⟩
section
variable {P : Program} {ops : Array Oper}
def xZ (ops:Array Oper) (k:Nat) (mask:List Bool):Bool:=
 qA ops ops.size&&decide (mask.length=k)&&decide (k<=ops.size) &&
 ((List.range k).all fun i=>match ops[i]? with
  | none=>true
  | some o=>if mask.getD i true then (List.range i).all fun j => !mask.getD j true||((fk ops (i+1)).getD i []).contains j
   else (aV o).all fun j => !mask.getD j true) &&
 (List.range ops.size).all fun i=>decide (i<k)||(List.range k).all fun j=>((fk ops (i+1)).getD i []).contains j
theorem kx {Q:Exit->Act->World->Prop} {DD:Nat} {a:Act} {w w0:World} (k:Nat) (mask:List Bool) (hm:P.follows .mixedOrders=true) (hc:xZ ops k mask=true) (aX:aa w0 w)
  (h:ic P ops w0 (fun A=>aQ P ops (aa w0) (fun A W=>∃Inv:World->Prop,Inv W/\ey P ops Inv (fun A'=>∀W',Inv W'->Q .normal A' W') (ops.toList.drop k) A) (b8 mask (ops.toList.take k)) A w.drew) (df mask (ops.toList.take k)) a):(Code.region DD ops true).wp P Q a w:=by
 unfold xZ at hc;simp only[Bool.and_eq_true,decide_eq_true_eq]at hc;obtain⟨⟨⟨⟨hf,C6⟩,Fh⟩,Gt⟩,Rw⟩:=hc;have dR:=nQ hf
 have aH:mask.length=(ops.toList.take k).length:=by simp;omega
 have sV:∀i,i<k->∃b,mask[i]?=some b:=fun i hi=>⟨_,List.getElem?_eq_getElem (by omega)⟩
 have i8:∀i o,i<k->ops[i]?=some o->(ops.toList.take k)[i]?=some o:=fun i o hi ho=>by
  rw[List.getElem?_take,if_pos hi];simpa using ho
 have mX:∀i b,mask[i]?=some b->mask.getD i true=b:=fun i b hb=>by rw[zDd,hb];rfl
 have bY:∀i b,mask[i]?=some b->i<k:=fun i b hb=>by have:=(List.getElem?_eq_some_iff.1 hb).1;omega
 have EA:∀i j,k<=i->i<ops.size->j<k->zo ops j i:=fun i j V0 hi hj=>by
  have:=List.all_eq_true.1 Rw i (List.mem_range.2 hi)
  rw[Bool.or_eq_true]at this;rcases this with h1 | h1
  ·simp at h1;omega
  ·exact ch (i+1) i j (by simpa using List.all_eq_true.1 h1 j (List.mem_range.2 hj))
 have O_:∀i j,mask[i]?=some true->mask[j]?=some true->j<i->zo ops j i:=fun i j hi hj kK=>by
  have fJ:=bY i _ hi;have ho:ops[i]?=some ops[i]:=Array.getElem?_eq_getElem (by omega)
  have:=List.all_eq_true.1 Gt i (List.mem_range.2 fJ)
  simp only[ho]at this;rw[if_pos (mX i _ hi)]at this
  have:=List.all_eq_true.1 this j (List.mem_range.2 kK)
  rw[mX j _ hj,Bool.not_true,Bool.false_or]at this;exact ch (i+1) i j (by simpa using this)
 have Pa:∀i o j,mask[i]?=some false->ops[i]?=some o->j∈aV o->mask[j]?=some false:=fun i o j hi ho hj=>by
  have fJ:=bY i _ hi;have kK:=dR.back i o ho j hj
  have:=List.all_eq_true.1 Gt i (List.mem_range.2 fJ)
  simp only[ho]at this
  rw[if_neg (by rw[mX i _ hi];simp)]at this
  have:=List.all_eq_true.1 this j hj
  obtain⟨b,hb⟩:=sV j (by omega);rw[mX j _ hb]at this
  cases b <;> simp_all
 obtain⟨aae,F,h0,fM,fY⟩:=lq _ a h
 have lC:∀r,r<=mask.count false->aA a ops (fun j=>aae (rk false mask j)) (fun j=>mask[j]?=some false/\rk false mask j<r) (F r):=by
  intro r
  induction r with
  | zero=>intro _;rw[h0];exact⟨rfl,rfl,fun j _ _ hj=>by have:=hj.2;omega,fun _ _=>rfl⟩
  | succ r ih=>
   intro hr;obtain⟨i,kM,oy⟩:=jN (b:=false) mask r (by omega);have fJ:=bY i _ kM;have ho:ops[i]?=some ops[i]:=Array.getElem?_eq_getElem (by omega);have eC:=km mask _ i aH kM;rw[i8 i _ fJ ho,oy]at eC;rw[(fY r _ eC).2]
   have:=((ih (by omega)).put ho (fun j oj d hj eG hd gm=>by
    have:=dR.aaq i _ (by omega) ho j oj (by have:=bY j _ hj.1;omega) eG d hd gm
    subst this
    have:=hj.2
    omega)).same (E:=fun j=>mask[j]?=some false/\rk false mask j<r+1) (fun j=>by
     constructor
     ·rintro(⟨a1,a2⟩ | rfl)
      ·exact⟨a1,by omega⟩
      ·exact⟨kM,by omega⟩
     ·rintro⟨a1,a2⟩
      by_cases e:rk false mask j=r
      ·exact .inr (mr a1 kM (by omega))
      ·exact .inl ⟨a1,by omega⟩)
   rw[show aae r=aae (rk false mask i)by rw[oy]]
   exact this
 have J5:(df mask (ops.toList.take k)).length=mask.count false:=lB _ _ aH;rw[J5]at fM
 let Rx:Act->World->Prop:=fun A W=>∃Inv:World->Prop,Inv W/\ey P ops Inv (fun A'=>∀W',Inv W'->Q .normal A' W') (ops.toList.drop k) A
 let J:(Nat->Prop)->Act->World->Prop:=fun D a' W=>
  (aa w0 W/\(∀j,D j->j<k)/\∃(V:Nat->Value) (q:Nat) (A:Act),(∀j,mask[j]?=some false->V j=aae (rk false mask j))/\(∀j,mask[j]?=some true->(D j↔rk true mask j<q)) /\
   aA a ops V D a'/\aA a ops V (fun j=>mask[j]?=some false\/(mask[j]?=some true/\rk true mask j<q)) A /\
   aQ P ops (aa w0) Rx ((b8 mask (ops.toList.take k)).drop q) A W) \/
  (∃(Inv:World->Prop) (V:Nat->Value) (G:Nat->Act),Inv W/\(∀j,j<k->D j)/\aA a ops V D a'/\(∀i o,k<=i->ops[i]?=some o->oo P ops Inv o (G (i-k)) (V i)) /\
   (∀i,k<=i->i<=ops.size->aA a ops V (fun j=>j<i) (G (i-k)))/\∀W',Inv W'->Q .normal (G (ops.size-k)) W')
 have Wi:(b8 mask (ops.toList.take k)).length=mask.count true:=lA _ _ aH
 have sW:∀D a' W,J D a' W->(∀j,j<k->D j)->∃(Inv:World->Prop) (V:Nat->Value) (G:Nat->Act),Inv W/\(∀j,j<k->D j)/\aA a ops V D a'/\(∀i o,k<=i->ops[i]?=some o->oo P ops Inv o (G (i-k)) (V i)) /\
   (∀i,k<=i->i<=ops.size->aA a ops V (fun j=>j<i) (G (i-k)))/\∀W',Inv W'->Q .normal (G (ops.size-k)) W':=by
  intro D a' W hJ hD;rcases hJ with⟨hW,jO,V,q,A,hV,hT,fX,mu,oN⟩ | hJ
  ·have hq:mask.count true<=q:=by
    by_cases e:mask.count true<=q
    ·exact e
    ·obtain⟨i,kM,oy⟩:=jN (b:=true) mask q (by omega)
     have:=(hT i kM).1 (hD i (bY i _ kM))
     omega
   have vf:(b8 mask (ops.toList.take k)).drop q=[]:=List.drop_eq_nil_of_le (by omega);rw[vf]at oN
   have ea:a'=A:=fX.ext mu (fun j hj=>by
    constructor
    ·intro nP;obtain⟨b,hb⟩:=sV j (jO j nP);cases b
     ·exact .inl hb
     ·exact .inr ⟨hb,(hT j hb).1 nP⟩
    ·rintro(hb | ⟨hb,_⟩) <;> exact hD j (bY j _ hb))
   subst ea;obtain⟨Inv,hI,Gf⟩:Rx a' W:=oN
   obtain⟨vt,G,g0,Mx,U_⟩:=mN _ _ Gf;have kD:(ops.toList.drop k).length=ops.size-k:=by simp
   rw[kD]at Mx
   have F5:∀i o,k<=i->ops[i]?=some o->(ops.toList.drop k)[i-k]?=some o:=fun i o hi ho=>by
    rw[List.getElem?_drop,show k+(i-k)=i by omega];simpa using ho
   let V':Nat->Value:=fun j=>if j<k then V j else vt (j-k)
   have v1:∀j,j<k->V' j=V j:=fun j hj=>if_pos hj
   have v2:∀j,k<=j->V' j=vt (j-k):=fun j hj=>if_neg (by omega)
   have Va:aA a ops V' D a':=fX.aaj (fun j _ hj=>(v1 j (jO j hj)).symm)
   refine⟨Inv,V',G,hI,hD,Va,fun i o hi ho=>?_,?_,Mx⟩
   ·rw[v2 i hi];exact(U_ (i-k) o (F5 i o hi ho)).1
   ·have step:∀t,k+t<=ops.size->aA a ops V' (fun j=>j<k+t) (G t):=by
     intro t
     induction t with
     | zero=>
      intro _;rw[g0]
      exact Va.same (fun j=>⟨fun h=>by have:=jO j h;omega,fun h=>hD j (by omega)⟩)
     | succ t ih=>
      intro ht;have kd:k+t<ops.size:=by omega
      have ho:ops[k+t]?=some ops[k+t]:=Array.getElem?_eq_getElem kd;have hg:=F5 (k+t) _ (by omega) ho;rw[show k+t-k=t by omega]at hg
      rw[(U_ t _ hg).2]
      have:=((ih (by omega)).put ho (fun j oj d hj eG hd gm=>by
       have:=dR.aaq (k+t) _ kd ho j oj (by omega) eG d hd gm
       omega)).same (E:=fun j=>j<k+(t+1)) (fun j=>by show(j<k+t\/j=k+t)↔j<k+(t+1);omega)
      rw[v2 (k+t) (by omega),show k+t-k=t by omega]at this
      exact this
    intro i hi dY
    have:=step (i-k) (by omega)
    rwa [show k+(i-k)=i by omega]at this
  ·exact hJ
 refine gK hm dR.back J (.inl ⟨ah aX,fun j hj=>hj.elim,fun j=>aae (rk false mask j),0,F (mask.count false),fun j _=>rfl,fun j _=>⟨fun h=>h.elim,fun h=>by omega⟩,⟨rfl,rfl,fun j _ _ hj=>hj.elim,fun _ _=>rfl⟩,?_,?_⟩) ?_ ?_
 ·exact(lC _ (Nat.le_refl _)).same (fun j=>by
   constructor
   ·rintro⟨a1,-⟩;exact .inl a1
   ·rintro(a1 | ⟨-,a2⟩)
    ·exact⟨a1,fc a1⟩
    ·omega)
 ·rw[List.drop_zero];exact fM
 ·intro D a' W i o hJ ho nE hO nR;have dY:i<ops.size:=(Array.getElem?_eq_some_iff.1 ho).1
  have CI:∀t∈o.looksAt ops,∀j oj,ops[j]?=some oj->oj.dst=some t->D j/\j∈aV o:=fun t ht j oj eG hd=>by
   have:=dR.looks i o dY ho t ht j oj (Array.getElem?_eq_some_iff.1 eG).1 eG hd
   exact⟨hO j this,this⟩
  have mw:∀j oj d,D j->ops[j]?=some oj->o.dst=some d->oj.dst≠some d:=fun j oj d hj eG hd gm=>by
   have:=dR.aaq i o dY ho j oj (Array.getElem?_eq_some_iff.1 eG).1 eG d hd gm
   subst this;exact nE hj
  by_cases fJ:i<k
  ·-- one of the first k
   rcases hJ with⟨hW,jO,V,q,A,hV,hT,fX,mu,oN⟩ | ⟨_,_,_,_,h3,-⟩
   rotate_left
   ·exact absurd (h3 i fJ) nE
   obtain⟨b,hb⟩:=sV i fJ
   cases b with
   | false=>
    have eC:=km mask _ i aH hb;rw[i8 i _ fJ ho]at eC;obtain⟨⟨hw,bG⟩,-⟩:=fY _ _ eC;have hr:=fc hb
    obtain⟨he,oO⟩:=dE (ops:=ops) (a':=a') (A:=F (rk false mask i)) (fun t ht=>(fX.aaj (v':=V) (fun _ _ _=>rfl)).agree ((lC _ (Nat.le_of_lt hr)).aae (v':=V) (fun j hj=>(hV j hj.1).symm)) t (fun j oj hj eG hd=>by
     obtain⟨d1,d2⟩:=CI t ht j oj eG hd;have Ak:=Pa i o j hb ho d2
     exact⟨d1,Ak,oM (dR.back i o ho j d2) Ak⟩)) (fun cs b=>dR.aam i o cs b ho)
    rw[if_pos (oO.trans hw)];refine .inl ?_;unfold Oper.wp;rw[he,bG W hW];refine .inl ⟨hW,fun j hj=>hj.elim (fun h=>jO j h) (fun h=>by omega),V,q,A,hV,fun j hj=>?_,?_,mu,oN⟩
    ·rw[<- hT j hj];constructor
     ·rintro(h | rfl)
      ·exact h
      ·rw[hb]at hj;cases hj
     ·exact .inl
    ·have:=fX.put (i:=i) ho mw
     rwa [hV i hb]at this
   | true=>
    have hq:rk true mask i=q:=by
     have h1:¬rk true mask i<q:=fun h=>nE ((hT i hb).2 h)
     by_cases e:rk true mask i=q
     ·exact e
     ·obtain⟨j,rC,uN⟩:=jN (b:=true) mask q (by have:=fc hb;omega)
      have kK:j<i:=by
       rcases Nat.lt_trichotomy j i with h | h | h
       ·exact h
       ·subst h;omega
       ·have:=oM h hb;omega
      have:=dJ nR ho hO (O_ i j hb rC kK)
      have:=(hT j rC).1 this
      omega
    have eC:=nU mask _ i aH hb;rw[i8 i _ fJ ho,hq]at eC;have Gu:q<(b8 mask (ops.toList.take k)).length:=(List.getElem?_eq_some_iff.1 eC).1;rw[List.drop_eq_getElem_cons Gu,(List.getElem?_eq_some_iff.1 eC).2]at oN
    obtain⟨he,oO⟩:=dE (ops:=ops) (a':=a') (A:=A) (fun t ht=>fX.agree mu t (fun j oj hj eG hd=>by
     have jy:j<k:=hj.elim (fun h=>jO j h) (fun h=>h.elim (bY j _) (fun h=>bY j _ h.1))
     obtain⟨d1,d2⟩:=CI t ht j oj eG hd;refine⟨d1,?_⟩;obtain⟨b,hb'⟩:=sV j jy;cases b
     ·exact .inl hb'
     ·exact .inr ⟨hb',(hT j hb').1 d1⟩)) (fun cs b=>dR.aam i o cs b ho)
    have next:∀u W',aa w0 W'->aQ P ops (aa w0) Rx ((b8 mask (ops.toList.take k)).drop (q+1)) (A.put o.dst u) W'->J (fun j=>D j\/j=i) (a'.put o.dst u) W':=by
     intro u W' hS ht
     let V':Nat->Value:=fun j=>if j=i then u else V j
     have e1:∀j,j≠i->V' j=V j:=fun j hj=>if_neg hj
     have e2:V' i=u:=if_pos rfl;refine .inl ⟨hS,fun j hj=>hj.elim (fun h=>jO j h) (fun h=>by omega),V',q+1,A.put o.dst u,fun j hj=>?_,fun j hj=>?_,?_,?_,ht⟩
     ·rw[e1 j (fun e=>by subst e;rw[hb]at hj;cases hj)];exact hV j hj
     ·constructor
      ·rintro(h | rfl)
       ·have:=(hT j hj).1 h;omega
       ·omega
      ·intro h
       by_cases e:rk true mask j=q
       ·exact .inr (mr hj hb (by omega))
       ·exact .inl ((hT j hj).2 (by omega))
     ·have:=(fX.aaj (v':=V') (fun j _ hj=>(e1 j (fun e=>by subst e;exact nE hj)).symm)).put (i:=i) ho mw
      rwa [e2]at this
     ·have:=((mu.aaj (v':=V') (fun j _ hj=>(e1 j (fun e=>by
       subst e;rcases hj with hj | ⟨-,hj⟩
       ·rw[hb]at hj;cases hj
       ·omega)).symm)).put (i:=i) ho (fun j oj d hj eG hd gm=>by
        have:=dR.aaq i o dY ho j oj (Array.getElem?_eq_some_iff.1 eG).1 eG d hd gm
        subst this;rcases hj with hj | ⟨-,hj⟩
        ·rw[hb]at hj;cases hj
        ·omega)).same (E:=fun j=>mask[j]?=some false\/(mask[j]?=some true/\rk true mask j<q+1)) (fun j=>by
        constructor
        ·rintro((h | ⟨h,h'⟩) | rfl)
         ·exact .inl h
         ·exact .inr ⟨h,by omega⟩
         ·exact .inr ⟨hb,by omega⟩
        ·rintro(h | ⟨h,h'⟩)
         ·exact .inl (.inl h)
         ·by_cases e:rk true mask j=q
          ·exact .inr (mr h hb (by omega))
          ·exact .inl (.inr ⟨h,by omega⟩))
      rwa [e2]at this
    rcases oN with⟨hw,bG⟩ | ⟨hw,bG⟩
    ·rw[if_pos (oO.trans hw)];refine .inl ?_;unfold Oper.wp;rw[he]
     generalize (execOp A.eval o).run P W=r at bG ⊢
     cases r with
     | ok nx W'=>
      cases nx with
      | value u=>exact next u W' bG.1 bG.2
      | skip=>exact next undef W' bG.1 bG.2
      | row row args=>exact Rows.mono bG fun u kc h=>next u kc h.1 h.2
      | enter f args=>
       simp only[Oper.upon]
       exact Calls.mono bG fun e kc ⟨u,uU,h3,h4⟩=>by subst uU;exact next u kc h3 h4
      | _=>exact bG.elim
     | halt x W'=>exact bG.elim
    ·rw[if_neg (by rw[oO.trans hw];simp)]
     exact next _ _ hW bG
  ·-- the flow behind the first k
   have bF:∀j,j<k->D j:=fun j hj=>dJ nR ho hO (EA i j (by omega) dY hj)
   obtain⟨Inv,V,G,hI,hD,fX,Ix,Oh,hQ⟩:=sW D a' W hJ bF
   obtain⟨he,oO⟩:=dE (ops:=ops) (a':=a') (A:=G (i-k)) (fun t ht=>fX.agree (Oh i (by omega) (by omega)) t (fun j oj hj eG hd=>by
    obtain⟨d1,d2⟩:=CI t ht j oj eG hd
    exact⟨d1,dR.back i o ho j d2⟩)) (fun cs b=>dR.aam i o cs b ho)
   have next:∀W',Inv W'->J (fun j=>D j\/j=i) (a'.put o.dst (V i)) W':=fun W' JP=>
    .inr ⟨Inv,V,G,JP,fun j hj=>.inl (hD j hj),fX.put (i:=i) ho mw,Ix,Oh,hQ⟩
   rcases Ix i o (by omega) ho W hI with⟨h1,h2⟩ | ⟨h1,h2⟩
   ·rw[if_pos (oO.trans h1)];refine .inl ?_;unfold Oper.wp;rw[he];unfold bN at h2
    generalize (execOp (G (i-k)).eval o).run P W=r at h2 ⊢
    cases r with
    | ok nx W'=>
     cases nx with
     | value u=>simp only at h2;obtain⟨rfl,h3⟩:=h2;exact next W' h3
     | skip=>simp only at h2;obtain⟨h4,h3⟩:=h2;simp only[Oper.upon];rw[h4];exact next W' h3
     | enter f args=>
      simp only at h2
      simp only[Oper.upon]
      exact h2.mono fun e kc ⟨uU,h3⟩=>by subst uU;exact next kc h3
     | _=>exact h2.elim
    | halt x W'=>exact h2.elim
   ·rw[if_neg (by rw[oO.trans h1];simp)]
    have:=next W hI
    rw[h2]at this;exact this
 ·intro D a' W hJ bF;obtain⟨Inv,V,G,hI,hD,fX,Ix,Oh,hQ⟩:=sW D a' W hJ (fun j hj=>bF j (by omega))
  have ea:a'=G (ops.size-k):=fX.ext (Oh ops.size Fh (Nat.le_refl _)) (fun j hj=>⟨fun _=>hj,fun _=>bF j hj⟩)
  rw[ea];exact hQ W hI
end
theorem Iy {n:am} (hn:aw n=true):Gd 100 100 n:=by
 obtain⟨h1,h2,h3,h4,h5⟩:=yQ.1 hn;refine⟨by omega,fun k es he=>?_,?_,?_,fun k es he e hm=>?_⟩
 ·have:=(e9 hn he).1;omega
 ·unfold pZ at h2;rw[Bool.or_eq_true,Bool.and_eq_true,beq_iff_eq,List.isEmpty_iff]at h2;rcases h2 with h | h
  ·rw[h];simp
  ·omega
 ·unfold ie at h3;simp only[Bool.and_eq_true,beq_iff_eq]at h3;omega
 ·obtain⟨i,hi⟩:=List.getElem?_of_mem hm
  have hp:a8 n k i e:=by unfold a8;rw[ag he];exact hi
  obtain⟨-,f1,f2,f3,hb⟩:=fA hn hp;obtain⟨fs,zK⟩:=ax n.ends e.1.toNat (by omega)
  refine⟨e.1.toNat,e.2.toNat,fs,Prod.ext (by simp;omega) (by simp;omega),zK,?_⟩
  unfold a8 at hb;rw[ag zK]at hb;exact ai hb
theorem wV (ve vi vn:Value) (n:am) (w:World) (h:aI w ve vi vn n) (YM:n.ends.length<=1000):
  Calls Tryz.prog 34 #[.agg #[ve,vi,vn]] w fun e w'=>∃u,e=.returned u/\Own w' w.heap.size u (List.replicate n.ends.length (-1))/\Below w.heap.size w w':=by
 obtain⟨w0,A,c,A2,c2,A3,c3,rfl,rfl,rfl,er,hm,et,fG,HA,bM,aY,H,e8,fh,fi⟩:=zB h;clear h
 go_enter Tryz.func34,Tryz.ntmps34
 go_upto_region 1 with(fail);rw[<- bM.out];have aX:aa w0 w0:=ab _;go_wp2_with fail;refine(vP n.ends.length w0 (by omega)).mono ?_;rintro e w1 ⟨u,rfl,ho,hb⟩;obtain⟨A9,c9,rfl,-,-,-⟩:=id ho.ints;have Ho:=zh ho;have Hb:=zh (show aa w0 w1 from hb);clear ho hb;go_wp2;go_ret;have h9:=Own.mono Ho.out aY.out.size;rw[List.length_replicate]at h9;exact⟨_,rfl,h9,aa.after aY.out Hb.out⟩
theorem wW (ve vi vn vm:Value) (n:am) (m:List Int) (v i x j:Nat) (es:List (Int×Int)) (w:World) (h:aI w ve vi vn n) (hm:aG w vm m) (hl:m.length=n.ends.length) (YM:n.ends.length<=1000)
  (ba:n.ends[v]?=some es) (he:es[i]?=some ((x:Int),(j:Int))) (rF:es.length<=1000) (hx:x<n.ends.length):
  Calls Tryz.prog 36 #[.agg #[ve,vi,vn],vm,.int .i64 v,.int .i64 i] w fun e w'=>∃u,e=.returned u/\Own w' w.heap.size u ((m.set v (i:Int)).set x (j:Int))/\Below w.heap.size w w':=by
 have HM:=zh hm;obtain⟨AM,cM,rfl,-,-,-⟩:=hm
 obtain⟨w0,A,c,A2,c2,A3,c3,rfl,rfl,rfl,er,hm,et,fG,HA,bM,aY,H,e8,fh,fi⟩:=zB h;clear h
 have hv:=ai ba;have hi:=ai he;obtain⟨b,vH,cr,ur,gn,A_,bS,bT⟩:=fo H.out.es ba;cases gn;have tr:=ad bS;obtain⟨A1,z1,rfl,cj,cX,gn⟩:=bT;unfold maxLen at cX;obtain⟨b1,sD,rfl,mO,gm⟩:=gn i _ he;have t1:=ad mO;have t2:=ad gm;simp only at t1 t2
 have Hl:=zh hl;have YN:v<m.length:=by omega
 have YO:x<m.length:=by omega
 have C6:m.length<=1000:=by omega
 have aX:aa w0 w0:=ab _;clear bS mO gm gn ba he hl A_
 go_enter Tryz.func36,Tryz.ntmps36
 go_upto_region 1 with(fail);rw[<- bM.out];go_wp2_with fail;refine(qJ _ m w0 (HM.out.aab aY.out) (by omega) (by omega)).mono ?_;rintro e w1 ⟨u1,rfl,gu,aJ⟩;have bu:aa w0 w1:=aJ;rcases gu.cases with⟨-,e1⟩ | ⟨g,c1,rfl,uy,xx⟩
 ·have:=congrArg List.length e1;rw[List.length_nil]at this;omega
 have f1:=gu.free v;have Dk:=zh gu;have iu:=zh bu
 have JF:m.length<=c1/\c1<=maxLen:=by obtain⟨_,_,e,q1,q2,_⟩:=gu.ints;cases e;exact⟨q1,q2⟩
 unfold maxLen at JF;obtain⟨YP,YQ⟩:=JF;obtain⟨y1,Fj⟩:=ax m v YN;have YR:=gu.cell Fj;clear gu aJ Fj aX bu;go_upto_region 3 with(fail);obtain⟨w2,eY⟩:∃z,z=w1.setCell ⟨g,v,none⟩ (.int .i64 (i:Int)):=⟨_,rfl⟩
 rw[<- eY]
 have dS:aa w0 w2:=by rw[eY];exact Below.setCell iu.out uy _
 have lv:Hid (Own w2 w0.heap.size (.slice (some ⟨g,0,none⟩) m.length c1) (m.set v (i:Int))):=by show Own _ _ _ _;rw[eY];exact Dk.out.set (k:=v) (i:Int)
 have g7:=zh dS;have tx:=ak e8 dS;have tz:=ak fh dS;have tA:=ak fi dS;have YS:=ak tr dS;have Ee:=ak t1 dS;have Ef:=ak t2 dS;clear eY dS e8 fh fi tr t1 t2 f1 YR;refine aq 20 (aa w2) (by kernel_rfl) (by kernel_rfl) (by simp) (ah (ab _)) ?_;simp only[zT]
 iterate 20 (refine cY rfl ?_;simp only[zA])
 intro W hW;have qe:=zh (lv.out.since hW);have kQ:=zh (g7.out.after hW)
 obtain⟨y2,Gr⟩:=ax (m.set v (i:Int)) x (by rw[List.length_set];exact YO)
 have c2:=qe.out.cell Gr;have f2:=qe.out.free x;clear Gr hW tx tz tA YS Ee Ef;go_wp2;go_ret;have h9:=qe.out.set (k:=x) (j:Int);refine⟨_,rfl,Own.mono h9 aY.out.size,?_⟩;exact Below.setCell (aa.after aY.out kQ.out) (Nat.le_trans aY.out.size uy) _
theorem wX (ve vi vn:Value) (n:am) (w:World) (h:aI w ve vi vn n):
  Calls Tryz.prog 8 #[.agg #[ve,vi,vn]] w fun e w'=>∃u,e=.returned (.tuple #[u,.bool (aw n)])/\Own w' w.heap.size u (if aw n=true then jv n else [])/\Below w.heap.size w w':=by
 obtain⟨w0,A,c,A2,c2,A3,c3,rfl,rfl,rfl,er,hm,et,fG,HA,bM,aY,H,e8,fh,fi⟩:=zB h;clear h
 obtain⟨q,hq⟩:∃q,aw n=q:=⟨_,rfl⟩
 rw[hq];have Hq:=zh hq;clear hq
 go_enter Tryz.func8,Tryz.ntmps8
 go_upto_region 1 with(fail);rw[<- bM.out];have aX:aa w0 w0:=ab _;go_wp2_with fail;refine(oG _ _ _ n w0 H.out).mono ?_;rw[Hq.out];rintro e w1 ⟨rfl,aJ⟩;have bu:aa w0 w1:=aJ;clear aJ aX;cases q
 ·have iu:=zh bu;go_wp2
  go_ret2
  exact⟨_,rfl,fT _ _,aa.after aY.out iu.out⟩
 have hn:=Hq.out;have vG:=dj hn;obtain⟨es,ba⟩:∃es,es=eE n:=⟨_,rfl⟩
 have HG:Hid (jv n=es.foldl cZ (List.replicate n.ends.length (-1))):=by show _=_;unfold jv;rw[<- ba]
 have Rs:Hid (∀x∈es,∃(v i q j:Nat) (fs:List (Int×Int)),x=((v:Int),(i:Int),(q:Int),(j:Int))/\v<n.ends.length/\q<n.ends.length/\n.ends[v]?=some fs/\fs[i]?=some ((q:Int),(j:Int))/\fs.length<=6):=fun x hx=>by
  rw[ba]at hx;obtain⟨v,i,f,hv,nl,hk,rfl⟩:=d_.1 hx;obtain⟨-,f1,f2,f3,-⟩:=fA hn nl;obtain⟨fs,zK⟩:=ax n.ends v hv;unfold a8 at nl;rw[ag zK]at nl
  have ef:f=((f.1.toNat:Int),(f.2.toNat:Int)):=Prod.ext (by simp;omega) (by simp;omega)
  refine⟨v,i,f.1.toNat,f.2.toNat,fs,Prod.ext rfl (Prod.ext rfl (Prod.ext (by simp;omega) (by simp;omega))),hv,by omega,zK,by rw[<- ef];exact nl,(e9 hn zK).1⟩
 have YT:Hid (∀W,aa w0 W->Calls Tryz.prog 35 #[.agg #[.slice A n.ends.length c,.slice A2 n.ids.length c2,.slice A3 n.aaa.length c3]] W fun e w'=>∃u,e=.returned u/\j6 w' W.heap.size u es/\Below W.heap.size W w'):=fun W hW=>by
  rw[ba];exact ze _ _ _ n W (H.out.aab hW.below) (Iy hn)
 clear hn ba;go_wp2_with fail;refine(wV _ _ _ n w1 (H.out.aab bu.below) (by omega)).mono ?_;rintro e w2 ⟨u2,rfl,cy,hb2⟩;have dS:aa w0 w2:=bu.after (show aa w1 w2 from hb2);have lv:=zh (cy.mono bu.below.size);clear cy hb2 bu;obtain⟨B2,d2,rfl,-,-,-⟩:=id lv.out.ints;go_wp2_with fail;refine(YT.out w2 dS).mono ?_;rintro e w3 ⟨u3,rfl,fU,aZ⟩;have g_:aa w0 w3:=dS.after (show aa w2 w3 from aZ);have qe:=zh (lv.out.aab aZ)
 obtain⟨⟨B3,d3,rfl,Rt,Iw⟩,-⟩:=id fU.at
 unfold maxLen at Iw;have YU:=zh fU;have YV:Hid (w0.heap.size<=w2.heap.size):=dS.below.size;clear aZ fU dS;have YW:Hid (aa w3 w3):=ab _;go_wp2
 go_loopw [4,15] (fun u i wr=>∃(k:Nat) (m:List Int),k<=es.length/\i=.int .i64 k/\m=(es.take k).foldl cZ (List.replicate n.ends.length (-1))/\Own wr w0.heap.size u m/\aa w3 wr) (fun _ i _=>es.length-(intOf i).toNat)
 case atStart=>exact⟨0,List.replicate n.ends.length (-1),Nat.zero_le _,rfl,by simp,by have h9:=qe.out;rw[List.length_replicate]at h9;exact h9,ab _⟩
 case round=>
  obtain⟨k,m,hk,rfl,hm,ho,dz⟩:=hrel;have Hm:=zh hm;have Ho:=zh ho
  have C6:m.length=n.ends.length:=by rw[hm,pJ];simp
  have F3:=zh C6;obtain⟨Bm,dm,rfl,YX,Ry,JF⟩:=id ho.ints;unfold maxLen at Ry;clear hm ho
  by_cases aH:k<es.length
  ·obtain⟨x,hx⟩:∃x,es[k]?=some x:=⟨_,List.getElem?_eq_getElem aH⟩
   obtain⟨v,i,q,j,fs,rfl,hv,hq,zK,Vb,NF⟩:=Rs.out x (List.mem_of_getElem? hx);obtain⟨g3,Ec,br,e3,r0,-,r1,r2,r3,r4⟩:=(YU.out.aab dz).at.2 k _ hx
   injection e3 with e31 e32 e33
   subst e31;clear e32 e33;simp only at r1 r2 r3 r4
   have m3:IntKind.i64.wrap ((k:Int)+1)=(k:Int)+1:=aR _ (by omega) (by omega)
   obtain⟨mv,CH⟩:=ax m v (by rw[F3.out];exact hv)
   obtain⟨mq,rW⟩:=ax m q (by rw[F3.out];exact hq)
   obtain⟨bm,om,rfl,xA⟩:=JF v _ CH;obtain⟨bm',om',em,LV⟩:=JF q _ rW;cases em;have pR:v<m.length:=by omega
   have Kv:q<m.length:=by omega
   have qM:Hid ((es.take (k+1)).foldl cZ (List.replicate n.ends.length (-1))=if (((v:Int) != (q:Int))&&decide (mv<0)&&decide (mq<0))=true then (m.set v (i:Int)).set q (j:Int) else m):=by
    show _=_
    rw[aK hx,List.foldl_append,<- Hm.out];show cZ m _=_
    unfold cZ;simp only[Int.toNat_natCast];rw[ag CH,ag rW];exact FZ _ _ _ _ _ _
   have z0:=ad r0;have z1:=ad r1;have z2:=ad r2;have z3:=ad r3;have z4:=ad r4;have y1:=ad xA;have y2:=ad LV;unfold qs at z0;obtain⟨wo,rfl⟩:∃z,z=wr:=⟨_,rfl⟩
   have Dc:aa wo wo:=ab _
   have YY:Hid (∀W,aa wo W->Calls Tryz.prog 36 #[.agg #[.slice A n.ends.length c,.slice A2 n.ids.length c2,.slice A3 n.aaa.length c3],.slice (some ⟨bm,om,none⟩) m.length dm,.int .i64 v,.int .i64 i] W fun e w'=>∃u,e=.returned u/\Own w' W.heap.size u ((m.set v (i:Int)).set q (j:Int))/\Below W.heap.size W w'):=fun W hW=>
    wW _ _ _ _ n m v i q j fs W (H.out.aab (g_.after (dz.after hW)).below) (Ho.out.ints.aab hW.below) F3.out (by omega) zK Vb (by omega) hq
   have fQ:=zh dz;have kQ:=zh g_;have YZ:Hid (w0.heap.size<=wo.heap.size):=(g_.after dz).below.size;have hc:=z0 wo Dc;clear hx CH rW zK Vb r0 r1 r2 r3 r4 xA LV JF C6;go_upto_region 7 with(fail);clear hc g_ dz;refine aq 25 (aa wo) (by kernel_rfl) (by kernel_rfl) (by simp) (ah (ab _)) ?_;simp only[zT]
   iterate 8 (refine cY rfl ?_;simp only[zA])
   iterate 7 (refine kA rfl rfl ?_;simp only[zA])
   (first | refine eH rfl rfl ?_ | (refine cY rfl ?_));simp only[zA]
   refine cY rfl ?_;simp only[zA]
   iterate 7 (refine kA rfl rfl ?_;simp only[zA])
   (first | refine eH rfl rfl ?_ | (refine cY rfl ?_));simp only[zA]
   intro W hW;have HW:=zh hW;cases hb:(((v:Int) != (q:Int))&&decide (mv<0)&&decide (mq<0))
   ·have ng:Hid (m=(es.take (k+1)).foldl cZ (List.replicate n.ends.length (-1))):=by
     show _=_
     rw[qM.out,hb,if_neg (by simp)]
    clear hb hW;go_wp2;go_roundw
    case rel=>exact⟨k+1,m,by omega,by go_num,ng.out,Ho.out.since HW.out,fQ.out.after HW.out⟩
    case measure=>simp[intOf];omega
   ·have ng:Hid ((m.set v (i:Int)).set q (j:Int)=(es.take (k+1)).foldl cZ (List.replicate n.ends.length (-1))):=by
     show _=_
     rw[qM.out,hb,if_pos rfl]
    have tx:=ak (ak e8 kQ.out) (fQ.out.after HW.out);have tz:=ak (ak fh kQ.out) (fQ.out.after HW.out);have tA:=ak (ak fi kQ.out) (fQ.out.after HW.out);have Du:=ak z1 HW.out;have z2':=ak z2 HW.out;have Rv:aa W W:=ab _;obtain⟨W1,rfl⟩:∃z,z=W:=⟨_,rfl⟩
    clear hb hW z0 z1 z2 z3 z4 y1 y2;go_upto_region 8 with(fail);refine bQ (w0:=W1) 9 [false,false,false,false,false,false,false,false,true] (by kernel_rfl) (by kernel_rfl) (Rv) ?_;simp only[df,b8,zT]
    iterate 8 (apply ek rfl;(intro W hW;go_simp;with_reducible rfl);simp only[zA])
    obtain⟨W,bB⟩:∃W,W=World.drew W1:=⟨_,rfl⟩
    rw[<- bB]
    have hW:aa W1 W:=by rw[bB];exact ah (Rv)
    refine Or.inl ⟨rfl,?_⟩
    go_simp
    (with_reducible refine(YY.out _ (HW.out.after (ah (ab _)))).mono ?_)
    rintro e W' ⟨u9,rfl,fg,j5⟩;refine⟨_,rfl,(ah (ab _)).trans j5,?_⟩
    replace hW:=(ah (ab _)).trans j5
    have Bi:=zh (fg.mono (Nat.le_trans YZ.out HW.out.below.size));clear fg j5
    (try simp only[zA])
    simp only[aQ];have zC:=zh hW;clear hW;go_wp2;go_roundw
    case rel=>exact⟨k+1,_,by omega,by go_num,ng.out,Bi.out,fQ.out.after (HW.out.after zC.out)⟩
    case measure=>simp[intOf];omega
  ·have Hr:Hid (jv n=m):=by show _=_;rw[HG.out,Hm.out,show k=es.length by omega,List.take_length]
   obtain rfl:k=es.length:=by omega
   have fQ:=zh (g_.after dz);clear dz g_;go_wp2
   go_ret2
   exact⟨_,rfl,by have h9:=Own.mono Ho.out aY.out.size;rw[F3.out]at h9;rw[Hr.out];exact h9,aa.after aY.out fQ.out⟩
end Go.Proofs.YtgjggeapebbcbaaGreat
