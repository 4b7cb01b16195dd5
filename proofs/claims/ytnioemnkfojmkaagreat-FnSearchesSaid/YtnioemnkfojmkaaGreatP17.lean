/- Parts of the proof: walks of functions and plain laws. -/
import Derived.Test.YtnioemnkfojmkaaGreatP0
import Derived.Test.YtnioemnkfojmkaaGreatP1
import Derived.Test.YtnioemnkfojmkaaGreatP16
import Derived.Test.YtnioemnkfojmkaaGreatP12
import Derived.Test.YtnioemnkfojmkaaGreatP7
import Derived.Test.YtnioemnkfojmkaaGreatP6
set_option maxRecDepth 100000
set_option maxHeartbeats 16000000
namespace Go.Proofs.YtnioemnkfojmkaaGreat
open Go Go.RowKit
theorem xo {n:aw} {R M:Nat} (hn:Gd R M n) {v:Nat} (hv:v<n.ends.length):n.ends[v]?=some (iJ n v)/\(iJ n v).length<=R/\True:=by
 obtain⟨es,ca⟩:=ay n.ends v hv;have e:iJ n v=es:=ak ca;rw[e];exact⟨ca,hn.row v es ca,trivial⟩
theorem nj {n:aw} (hn:Gd 100 100 n) (v:Nat):(fR n v).length<=100*v:=by
 induction v with
 | zero=>simp[fR]
 | succ v ih=>
  rw[rS,List.length_append];have h1:=CK v (iJ n v) (iJ n v).length
  have h2:(iJ n v).length<=100:=by
   unfold iJ;rw[zDd]
   cases h:n.ends[v]? with
   | none=>simp
   | some es=>exact hn.row v es h
  omega
theorem Gw {n:aw} {R M:Nat} (hn:Gd R M n) {e:Ed} (he:e∈la n):∃(a i b j:Nat) (fa fb:List (Int×Int)),e=((a:Int),(i:Int),(b:Int),(j:Int))/\n.ends[a]?=some fa/\i<fa.length/\n.ends[b]?=some fb/\j<fb.length:=by
 obtain⟨v,i,hv,hi,-,rfl⟩:=IF.1 he;obtain⟨r1,-,-⟩:=xo hn hv;obtain⟨x,hx⟩:=ay (iJ n v) i hi;rw[ak hx];obtain⟨b,j,fs,h1,h2,h3⟩:=hn.wf v _ r1 x (List.mem_of_getElem? hx);exact⟨v,i,b,j,iJ n v,fs,by rw[h1],r1,hi,h2,h3⟩
theorem IS (ve vi vn:Value) (n:aw) (v i:Nat) (x1 x2:Int) (w:World) (h:aU w ve vi vn n) (hn:Gd 100 100 n) (hv:v<n.ends.length) (hx:(iJ n v)[i]?=some (x1,x2)):
  Calls Tryz.prog 194 #[.agg #[ve,vi,vn],.int .i64 v,.int .i64 i] w fun e w'=>e=.returned (.bool (CJ v i (x1,x2)))/\Below w.heap.size w w':=by
 have zm:=hn.ends
 obtain⟨w0,A,c,A2,c2,A3,c3,rfl,rfl,rfl,f_,hm,fq,fF,HA,cS,bQ,H,gP,ig,ii⟩:=zB h;clear h
 obtain⟨Fm,nC,Tn⟩:=xo hn hv;obtain⟨es,ca⟩:∃es,es=iJ n v:=⟨_,rfl⟩
 rw[<- ca]at Fm nC hx;have wg:=al hx;obtain⟨b,Sw,cr,ur,nN,hkr,dG,aD⟩:=kd H.out.es Fm;cases nN;have tr:=ab dG;obtain⟨A1,z1,rfl,dP,eO,nN⟩:=aD;unfold maxLen at eO;obtain⟨b1,D5,rfl,yN,kq⟩:=nN i _ hx;have t1:=ab yN;have t2:=ab kq;obtain⟨w1,kT⟩:∃w1,w1=w0.alloc (.cells #[.int .i64 x1,.int .i64 x2] 104):=⟨_,rfl⟩
 have Jo:=zh kT
 have dw:aa w0 w1:=by rw[kT];exact ae _ (ad _)
 have q0:∀W,aa w1 W->W.cell? ⟨w0.heap.size,0,none⟩=some (.int .i64 x1):=ab (by rw[kT];simp)
 have q1:∀W,aa w1 W->W.cell? ⟨w0.heap.size,1,none⟩=some (.int .i64 x2):=ab (by rw[kT];simp)
 have jH:=zh dw;have bu:aa w0 w0:=ad _;have HR:Hid (CJ v i (x1,x2)=(decide ((v:Int)<x1)||(((v:Int)==x1)&&decide ((i:Int)<=x2)))):=rfl
 clear Fm nC Tn ca hx dG yN kq nN hn kT dw
 go_enter Tryz.func194,Tryz.ntmps194
 go_upto_region 1 with(fail);rw[<- cS.out];go_upto_region 2 with(fail);rw[<- Jo.out];clear gP ig ii tr t1 t2 bu;refine bD 17 (aa w1) (ad _) ?_;simp only[zT]
 iterate 5 (refine bF rfl ?_;simp only[zA])
 iterate 5 (refine gT rfl rfl ?_;simp only[zA])
 iterate 4 (apply kO rfl rfl;(intro hb bJ;intro W hW;go_simp;with_reducible rfl);simp only[zA])
 refine sE rfl rfl rfl ?_;simp only[zA]
 (first | refine cd rfl rfl ?_ | (refine bF rfl ?_));simp only[zA]
 refine bF rfl ?_;simp only[zA]
 intro W hW;have HW:=zh hW;clear hW;go_wp2;go_ret;exact⟨congrArg (fun b=>Ending.returned (.bool b)) HR.out.symm,aa.after bQ.out (jH.out.after HW.out)⟩
theorem LD:(Tryz.prog.info? 28).map (fun i=>(i.zero,i.size,i.bytes))=some (some (.slice none 0 0),1,24):=by kernel_rfl
def AC (x:Ed):Obj:=.cells #[.int .i64 x.1,.int .i64 x.2.1,.int .i64 x.2.2.1,.int .i64 x.2.2.2] 3
def xp (b:Nat):Value:=.slice (some ⟨b,0,none⟩) 4 4
def nL (W:World) (base:Nat) (u:Value) (L:List Ed):Prop:=
 ∃bs:List Nat,bs.length=L.length/\W.ownsRow base 28 1 u L.length (bs.map xp)/\∀(k:Nat) (x:Ed) (b:Nat),L[k]?=some x->bs[k]?=some b->base<=b/\W.heap[b]?=some (AC x)/\u.ownBlock≠some b
theorem LF (W:World) (base:Nat):nL W base (.slice none 0 0) []:=⟨[],rfl,World.ownsRow_nil W base _ _,fun k x b hx=>by simp at hx⟩
theorem nL.ac4 {W W':World} {base:Nat} {u:Value} {L:List Ed} (h:nL W base u L) (hk:∀j,base<=j->j<W.heap.size->W'.heap[j]?=W.heap[j]?):nL W' base u L:=by
 obtain⟨bs,h1,h2,h3⟩:=h;refine⟨bs,h1,aQ h2 fun j hj=>hk j (World.ownsRow.lt h2 j (by simpa using hj)).1 (World.ownsRow.lt h2 j (by simpa using hj)).2,fun k x b hx hb=>?_⟩
 obtain⟨q1,q2,q3⟩:=h3 k x b hx hb
 exact⟨q1,by rw[hk b q1 (Array.getElem?_eq_some_iff.1 q2).1];exact q2,q3⟩
theorem nL.ac2 {W W':World} {base:Nat} {u:Value} {L:List Ed} (h:nL W base u L) (hs:aa W W'):nL W' base u L:=h.ac4 fun j _ hj=>hs.below.block j hj
theorem nL.at {W:World} {base:Nat} {u:Value} {L:List Ed} (h:nL W base u L):(∃A c,u=.slice A L.length c/\L.length<=c/\c<=maxLen)/\∀(k:Nat) (x:Ed),L[k]?=some x->∃g c b,u=.slice (some ⟨g,0,none⟩) L.length c/\W.cell? ⟨g,k,none⟩=some (xp b)/\base<=b/\W.cell? ⟨b,0,none⟩=some (.int .i64 x.1)/\W.cell? ⟨b,1,none⟩=some (.int .i64 x.2.1)/\W.cell? ⟨b,2,none⟩=some (.int .i64 x.2.2.1)/\W.cell? ⟨b,3,none⟩=some (.int .i64 x.2.2.2):=by
 obtain⟨bs,h1,h2,h3⟩:=h;have h':=h2;rcases h2.2 with⟨rfl,hn⟩ | ⟨g,cap,cur,rfl,hb,hg,G5,sy,eR,htk⟩
 ·have:L=[]:=List.eq_nil_of_length_eq_zero hn
  subst this;exact⟨⟨none,0,rfl,Nat.le_refl _,Nat.zero_le _⟩,fun k x hk=>by simp at hk⟩
 ·refine⟨⟨_,cap,rfl,G5,sy⟩,fun k x hk=>?_⟩
  have ss:=al hk;obtain⟨b,RP⟩:∃b,bs[k]?=some b:=⟨_,List.getElem?_eq_getElem (by omega)⟩
  obtain⟨q1,q2,q3⟩:=h3 k x b hk RP;refine⟨g,cap,b,rfl,?_,q1,?_⟩
  ·rw[World.ownsRow.cellAt (cap:=cap) h' _ (by omega),List.getElem?_map,RP];rfl
  ·unfold AC at q2;simp[World.cell?,q2]
theorem O2 {w w0:World} {ops:Array Oper} {rest:List Oper} {o:Oper} {a:Act} {Q:Exit->Act->World->Prop} (iz:o.guard=none) (s x:Operand)
  (ho:o.op=.call { callee:=.builtin .append,args:=#[s,x],argTypes:=#[24,24] }) {v:Value} {L:List Ed} (hs:a.eval s=v) (h:nL w w0.heap.size v L) (b r:Nat) (y:Ed)
  (hx:a.eval x=.slice (some ⟨b,0,none⟩) 1 1) (hc:w.cell? ⟨b,0,none⟩=some (xp r)) (hr:w0.heap.size<=r) (ml:w.heap[r]?=some (AC y)) (LG:v.ownBlock≠some r) (hl:L.length+1<=1000000) (pO:aa w0 w)
  (k:∀g cap w',nL w' w0.heap.size (.slice (some ⟨g,0,none⟩) (L.length+1) cap) (L++[y])->aa w0 w'->wpList Tryz.prog ops Q rest (a.put o.dst (.slice (some ⟨g,0,none⟩) (L.length+1) cap)) w'):wpList Tryz.prog ops Q (o::rest) a w:=by
 obtain⟨i0,hi,eu,dP,eO⟩:=info_parts LD;obtain⟨bs,h1,h2,h3⟩:=h
 refine wpList_append_lies w iz s x 24 ho w0.heap.size 28 i0 _ 1 24 Tryz.underlying24 hi eu dP eO rfl (by decide) v L.length (bs.map xp) hs h2 ⟨b,0,none⟩ 1 1 [xp r] hx rfl
  (by intro j u hj;match j,hj with | 0,hj=>(simp at hj;subst hj;simpa[Addr.add]using hc) | j+1,hj=>simp at hj) (by simp[Value.oneCell',xp]) (by omega) (by unfold maxLen;omega) (by omega) pO.below.size w.heap.size rfl ?_
 intro g cap w' q1 q2 q3 q4;refine k g cap w' ⟨bs++[r],by simp[h1],by simpa using q1,fun k x b' hx hb=>?_⟩ (Below.grown pO q2 pO.below.size (fun q hq=>(World.ownsRow.lt h2 q hq).1))
 have nD:r<w.heap.size:=(Array.getElem?_eq_some_iff.1 ml).1
 have xO:g≠r:=fun e=>by
  subst e;rcases q3 with q3 | q3
  ·exact LG q3
  ·omega
 rcases Nat.lt_or_ge k L.length with hk | hk
 ·rw[List.getElem?_append_left hk]at hx;rw[List.getElem?_append_left (by omega)]at hb;obtain⟨p1,p2,p3⟩:=h3 k x b' hx hb;have sS:=(Array.getElem?_eq_some_iff.1 p2).1
  refine⟨p1,by rw[q2.block b' sS (fun e=>p3 e.symm)];exact p2,fun e=>?_⟩
  have e2:g=b':=by simpa[Value.ownBlock]using e
  subst e2;rcases q3 with q3 | q3
  ·exact p3 q3
  ·omega
 ·have pM:k=L.length:=by
   have:=al hx
   simp at this;omega
  subst pM;rw[List.getElem?_append_right (Nat.le_refl _),Nat.sub_self]at hx;rw[<- h1,List.getElem?_append_right (Nat.le_refl _),Nat.sub_self]at hb;simp at hx hb
  subst hx hb
  refine⟨hr,by rw[q2.block r nD (fun e=>LG e.symm)];exact ml,fun e=>xO ?_⟩
  simpa[Value.ownBlock]using e
theorem zx (ve vi vn:Value) (n:aw) (w:World) (h:aU w ve vi vn n) (hn:Gd 100 100 n):
  Calls Tryz.prog 171 #[.agg #[ve,vi,vn]] w fun e w'=>∃u,e=.returned u/\nL w' w.heap.size u (la n)/\Below w.heap.size w w':=by
 have lR:n.ends.length<=100:=hn.ends
 obtain⟨w0,A,c,A2,c2,A3,c3,rfl,rfl,rfl,f_,hm,fq,fF,HA,cS,bQ,H,gP,ig,ii⟩:=zB h;clear h
 have Hn:=zh hn;have HLn:=zh (nj hn);have bu:aa w0 w0:=ad _;clear hn
 go_enter Tryz.func171,Tryz.ntmps171
 go_upto_region 1 with(fail);rw[<- cS.out];go_wp2
 go_loopw [3,11] (fun u i wr=>∃k:Nat,k<=n.ends.length/\i=.int .i64 k/\nL wr w0.heap.size u (fR n k)/\aa w0 wr) (fun _ i _=>n.ends.length-(intOf i).toNat)
 case atStart=>exact⟨0,Nat.zero_le _,rfl,LF _ _,bu⟩
 case round=>
  obtain⟨k,hk,rfl,ho,fd⟩:=hrel;have Ho:=zh ho;clear ho bu
  by_cases aH:k<n.ends.length
  ·obtain⟨Fm,nC,Tn⟩:=xo Hn.out aH;obtain⟨es,ca⟩:∃es,es=iJ n k:=⟨_,rfl⟩
   have nO:=zh ca;rw[<- ca]at Fm nC;obtain⟨b,Sw,cr,ur,nN,hkr,dG,aD⟩:=kd H.out.es Fm;cases nN;have d0:=fd.cell dG;obtain⟨A1,z1,rfl,dP,eO,nN⟩:=aD;unfold maxLen at eO;have NF:=zh nN;have m3:IntKind.i64.wrap ((k:Int)+1)=(k:Int)+1:=aE _ (by omega) (by omega);clear Fm Tn ca dG nN;go_wp2
   go_loopw [3,18] (fun u i wr=>∃j:Nat,j<=es.length/\i=.int .i64 j/\nL wr w0.heap.size u (fR n k++qL k es j)/\aa w0 wr) (fun _ i _=>es.length-(intOf i).toNat)
   case atStart=>exact⟨0,Nat.zero_le _,rfl,by simpa[qL]using Ho.out,fd⟩
   case round=>
    obtain⟨j,hj,rfl,ho,C_⟩:=hrel;have nW:=zh ho;clear ho fd d0
    by_cases eD:j<es.length
    ·obtain⟨⟨x1,x2⟩,hx⟩:=ay es j eD;obtain⟨b1,D5,rfl,yN,kq⟩:=NF.out j _ hx;have t1:=C_.cell yN;have t2:=C_.cell kq;simp only at t1 t2
     have m4:IntKind.i64.wrap ((j:Int)+1)=(j:Int)+1:=aE _ (by omega) (by omega);obtain⟨LL,sc⟩:∃LL,LL=fR n k++qL k es j:=⟨_,rfl⟩
     have To:LL.length<=100000:=by
      rw[sc,List.length_append];have h1:=HLn.out k;have h2:=CK k es j;omega
     rw[<- sc]at nW
     have zQ:Hid (fR n k++qL k es (j+1)=LL++An k j (x1,x2)):=by show _=_;rw[zn,ak hx,sc,List.append_assoc]
     obtain⟨w5,yr⟩:∃w5,w5=wr.alloc (.cells #[.int .i64 x1,.int .i64 x2] 104):=⟨_,rfl⟩
     have AD:aa wr w5:=by rw[yr];exact ae _ (ad _)
     have z0:∀W,aa w5 W->W.cell? ⟨wr.heap.size,0,none⟩=some (.int .i64 x1):=ab (by rw[yr];simp)
     have P_:∀W,aa w5 W->W.cell? ⟨wr.heap.size,1,none⟩=some (.int .i64 x2):=ab (by rw[yr];simp)
     have Tp:=C_.after AD;obtain⟨zb,NC⟩:∃zb,zb=CJ k j (x1,x2):=⟨_,rfl⟩
     have kU:=IS _ _ _ n k j x1 x2 w5 (H.out.ac2 Tp.below) Hn.out aH (by rw[<- nO.out];exact hx)
     rw[<- NC]at kU;have Ke:=zh kU;have Hzb:=zh NC;have Vh:=zh yr;have uA:=zh (nW.out.ac2 AD);clear hx yN kq sc kU NC yr AD;go_upto_region 8 with(fail);rw[<- Vh.out];clear C_ t1 t2;go_wp2_with fail;refine Ke.out.mono ?_;rintro e w6 ⟨rfl,th⟩;have O3:aa w5 w6:=th;have ut:aa w0 w6:=Tp.trans th;have Gt:=zh (uA.out.ac2 O3);have y0:=aj z0 O3;have y1:=aj P_ O3;have h66:aa w6 w6:=ad _;clear th Tp z0 P_ O3;cases zb
     ·have rN:Hid (fR n k++qL k es (j+1)=LL):=by show _=_;rw[zQ.out];unfold An;rw[<- Hzb.out];simp
      clear y0 y1 h66;go_wp2;go_roundw
      case rel=>exact⟨j+1,by omega,by go_num,by rw[rN.out];exact Gt.out,ut⟩
      case measure=>simp[intOf];omega
     ·have rN:Hid (fR n k++qL k es (j+1)=LL++[((k:Int),(j:Int),x1,x2)]):=by show _=_;rw[zQ.out];unfold An;rw[<- Hzb.out,if_pos rfl]
      obtain⟨w8,r_⟩:∃w8,w8=(w6.alloc (AC ((k:Int),(j:Int),x1,x2))).alloc (.cells #[xp w6.heap.size] 28):=⟨_,rfl⟩
      have lG:aa w0 w8:=by rw[r_];exact ae _ (ae _ ut)
      have uy:Hid (nL w8 w0.heap.size u3 LL):=by show nL _ _ _ _;rw[r_];exact Gt.out.ac2 (ae _ (ae _ (ad _)))
      have c8:w8.cell? ⟨w6.heap.size+1,0,none⟩=some (xp w6.heap.size):=by rw[r_];simp
      have r8:w8.heap[w6.heap.size]?=some (AC ((k:Int),(j:Int),x1,x2)):=by
       have h1:(w6.alloc (AC ((k:Int),(j:Int),x1,x2))).heap[w6.heap.size]?=some (AC ((k:Int),(j:Int),x1,x2)):=heap_alloc_new w6 _
       have h2:aa (w6.alloc (AC ((k:Int),(j:Int),x1,x2))) w8:=by rw[r_];exact ae _ (ad _)
       rw[h2.below.block _ (Array.getElem?_eq_some_iff.1 h1).1];exact h1
      have n8:u3.ownBlock≠some w6.heap.size:=fun e=>by
       obtain⟨bs,_,q,_⟩:=Gt.out
       have:=(World.ownsRow.lt q _ e).2
       omega
      have vd:=zh (And.intro c8 (And.intro r8 n8));have kD:=zh lG;have g6:w0.heap.size<=w6.heap.size:=(aa.below ut).size;have hl8:LL.length+1<=1000000:=by omega
      have Ti:=zh r_
      unfold AC xp at r_
      clear lG c8 r8 n8
      go_wp2_with (at_builtin;rw[<- r_];refine O2 rfl _ _ rfl rfl uy.out (w6.heap.size+1) w6.heap.size ((k:Int),(j:Int),x1,x2) rfl vd.out.1 g6 vd.out.2.1 vd.out.2.2 hl8 kD.out ?_;intro g9 E6 w9 fV OZ)
      have xl:=zh fV;have IQ:=zh OZ;clear fV OZ ut y0 y1 h66 r_;go_wp2;go_roundw
      case rel=>exact⟨j+1,by omega,by go_num,by rw[rN.out];exact xl.out,IQ.out⟩
      case measure=>simp[intOf];omega
    ·have zQ:Hid (fR n (k+1)=fR n k++qL k es j):=by show _=_;rw[rS,<- nO.out,show j=es.length by omega]
     have hje:j=es.length:=by omega
     clear eD;subst hje;go_wp2;go_roundw
     case rel=>exact⟨k+1,by omega,by go_num,by rw[zQ.out];exact nW.out,C_⟩
     case measure=>simp[intOf];omega
  ·obtain rfl:k=n.ends.length:=by omega
   go_wp2;go_ret
   exact⟨_,rfl,by obtain⟨bs,q1,q2,q3⟩:=Ho.out;exact⟨bs,q1,fO q2 bQ.out.size,fun k x b hx hb=>⟨Nat.le_trans bQ.out.size (q3 k x b hx hb).1,(q3 k x b hx hb).2⟩⟩,aa.after bQ.out fd⟩
structure acv (B:Nat) (W:World) (u v:Value) (xs ys:List Int):Prop where
 a:Own W B u xs
 b:Own W B v ys
 ne:∀j,u.ownBlock=some j->v.ownBlock≠some j
structure ace (B:Nat) (W:World) (u v:Value) (xs ys:List (List Int)):Prop where
 ex:∃S T,bz W B u xs S/\bz W B v ys T/\∀j∈S,j∉T
def cy (W:World) (B:Nat) (T:Nat->Prop) (v:Value) (l:List (List Int)):Prop:=
 ∃vs:List Value,W.ownsRow B 28 1 v l.length vs/\vs.length=l.length/\(∀j,v.ownBlock=some j->T j)/\∀(k:Nat) (u:Value) (x:List Int),vs[k]?=some u->l[k]?=some x->Own W B u x/\∀j,u.ownBlock=some j->v.ownBlock≠some j/\T j
theorem kH (W:World) (B:Nat) (T:Nat->Prop):cy W B T (.slice none 0 0) []:=⟨[],World.ownsRow_nil W B _ _,rfl,fun j h=>by simp[Value.ownBlock]at h,fun k u x h=>by simp at h⟩
theorem cy.since {W W':World} {B:Nat} {T:Nat->Prop} {v:Value} {l:List (List Int)} (h:cy W B T v l) (hs:aa W W'):cy W' B T v l:=by
 obtain⟨vs,h1,h2,h4,h3⟩:=h;exact⟨vs,aQ h1 fun j hj=>hs.below.block j (World.ownsRow.lt h1 j (by simpa using hj)).2,h2,h4,fun k u x hu hx=>⟨(h3 k u x hu hx).1.since hs,(h3 k u x hu hx).2⟩⟩
theorem cy.ac2 {W W':World} {B:Nat} {T:Nat->Prop} {v:Value} {l:List (List Int)} (h:cy W B T v l) (hs:Below W.heap.size W W'):cy W' B T v l:=h.since hs
theorem cy.mono {W:World} {B B':Nat} {T T':Nat->Prop} {v:Value} {l:List (List Int)} (h:cy W B T v l) (hb:B'<=B) (hT:∀j,T j->T' j):cy W B' T' v l:=by
 obtain⟨vs,h1,h2,h4,h3⟩:=h;exact⟨vs,fO h1 hb,h2,fun j hj=>hT j (h4 j hj),fun k u x hu hx=>⟨Own.mono (h3 k u x hu hx).1 hb,fun j hj=>⟨((h3 k u x hu hx).2 j hj).1,hT j ((h3 k u x hu hx).2 j hj).2⟩⟩⟩
theorem cy.ac4 {W W':World} {B:Nat} {T:Nat->Prop} {v:Value} {l:List (List Int)} (h:cy W B T v l) (hk:∀j,T j->B<=j->j<W.heap.size->W'.heap[j]?=W.heap[j]?):cy W' B T v l:=by
 obtain⟨vs,h1,h2,h4,h3⟩:=h;refine⟨vs,aQ h1 fun j hj=>?_,h2,h4,fun k u x hu hx=>⟨?_,(h3 k u x hu hx).2⟩⟩
 ·have mc:v.ownBlock=some j:=by simpa using hj
  obtain⟨a,b⟩:=World.ownsRow.lt h1 j mc;exact hk j (h4 j mc) a b
 ·have h5:=(h3 k u x hu hx).1
  exact aQ h5 fun j hj=>by
   have mc:u.ownBlock=some j:=by simpa using hj
   obtain⟨a,b⟩:=World.ownsRow.lt h5 j mc;exact hk j ((h3 k u x hu hx).2 j mc).2 a b
theorem cy.bound {W:World} {B:Nat} {T:Nat->Prop} {v:Value} {l:List (List Int)} (h:cy W B T v l):cy W B (fun j=>T j/\B<=j/\j<W.heap.size) v l:=by
 obtain⟨vs,h1,h2,h4,h3⟩:=h;exact⟨vs,h1,h2,fun j hj=>⟨h4 j hj,World.ownsRow.lt h1 j hj⟩,fun k u x hu hx=>⟨(h3 k u x hu hx).1,fun j hj=>⟨((h3 k u x hu hx).2 j hj).1,((h3 k u x hu hx).2 j hj).2,World.ownsRow.lt (h3 k u x hu hx).1 j hj⟩⟩⟩
theorem cy.form {W:World} {B:Nat} {T:Nat->Prop} {v:Value} {l:List (List Int)} (h:cy W B T v l):∃A c,v=.slice A l.length c/\l.length<=c/\c<=maxLen:=by
 obtain⟨vs,h1,h2,h4,h3⟩:=h;rcases dh h1 with⟨rfl,h0⟩ | ⟨g,c,rfl,hb,hg,hc,hm⟩
 ·exact⟨none,0,by rw[h0],by omega,Nat.zero_le _⟩
 ·exact⟨_,c,rfl,hc,hm⟩
theorem cy.read {W:World} {B:Nat} {T:Nat->Prop} {v:Value} {l:List (List Int)} (h:cy W B T v l):a_ W v l:=by
 obtain⟨vs,h1,h2,h4,h3⟩:=h;rcases dh h1 with⟨rfl,h0⟩ | ⟨g,c,rfl,hb,hg,hc,hm⟩
 ·obtain rfl:l=[]:=List.eq_nil_of_length_eq_zero h0
  exact⟨none,0,rfl,Nat.le_refl _,Nat.zero_le _,fun k x hk=>by simp at hk⟩
 ·refine⟨_,c,rfl,hc,hm,fun k x hk=>?_⟩
  have aH:=al hk;obtain⟨u,hu⟩:=ay vs k (by omega)
  exact⟨g,0,u,rfl,by rw[Nat.zero_add,h1.cellAt (cap:=c) _ (by omega)];exact hu,(h3 k u x hu hk).1.ints⟩
theorem cy.lt {W:World} {B:Nat} {T:Nat->Prop} {v:Value} {l:List (List Int)} (h:cy W B T v l) {j:Nat} (hj:v.ownBlock=some j):B<=j/\j<W.heap.size:=by
 obtain⟨vs,h1,-⟩:=h;exact World.ownsRow.lt h1 j hj
def tX (W:World) (B:Nat) (T:Nat->Prop) (v u:Value) (y:List Int):Prop:=Own W B u y/\∀j,u.ownBlock=some j->v.ownBlock≠some j/\T j
theorem zy {w:World} {ops:Array Oper} {rest:List Oper} {o:Oper} {a:Act} {Q:Exit->Act->World->Prop} (iz:o.guard=none) (s x:Operand)
  (ho:o.op=.call { callee:=.builtin .append,args:=#[s,x],argTypes:=#[24,24] }) {B:Nat} {T:Nat->Prop} {v:Value} {l:List (List Int)} (hs:a.eval s=v) (h:cy w B T v l)
  (b off c:Nat) (us:List Value) (ys:List (List Int)) (hx:a.eval x=.slice (some ⟨b,off,none⟩) ys.length c) (Bw:us.length=ys.length) (hc:∀k u,us[k]?=some u->w.cell? ⟨b,off+k,none⟩=some u)
  (hr:∀(k:Nat) (u:Value) (y:List Int),us[k]?=some u->ys[k]?=some y->tX w B T v u y) (hy:0<ys.length) (hl:l.length+ys.length<=1000000) (uN:B<=w.heap.size) (hT:∀j,w.heap.size<=j->T j)
  (k:∀g cap w',cy w' B T (.slice (some ⟨g,0,none⟩) (l.length+ys.length) cap) (l++ys)->w.grownBy w' v.ownBlock->(v.ownBlock=some g\/g=w.heap.size)->Below B w w'->wpList Tryz.prog ops Q rest (a.put o.dst (.slice (some ⟨g,0,none⟩) (l.length+ys.length) cap)) w'):wpList Tryz.prog ops Q (o::rest) a w:=by
 obtain⟨i0,hi,eu,dP,eO⟩:=info_parts z6;obtain⟨vs,r1,r2,r4,r3⟩:=h
 refine wpList_append_lies w iz s x 24 ho B 28 i0 _ 1 24 Tryz.underlying24 hi eu dP eO rfl (by decide) v l.length vs hs r1 ⟨b,off,none⟩ ys.length c us hx (by omega)
  (by intro j u hj;rw[Go.Addr.add_lit];exact hc j u hj) (by
   intro u hu;obtain⟨k,hk⟩:=List.getElem?_of_mem hu
   obtain⟨y,Vx⟩:=ay ys k (by have:=al hk;omega)
   obtain⟨A,c',e,-⟩:=(hr k u y hk Vx).1.ints
   rw[e];rfl) (by omega) (by unfold maxLen;omega) (by omega) uN w.heap.size rfl ?_
 intro g cap w' q1 q2 q3 q4
 have ct:∀(u:Value) (y:List Int),tX w B T v u y->tX w' B T (Value.slice (some ⟨g,0,none⟩) (l.length+ys.length) cap) u y:=fun u y ⟨h1,h2⟩=>by
  refine⟨aQ h1 fun j hj=>?_,fun j hj=>⟨fun e=>?_,(h2 j hj).2⟩⟩
  ·have mc:u.ownBlock=some j:=by simpa using hj
   exact q2.block j (World.ownsRow.lt h1 j mc).2 (fun e=>(h2 j mc).1 e.symm)
  ·have e2:g=j:=by simpa[Value.ownBlock]using e
   subst e2;rcases q3 with q3 | q3
   ·exact(h2 g hj).1 q3
   ·have:=(World.ownsRow.lt h1 g hj).2;omega
 refine k g cap w' ⟨vs++us,by simpa using q1,by simp[r2,Bw],fun j hj=>?_,fun k u y hu Vx=>?_⟩ q2 q3 (Below.grown (Below.refl B w |>.mono (Nat.le_refl _)) q2 uN (fun q hq=>(World.ownsRow.lt r1 q hq).1))
 ·have e2:g=j:=by simpa[Value.ownBlock]using hj
  subst e2;rcases q3 with q3 | q3
  ·exact r4 g q3
  ·exact hT g (by omega)
 rcases Nat.lt_or_ge k vs.length with hk | hk
 ·rw[List.getElem?_append_left hk]at hu;rw[List.getElem?_append_left (by omega)]at Vx;exact ct u y (r3 k u y hu Vx)
 ·rw[List.getElem?_append_right hk]at hu;rw[List.getElem?_append_right (by omega),<- r2]at Vx;exact ct u y (hr _ u y hu Vx)
theorem pD {w:World} {ops:Array Oper} {rest:List Oper} {o:Oper} {a:Act} {Q:Exit->Act->World->Prop} (iz:o.guard=none) (s x:Operand)
  (ho:o.op=.call { callee:=.builtin .append,args:=#[s,x],argTypes:=#[24,24] }) {B:Nat} {T:Nat->Prop} {v:Value} {l:List (List Int)} (hs:a.eval s=v) (h:cy w B T v l)
  (b:Nat) (u:Value) (y:List Int) (hx:a.eval x=.slice (some ⟨b,0,none⟩) 1 1) (hc:w.cell? ⟨b,0,none⟩=some u) (hu:tX w B T v u y) (hl:l.length+1<=1000000) (uN:B<=w.heap.size) (hT:∀j,w.heap.size<=j->T j)
  (k:∀g cap w',cy w' B T (.slice (some ⟨g,0,none⟩) (l.length+1) cap) (l++[y])->w.grownBy w' v.ownBlock->(v.ownBlock=some g\/g=w.heap.size)->Below B w w'->wpList Tryz.prog ops Q rest (a.put o.dst (.slice (some ⟨g,0,none⟩) (l.length+1) cap)) w'):wpList Tryz.prog ops Q (o::rest) a w:=
 zy iz s x ho hs h b 0 1 [u] [y] hx rfl (fun k u' hk=>by
  match k,hk with
  | 0,hk=>simp at hk;subst hk;exact hc
  | k+1,hk=>simp at hk) (fun k u' y' hk hy=>by
  match k,hk with
  | 0,hk=>simp at hk hy;subst hk;subst hy;exact hu
  | k+1,hk=>simp at hk) (by simp) (by simpa using hl) uN hT k
theorem pE {w:World} {ops:Array Oper} {rest:List Oper} {o:Oper} {a:Act} {Q:Exit->Act->World->Prop} (iz:o.guard=none) (s x:Operand)
  (ho:o.op=.call { callee:=.builtin .append,args:=#[s,x],argTypes:=#[24,24] }) {B:Nat} {T:Nat->Prop} {v:Value} {l:List (List Int)} (hs:a.eval s=v) (h:cy w B T v l) (A:Option Addr) (c:Nat) (hx:a.eval x=.slice A 0 c)
  (k:wpList Tryz.prog ops Q rest (a.put o.dst v) w):wpList Tryz.prog ops Q (o::rest) a w:=by
 obtain⟨i0,hi,eu,dP,eO⟩:=info_parts z6;obtain⟨vs,h,-,-⟩:=h;refine wpList_plain iz fun K hK=>?_
 have dO:(Builtin.append_ #[24,24] o.type #[v,.slice A 0 c]).run Tryz.prog w=.ok v w:=by
  rcases h.2 with⟨rfl,qz⟩ | ⟨g,cap,cur,rfl,_,_,G5,_⟩
  ·cases A <;> simp[Builtin.append_,run_underlying Tryz.underlying24,sizeOf,typeInfo,hi,Builtin.lenOf,Builtin.firstCells,loadCells,loadCellsFrom,Result.andThen]
  ·cases A <;> simp[Builtin.append_,run_underlying Tryz.underlying24,sizeOf,typeInfo,hi,Builtin.lenOf,Builtin.firstCells,G5,storeCells,loadCells,loadCellsFrom,Result.andThen]
 unfold Oper.wp;simp[execOp,ho,resolve,invoke,builtin,hs,hx,dO,Result.andThen]
 exact hK _ _ k
theorem pF {w:World} {ops:Array Oper} {rest:List Oper} {o:Oper} {a:Act} {Q:Exit->Act->World->Prop} (iz:o.guard=none) (s x:Operand)
  (ho:o.op=.call { callee:=.builtin .append,args:=#[s,x],argTypes:=#[24,24] }) {B M:Nat} {T:Nat->Prop} {v:Value} {l:List (List Int)} (hs:a.eval s=v) (h:cy w B T v l) (hv:∀j,v.ownBlock=some j->M<=j)
  {g c0:Nat} {l0:List (List Int)} {w0:World} (hM:M=w0.heap.size) (h0:cy w0 B T (.slice (some ⟨g,0,none⟩) l0.length c0) l0) (bu:Below M w0 w) (p q c:Nat) (hpq:p<=q) (hq:q<=l0.length) (hx:a.eval x=.slice (some ⟨g,p,none⟩) (q-p) c) (hl:l.length+(q-p)<=1000000) (hB:B<=M) (hT:∀j,M<=j->T j)
  (k:∀v' w',cy w' B T v' (l++(l0.take q).drop p)->(∀j,v'.ownBlock=some j->M<=j)->Below M w w'->wpList Tryz.prog ops Q rest (a.put o.dst v') w'):wpList Tryz.prog ops Q (o::rest) a w:=by
 have dQ:((l0.take q).drop p).length=q-p:=by simp;omega
 have eR:M<=w.heap.size:=by rw[hM]at bu ⊢;exact bu.size
 rcases Nat.eq_zero_or_pos (q-p)with hz | hz
 ·rw[hz]at hx;refine pE iz s x ho hs h _ c hx ?_;have he:(l0.take q).drop p=[]:=List.eq_nil_of_length_eq_zero (by omega)
  have hk:=k v w (by rw[he,List.append_nil];exact h) hv (Below.refl _ _)
  exact hk
 ·have h1:cy w B T (.slice (some ⟨g,0,none⟩) l0.length c0) l0:=h0.since (by rw[hM]at bu;exact bu)
  have hgM:g<M:=by
   obtain⟨vs,r1,-⟩:=h0
   have:=(World.ownsRow.lt r1 g (by simp[Value.ownBlock])).2
   omega
  obtain⟨vs,r1,r2,r4,r3⟩:=h1
  have fJ:∀k u,vs[k]?=some u->w.cell? ⟨g,0+k,none⟩=some u:=fun k u hu=>by
   rw[Nat.zero_add,r1.cellAt (cap:=c0) _ (by have:=al hu;omega)];exact hu
  have nA:∀k,k<q-p->((vs.take q).drop p)[k]?=vs[p+k]?:=fun k hk=>by
   rw[List.getElem?_drop,List.getElem?_take,if_pos (by omega)]
  have Gx:∀k,k<q-p->((l0.take q).drop p)[k]?=l0[p+k]?:=fun k hk=>by
   rw[List.getElem?_drop,List.getElem?_take,if_pos (by omega)]
  have tz:((vs.take q).drop p).length=q-p:=by simp;omega
  refine zy iz s x ho hs h g p c ((vs.take q).drop p) ((l0.take q).drop p) (by rw[dQ];exact hx) (by rw[dQ,tz]) (fun k u hu=>?_) (fun k u y hu hy=>?_) (by omega) (by omega) (by omega) (fun j hj=>hT j (by omega)) ?_
  ·rw[nA k (by have:=al hu;omega)]at hu
   have:=fJ _ _ hu
   rw[Nat.zero_add]at this;exact this
  ·have hk:k<q-p:=by have:=al hu;omega
   rw[nA k hk]at hu;rw[Gx k hk]at hy;obtain⟨a1,a2⟩:=r3 _ u y hu hy;refine⟨a1,fun j hj=>⟨fun e=>?_,(a2 j hj).2⟩⟩
   have e1:=hv j e;have e2:=h0;obtain⟨vs0,s1,s2,s4,s3⟩:=e2
   obtain⟨u0,DG⟩:=ay vs0 (p+k) (by have:=al hy;omega)
   have e3:=(World.ownsRow.lt (s3 _ u0 y DG hy).1 j (by
    have c1:w0.cell? ⟨g,0+(p+k),none⟩=some u0:=by rw[Nat.zero_add,s1.cellAt (cap:=c0) _ (by have:=al DG;omega)];exact DG
    have c2:=bc (show Below w0.heap.size w0 w by rw[hM]at bu;exact bu) c1
    rw[fJ _ _ hu]at c2;cases c2
    exact hj)).2
   omega
  ·intro g' cap w' q1 q2 q3 q4;have hb:Below M w w':=Below.grown ((Below.refl M w)) q2 eR (fun j hj=>hv j hj)
   refine k _ w' q1 (fun j hj=>?_) hb
   have e2:g'=j:=by simpa[Value.ownBlock]using hj
   subst e2;rcases q3 with q3 | q3
   ·exact hv g' q3
   ·omega
def AF (l:List (List Int)) (x:List Int):Nat:=(l.takeWhile fun y=>decide (ed y x<0)).length
def qU (l:List (List Int)) (x:List Int):List (List Int):=if l[AF l x]?=some x then l else l.take (AF l x)++[x]++l.drop (AF l x)
theorem Gy {l:List (List Int)} {x:List Int} {k:Nat} (hk:k<=l.length) (h1:∀(q:Nat) (y:List Int),q<k->l[q]?=some y->ed y x<0) (h2:∀y,l[k]?=some y->¬ed y x<0):AF l x=k:=by
 unfold AF
 induction l generalizing k with
 | nil=>simp at hk;subst hk;rfl
 | cons y l ih=>
  cases k with
  | zero=>
   have:=h2 y rfl
   simp[List.takeWhile,this]
  | succ k=>
   have h3:=h1 0 y (by omega) rfl;have h4:=ih (k:=k) (by simpa using hk) (fun q z hq hz=>h1 (q+1) z (by omega) hz) (fun z hz=>h2 z hz)
   simp[List.takeWhile,h3,h4]
theorem Da {l:List (List Int)} {x y:List Int} (h:y∈qU l x):y∈l\/y=x:=by
 unfold qU at h
 split at h
 ·exact .inl h
 ·simp only[List.mem_append,List.mem_singleton]at h;rcases h with(h | h) | h
  ·exact .inl (List.mem_of_mem_take h)
  ·exact .inr h
  ·exact .inl (List.mem_of_mem_drop h)
theorem O4 (l:List (List Int)) (x:List Int):AF l x<=l.length:=(List.takeWhile_prefix _).length_le
theorem Db (l:List (List Int)) (x:List Int):(qU l x).length<=l.length+1:=by
 unfold qU
 split
 ·omega
 ·have:=O4 l x
  simp;omega
theorem LH (x:List Int):qU [] x=[x]:=by simp[qU,AF]
theorem IT {W:World} {B:Nat} {T:Nat->Prop} {v:Value} {l:List (List Int)} (h:cy W B T v l):(v=.slice none 0 0/\l=[])\/∃g c,v=.slice (some ⟨g,0,none⟩) l.length c/\B<=g/\g<W.heap.size/\l.length<=c/\c<=maxLen:=by
 obtain⟨vs,h1,h2,h4,h3⟩:=h;rcases dh h1 with⟨rfl,h0⟩ | ⟨g,c,rfl,hb,hg,hc,hm⟩
 ·exact .inl ⟨rfl,List.eq_nil_of_length_eq_zero h0⟩
 ·exact .inr ⟨g,c,rfl,hb,hg,hc,hm⟩
theorem xq (W:World) (B:Nat) (T:Nat->Prop) (hB:B<=W.heap.size) (hT:T W.heap.size):cy (W.alloc (Obj.cells #[] 28)) B T (.slice (some ⟨W.heap.size,0,none⟩) 0 0) []:=by
 have:=World.ownsRow_lit (base:=W.heap.size) (e:=28) (size:=1) W #[] 0 (Nat.le_refl _) (Nat.zero_le _) (by simp)
 exact⟨[],fO (by simpa using this) hB,rfl,fun j hj=>by simp[Value.ownBlock]at hj;exact hj ▸ hT,fun k u x h=>by simp at h⟩
theorem Dc {W:World} {B:Nat} {T:Nat->Prop} {v:Value} {l:List (List Int)} {n:Nat} (h:cy W B T v l) (hn:l.length=n):∃A c,v=.slice A n c:=by
 obtain⟨A,c,e,-⟩:=h.form;exact⟨A,c,hn ▸ e⟩
theorem xr {w:World} {ops:Array Oper} {rest:List Oper} {o:Oper} {a:Act} {Q:Exit->Act->World->Prop} (iz:o.guard=none) (s x:Operand)
  (ho:o.op=.call { callee:=.builtin .append,args:=#[s,x],argTypes:=#[24,24] }) {B:Nat} {T:Nat->Prop} {v:Value} {l:List (List Int)} (hs:a.eval s=v) (h:cy w B T v l)
  (b:Nat) (u:Value) (y:List Int) (hx:a.eval x=.slice (some ⟨b,0,none⟩) 1 1) (hc:w.cell? ⟨b,0,none⟩=some u) (hu:tX w B T v u y) (n:Nat) (hn:l.length=n) (hl:n+1<=1000000) (uN:B<=w.heap.size) (hT:∀j,w.heap.size<=j->T j)
  (k:∀g cap w',cy w' B T (.slice (some ⟨g,0,none⟩) (n+1) cap) (l++[y])->w.grownBy w' v.ownBlock->(v.ownBlock=some g\/g=w.heap.size)->Below B w w'->wpList Tryz.prog ops Q rest (a.put o.dst (.slice (some ⟨g,0,none⟩) (n+1) cap)) w'):wpList Tryz.prog ops Q (o::rest) a w:=by
 subst hn;exact pD iz s x ho hs h b u y hx hc hu hl uN hT k
theorem LI {M g n c:Nat} {v:Value} {w:World} (hv:∀j,v.ownBlock=some j->M<=j) (h:v.ownBlock=some g\/g=w.heap.size) (hw:M<=w.heap.size):∀j,(Value.slice (some ⟨g,0,none⟩) n c).ownBlock=some j->M<=j:=fun j hj=>by
 simp[Value.ownBlock]at hj
 subst hj;rcases h with h | h
 ·exact hv g h
 ·omega
def LJ (w:World) (B:Nat) (T:Nat->Prop) (l:List (List Int)) (x:List Int) (e:Ending) (w':World):Prop:=∃r,e=.returned r/\cy w' B T r (qU l x)/\Below w.heap.size w w'
theorem sd (v u:Value) (l:List (List Int)) (x:List Int) (B:Nat) (T:Nat->Prop) (w:World) (h:cy w B T v l) (h':Own w B u x) (hl:l.length<=1000) (hB:B<=w.heap.size) (hT:∀j,w.heap.size<=j->T j) (hu:∀j,u.ownBlock=some j->T j)
  (hx:∀z∈x,-1000<=z/\z<=1000) (hy:∀y∈l,y.length=x.length/\∀z∈y,-1000<=z/\z<=1000):
  Calls Tryz.prog 120 #[v,u] w fun e w'=>LJ w B T l x e w':=by
 have H:=zh h;have HR:=zh h.read;have HU:=zh h';have HT:=zh h'.ints;have HX:=zh hx;have HY:=zh hy;have Gz:=zh hT;have HB:=zh hB;have Hu:=zh hu;have Vs:=h'.ints;have hff:=IT h;clear h h' hx hy hT hB hu;obtain⟨AT,cT,rfl,-⟩:=Vs;rcases hff with⟨rfl,rfl⟩ | ⟨g,c,rfl,FV,Ec,f_,hm⟩
 ·clear HR
  go_enter Tryz.func120,Tryz.ntmps120
  go_wp2
  go_loopw [5] (fun i wr=>i=.int .i64 0/\wr=w) (fun _ _=>0)
  case atStart=>exact⟨rfl,rfl⟩
  case round=>
   obtain⟨rfl,rfl⟩:=hrel;have HE:=zh (xq wr B T HB.out (Gz.out _ (Nat.le_refl _)))
   have Vy:Hid (∀j,(Value.slice (some ⟨wr.heap.size,0,none⟩) 0 0).ownBlock=some j->wr.heap.size<=j):=fun j hj=>by simp[Value.ownBlock]at hj;exact hj ▸ Nat.le_refl _
   have Vz:=zh (ao wr (Obj.cells #[] 28))
   have Yc:Hid (∀W v',aa wr W->(∀j,Value.ownBlock v'=some j->wr.heap.size<=j)->tX W B T v' (.slice AT x.length cT) x):=fun W v' h1 h2=>⟨HU.out.since h1,fun j hj=>⟨fun e=>by have:=h2 j e;have:=(World.ownsRow.lt HU.out j hj).2;omega,Hu.out j hj⟩⟩
   go_wp2_with (at_builtin;first | (refine pE rfl _ _ rfl rfl HE.out none 0 rfl ?_) | (refine pD (w:=(wr.alloc (Obj.cells #[] 28)).alloc (Obj.cells #[Value.slice AT x.length cT] 28)) rfl _ _ rfl rfl (HE.out.since (ae _ (ad _))) (wr.heap.size+1) _ x rfl (by simp[go_sem]) (Yc.out _ _ (ae _ (ae _ (ad _))) Vy.out) (by simp) (Nat.le_trans HB.out (ae _ (ae _ (ad wr))).size) (fun j hj=>Gz.out j (Nat.le_trans (ae _ (ae _ (ad wr))).size hj)) ?_;intro g3 c3 w3 LG nB Qh aG;have QS:=zh LG;have xV:=zh (Below.trans (ae _ (ae _ (ad wr))) (Below.grown (Below.refl _ _) nB (ae _ (ae _ (ad wr))).size Vy.out));clear LG nB Qh aG) | (refine pE rfl _ _ rfl rfl QS.out none 0 rfl ?_))
   go_ret
   exact⟨_,rfl,by rw[LH];exact QS.out,xV.out⟩
 ·unfold maxLen at hm
  go_enter Tryz.func120,Tryz.ntmps120
  go_wp2
  go_loopw [5] (fun i wr=>∃k:Nat,k<=l.length/\i=.int .i64 k/\(∀(q:Nat) (y:List Int),q<k->l[q]?=some y->ed y x<0)/\Below w.heap.size w wr) (fun i _=>l.length-(intOf i).toNat)
  case atStart=>exact⟨0,Nat.zero_le _,rfl,fun q x h=>by omega,Below.refl _ _⟩
  case round=>
   obtain⟨k,hk,rfl,bH,hb⟩:=hrel;have eV:=zh bH;have Hb:=zh hb;clear bH hb
   by_cases aH:k<l.length
   ·obtain⟨y,b,off,A1,z,VA,hA,dG,dP,eO,Nb⟩:=dT HR.out aH;cases hA
    replace dG:=bc Hb.out dG
    rw[Nat.zero_add]at dG;have Hyk:=zh VA;have U5:=zh (Nb.ac2 Hb.out);have Hyo:=zh (HY.out y (List.mem_of_getElem? VA));obtain⟨cv,Cd⟩:∃cv,ed y x=cv:=⟨_,rfl⟩
    have vM:=zh Cd;clear VA Nb Cd;have Tq:=zh (od _ _ y x wr U5.out (HT.out.ac2 Hb.out) Hyo.out.1 Hyo.out.2 HX.out)
    by_cases lO:cv<0
    ·go_upto_region 3 with(go_at_call 148;refine(Tq.out).mono ?_;rw[vM.out];rintro e w1 ⟨rfl,rfl⟩)
     go_wp2;go_roundw
     case rel=>
      refine⟨k+1,by omega,by go_num,fun q y2 h1 h2=>?_,Hb.out⟩
      rcases Nat.lt_or_ge q k with h3 | h3
      ·exact eV.out q y2 h3 h2
      ·obtain rfl:q=k:=by omega
       have h4:=Hyk.out;rw[h2]at h4;cases h4
       rw[vM.out];exact lO
     case measure=>simp[intOf];omega
    ·have HK:Hid (AF l x=k):=Gy (by omega) eV.out (fun y2 h2=>by
      have h4:=Hyk.out;rw[h2]at h4;cases h4
      rw[vM.out];exact lO)
     by_cases it:y=x
     ·have Hd:=zh (decide_eq_true it)
      have sT:Hid (qU l x=l):=by show _=_;unfold qU;rw[HK.out,Hyk.out,it,if_pos rfl]
      clear it
      go_wp2_with (first | (go_at_call 148;refine(Tq.out).mono ?_;rw[vM.out];rintro e w1 ⟨rfl,rfl⟩) | (go_at_call 167;refine(mH _ _ y x wr U5.out (HT.out.ac2 Hb.out)).mono ?_;rw[Hd.out];rintro e w1 ⟨rfl,aX⟩))
      go_ret
      exact⟨_,rfl,by rw[sT.out];exact H.out.ac2 (Hb.out.trans (aX.mono Hb.out.size)),Hb.out.trans (aX.mono Hb.out.size)⟩
     ·have Hd:=zh (decide_eq_false it)
      have sT:Hid (qU l x=l.take k++[x]++l.drop k):=by show _=_;unfold qU;rw[HK.out,Hyk.out,if_neg (by simpa using it)]
      clear it
      go_upto_region 6 with(first | (go_at_call 148;refine(Tq.out).mono ?_;rw[vM.out];rintro e w1 ⟨rfl,rfl⟩) | (go_at_call 167;refine(mH _ _ y x wr U5.out (HT.out.ac2 Hb.out)).mono ?_;rw[Hd.out];rintro e w1 ⟨rfl,aX⟩))
      have Hb:=zh (Hb.out.trans (aX.mono Hb.out.size));clear aX;have HE:=zh (xq w1 B T (Nat.le_trans HB.out Hb.out.size) (Gz.out _ Hb.out.size))
      have Vy:Hid (∀j,(Value.slice (some ⟨w1.heap.size,0,none⟩) 0 0).ownBlock=some j->w.heap.size<=j):=fun j hj=>by simp[Value.ownBlock]at hj;exact hj ▸ Hb.out.size
      have Vz:Hid (Below w.heap.size w (w1.alloc (Obj.cells #[] 28))):=Hb.out.trans ((ao w1 _).mono Hb.out.size)
      have Yc:Hid (∀W v',aa w W->(∀j,Value.ownBlock v'=some j->w.heap.size<=j)->tX W B T v' (.slice AT x.length cT) x):=fun W v' h1 h2=>⟨HU.out.since h1,fun j hj=>⟨fun e=>by have:=h2 j e;have:=(World.ownsRow.lt HU.out j hj).2;omega,Hu.out j hj⟩⟩
      have JB:k<=l.length:=by omega
      go_wp2_with (at_builtin;first | (refine pF rfl _ _ rfl rfl HE.out Vy.out rfl H.out Vz.out 0 k _ (Nat.zero_le _) JB rfl (by have:=JB;first | (simp;done) | (simp;omega)) HB.out Gz.out ?_;intro v2 w2 ml Ep bJ;have Ts:=zh ml;have Tt:=zh Ep;have np:=zh (Below.trans Vz.out (bJ.mono (Nat.le_refl _)));obtain⟨A2,c2,rfl⟩:=Dc (n:=k) ml (by have:=JB;first | (simp;done) | (simp;omega));clear ml Ep bJ) | (have S1:=Nat.le_trans np.out.size (ao w2 (Obj.cells #[Value.slice AT x.length cT] 28)).size;have S2:=np.out.trans ((ao w2 (Obj.cells #[Value.slice AT x.length cT] 28)).mono np.out.size);have S3:=Yc.out _ _ S2 Tt.out;have S4:(([]:List (List Int))++(l.take k).drop 0).length=k:=(by have:=JB;first | (simp;done) | (simp;omega));refine xr (w:=w2.alloc (Obj.cells #[Value.slice AT x.length cT] 28)) rfl _ _ rfl rfl (Ts.out.since (ae _ (ad _))) w2.heap.size (Value.slice AT x.length cT) x rfl (by simp[go_sem]) S3 k S4 (by omega) (Nat.le_trans HB.out S1) (fun j hj=>Gz.out j (Nat.le_trans S1 hj)) ?_;intro g3 c3 w3 LG nB Qh aG;have QS:=zh LG;have HV3:=zh (LI (n:=0) (c:=0) Tt.out Qh S1);have xV:=zh (S2.trans (Below.grown (Below.refl _ _) nB S1 Tt.out));clear LG nB Qh aG S1 S2 S3 S4) | (refine pF rfl _ _ rfl rfl QS.out (fun j hj=>HV3.out j hj) rfl H.out xV.out k l.length _ JB (Nat.le_refl _) rfl (by have:=JB;first | (simp;done) | (simp;omega)) HB.out Gz.out ?_;intro v4 w4 Yd hv4 qy;have HR4:=zh Yd;have Eo:=zh (xV.out.trans qy);clear Yd hv4 qy))
      go_ret
      exact⟨_,rfl,by rw[sT.out];have:=HR4.out;simpa using this,Eo.out⟩
   ·obtain rfl:k=l.length:=by omega
    have HK:Hid (AF l x=l.length):=Gy (Nat.le_refl _) eV.out (fun y2 h2=>by have:=al h2;omega)
    have sT:Hid (qU l x=l.take l.length++[x]++l.drop l.length):=by show _=_;unfold qU;rw[HK.out,List.getElem?_eq_none (Nat.le_refl _),if_neg (by simp)]
    go_upto_region 6 with(fail);have HE:=zh (xq wr B T (Nat.le_trans HB.out Hb.out.size) (Gz.out _ Hb.out.size))
    have Vy:Hid (∀j,(Value.slice (some ⟨wr.heap.size,0,none⟩) 0 0).ownBlock=some j->w.heap.size<=j):=fun j hj=>by simp[Value.ownBlock]at hj;exact hj ▸ Hb.out.size
    have Vz:Hid (Below w.heap.size w (wr.alloc (Obj.cells #[] 28))):=Hb.out.trans ((ao wr _).mono Hb.out.size)
    have Yc:Hid (∀W v',aa w W->(∀j,Value.ownBlock v'=some j->w.heap.size<=j)->tX W B T v' (.slice AT x.length cT) x):=fun W v' h1 h2=>⟨HU.out.since h1,fun j hj=>⟨fun e=>by have:=h2 j e;have:=(World.ownsRow.lt HU.out j hj).2;omega,Hu.out j hj⟩⟩
    have JB:l.length<=l.length:=by omega
    go_wp2_with (at_builtin;first | (refine pF rfl _ _ rfl rfl HE.out Vy.out rfl H.out Vz.out 0 l.length _ (Nat.zero_le _) JB rfl (by have:=JB;first | (simp;done) | (simp;omega)) HB.out Gz.out ?_;intro v2 w2 ml Ep bJ;have Ts:=zh ml;have Tt:=zh Ep;have np:=zh (Below.trans Vz.out (bJ.mono (Nat.le_refl _)));obtain⟨A2,c2,rfl⟩:=Dc (n:=l.length) ml (by first | (simp;done) | (simp;omega));clear ml Ep bJ) | (have S1:=Nat.le_trans np.out.size (ao w2 (Obj.cells #[Value.slice AT x.length cT] 28)).size;have S2:=np.out.trans ((ao w2 (Obj.cells #[Value.slice AT x.length cT] 28)).mono np.out.size);have S3:=Yc.out _ _ S2 Tt.out;have S4:(([]:List (List Int))++(l.take l.length).drop 0).length=l.length:=(by have:=JB;first | (simp;done) | (simp;omega));refine xr (w:=w2.alloc (Obj.cells #[Value.slice AT x.length cT] 28)) rfl _ _ rfl rfl (Ts.out.since (ae _ (ad _))) w2.heap.size (Value.slice AT x.length cT) x rfl (by simp[go_sem]) S3 l.length S4 (by omega) (Nat.le_trans HB.out S1) (fun j hj=>Gz.out j (Nat.le_trans S1 hj)) ?_;intro g3 c3 w3 LG nB Qh aG;have QS:=zh LG;have HV3:=zh (LI (n:=0) (c:=0) Tt.out Qh S1);have xV:=zh (S2.trans (Below.grown (Below.refl _ _) nB S1 Tt.out));clear LG nB Qh aG S1 S2 S3 S4) | (refine pE rfl _ _ rfl rfl QS.out _ _ rfl ?_;have HR4:=QS;have Eo:=xV) | (refine pF rfl _ _ rfl rfl QS.out (fun j hj=>HV3.out j hj) rfl H.out xV.out l.length l.length _ JB (Nat.le_refl _) rfl (by have:=JB;first | (simp;done) | (simp;omega)) HB.out Gz.out ?_;intro v4 w4 Yd hv4 qy;have HR4:=zh Yd;have Eo:=zh (xV.out.trans qy);clear Yd hv4 qy))
    all_goals go_ret
    all_goals exact⟨_,rfl,by rw[sT.out];have:=HR4.out;simpa using this,Eo.out⟩
theorem LK (b:Bool) (w:World):Calls Tryz.prog 193 #[.bool b] w fun e w'=>e=.returned (.int .i64 (if b then 1 else 0))/\w=w':=by
 cases b
 ·go_enter Tryz.func193,Tryz.ntmps193
  go_wp2;go_ret;exact⟨rfl,rfl⟩
 ·go_enter Tryz.func193,Tryz.ntmps193
  go_wp2;go_ret;exact⟨rfl,rfl⟩
def GA:Value->Nat
 | .slice _ n _=>n
 | _=>0
def jF (n:Nat) (f r:Int):List Int:=du (f::List.replicate (n-1) r)
theorem LM (f r:Int) (k:Nat):f::List.replicate (k+1) r=(f::List.replicate k r)++[r]:=by
 rw[List.cons_append,<- List.replicate_succ']
theorem kJ (n:Nat) (f r:Int) (w:World) (h1:1<=n) (h2:n<=4):
  Calls Tryz.prog 192 #[.int .i64 n,.int .i64 f,.int .i64 r] w fun e w'=>∃u,e=.returned u/\Own w' w.heap.size u (jF n f r)/\Below w.heap.size w w':=by
 have Ho0:=zh (dv w [f] (by simp[maxLen]))
 go_enter Tryz.func192,Tryz.ntmps192
 go_wp2
 go_loopw [7] (fun v wr=>∃(k g c:Nat),k<n/\v=.slice (some ⟨g,0,none⟩) (k+1) c/\Own wr w.heap.size v (f::List.replicate k r)/\aa w wr) (fun v _=>n-GA v)
 case atStart=>exact⟨0,_,1,by omega,rfl,by simpa using Ho0.out,ae _ (ad _)⟩
 case round=>
  obtain⟨k,g,c,hk,rfl,ho,hs⟩:=hrel;have Ho:=zh ho;have Hs:=zh hs
  have lM:Hid ((f::List.replicate k r).length+1<=17592186044416):=by show _<=_;simp;omega
  clear ho hs
  by_cases aH:k+1<n
  ·have hd:((k:Int)+1<n)=True:=by simp;omega
   go_wp2_with (at_builtin;refine po rfl _ _ rfl rfl (Ho.out.since (ae _ (ad _))) wr.heap.size r rfl (by simp[go_sem]) lM.out (ae _ Hs.out) ?_;intro g2 c2 w2 dW dZ)
   have nW:=zh dW;have gn:=zh dZ;clear dW dZ;go_wp2;go_roundw
   case rel=>exact⟨k+1,g2,c2,by omega,by simp,by have:=nW.out;rw[LM];simpa using this,gn.out⟩
   case measure=>simp[GA];omega
  ·have hd:((k:Int)+1<n)=False:=by simp;omega
   have Hn:Hid (n=k+1):=by show _=_;omega
   have On:Hid ((f::List.replicate k r).length<=1000000):=by show _<=_;simp;omega
   go_wp2_with (go_at_call 121;refine(kv _ _ wr Ho.out.ints On.out).mono ?_;rintro e w1 ⟨u1,rfl,ij,aX⟩)
   go_ret
   exact⟨_,rfl,by unfold jF;rw[Hn.out];exact ij.mono Hs.out.size,Below.trans Hs.out (aX.mono Hs.out.size)⟩
def eZ (W:World) (B:Nat) (a b:Value) (p:az):Prop:=∃TN TE:Nat->Prop,cy W B TN a p.nodes/\cy W B TE b p.ac3/\∀j,TN j->¬TE j
def jW (d:Nat) (y:List Int):Prop:=y.length=d/\∀z∈y,0<=z/\z<=7
structure O5 (d:Nat) (p:az):Prop where
 lab:1<=p.labels/\p.labels<=4
 deg:p.degree=d
 nod:p.nodes.length<=20/\∀y∈p.nodes,jW d y
 edg:p.ac3.length<=20/\∀y∈p.ac3,jW 2 y
theorem eZ.since {W W':World} {B:Nat} {a b:Value} {p:az} (h:eZ W B a b p) (hs:aa W W'):eZ W' B a b p:=by
 obtain⟨TN,TE,h1,h2,h3⟩:=h;exact⟨TN,TE,h1.since hs,h2.since hs,h3⟩
theorem eZ.ac4 {W W':World} {B:Nat} {a b:Value} {p:az} (h:eZ W B a b p) (hk:∀j,B<=j->j<W.heap.size->W'.heap[j]?=W.heap[j]?):eZ W' B a b p:=by
 obtain⟨TN,TE,h1,h2,h3⟩:=h;exact⟨TN,TE,h1.ac4 fun j _=>hk j,h2.ac4 fun j _=>hk j,h3⟩
theorem eZ.mono {W:World} {B B':Nat} {a b:Value} {p:az} (h:eZ W B a b p) (hb:B'<=B):eZ W B' a b p:=by
 obtain⟨TN,TE,h1,h2,h3⟩:=h;exact⟨TN,TE,h1.mono hb fun _ h=>h,h2.mono hb fun _ h=>h,h3⟩
theorem eZ.read {W:World} {B:Nat} {a b:Value} {p:az} (h:eZ W B a b p):di W a b p:=by
 obtain⟨TN,TE,h1,h2,h3⟩:=h;exact⟨h1.read,h2.read⟩
theorem pG (W:World) (B:Nat) (T:Nat->Prop) (us:List Value) (l:List (List Int)) (Bw:us.length=l.length) (hm:l.length<=maxLen) (hr:∀(k:Nat) (u:Value) (y:List Int),us[k]?=some u->l[k]?=some y->Own W B u y/\∀j,u.ownBlock=some j->T j) (hB:B<=W.heap.size) (hT:T W.heap.size):
  cy (W.alloc (.cells us.toArray 28)) B T (.slice (some ⟨W.heap.size,0,none⟩) l.length l.length) l:=by
 have h1:=World.ownsRow_lit (base:=W.heap.size) (e:=28) (size:=1) W us.toArray l.length (Nat.le_refl _) hm (by simp[Bw]);refine⟨us,fO (by simpa using h1) hB,Bw,fun j hj=>?_,fun k u y hu hy=>?_⟩
 ·have e:W.heap.size=j:=by simpa[Value.ownBlock]using hj
  exact e ▸ hT
 ·obtain⟨q1,q2⟩:=hr k u y hu hy;refine⟨q1.since (ae _ (ad _)),fun j hj=>⟨fun e=>?_,q2 j hj⟩⟩
  have e2:W.heap.size=j:=by simpa[Value.ownBlock]using e
  have:=(World.ownsRow.lt q1 j hj).2
  omega
theorem ti (W:World) (B:Nat) (u:Value) (x:List Int) (h:Own W B u x) (hB:B<=W.heap.size):cy (W.alloc (.cells #[u] 28)) B (fun j=>j<=W.heap.size) (.slice (some ⟨W.heap.size,0,none⟩) 1 1) [x]:=
 pG W B _ [u] [x] rfl (by simp[maxLen]) (fun k u' y hu hy=>by
  match k,hu,hy with
  | 0,hu,hy=>simp at hu hy;subst hu;subst hy;exact⟨h,fun j hj=>Nat.le_of_lt (World.ownsRow.lt h j hj).2⟩
  | k+1,hu,hy=>simp at hu) hB (Nat.le_refl _)
theorem zz (W:World) (B:Nat) (u v:Value) (x y:List Int) (h:Own W B u x) (h':Own W B v y) (hB:B<=W.heap.size):cy (W.alloc (.cells #[u,v] 28)) B (fun j=>j<=W.heap.size) (.slice (some ⟨W.heap.size,0,none⟩) 2 2) [x,y]:=
 pG W B _ [u,v] [x,y] rfl (by simp[maxLen]) (fun k u' y' hu hy=>by
  match k,hu,hy with
  | 0,hu,hy=>simp at hu hy;subst hu;subst hy;exact⟨h,fun j hj=>Nat.le_of_lt (World.ownsRow.lt h j hj).2⟩
  | 1,hu,hy=>simp at hu hy;subst hu;subst hy;exact⟨h',fun j hj=>Nat.le_of_lt (World.ownsRow.lt h' j hj).2⟩
  | k+2,hu,hy=>simp at hu) hB (Nat.le_refl _)
theorem Ye (W:World) (s:Nat) (hs:W.heap.size=s) (x1 x2 y1 y2:Int):cy (((W.alloc (.cells #[.int .i64 x1,.int .i64 x2] 3)).alloc (.cells #[.int .i64 y1,.int .i64 y2] 3)).alloc (.cells #[.slice (some ⟨s,0,none⟩) 2 2,.slice (some ⟨s+1,0,none⟩) 2 2] 28)) s (fun j=>s<=j) (.slice (some ⟨s+1+1,0,none⟩) 2 2) [[x1,x2],[y1,y2]]:=by
 subst hs;have o1:=dv W [x1,x2] (by simp[maxLen]);have o2:=dv (W.alloc (.cells #[.int .i64 x1,.int .i64 x2] 3)) [y1,y2] (by simp[maxLen]);have e1:(W.alloc (.cells #[.int .i64 x1,.int .i64 x2] 3)).heap.size=W.heap.size+1:=by simp
 rw[e1]at o2;have e2:((W.alloc (.cells #[.int .i64 x1,.int .i64 x2] 3)).alloc (.cells #[.int .i64 y1,.int .i64 y2] 3)).heap.size=W.heap.size+1+1:=by simp
 have o1':Own ((W.alloc (.cells #[.int .i64 x1,.int .i64 x2] 3)).alloc (.cells #[.int .i64 y1,.int .i64 y2] 3)) W.heap.size (.slice (some ⟨W.heap.size,0,none⟩) 2 2) [x1,x2]:=o1.since (ae _ (ad _));have o2':Own ((W.alloc (.cells #[.int .i64 x1,.int .i64 x2] 3)).alloc (.cells #[.int .i64 y1,.int .i64 y2] 3)) W.heap.size (.slice (some ⟨W.heap.size+1,0,none⟩) 2 2) [y1,y2]:=Own.mono o2 (by omega)
 have:=pG ((W.alloc (.cells #[.int .i64 x1,.int .i64 x2] 3)).alloc (.cells #[.int .i64 y1,.int .i64 y2] 3)) W.heap.size (fun j=>W.heap.size<=j) [.slice (some ⟨W.heap.size,0,none⟩) 2 2,.slice (some ⟨W.heap.size+1,0,none⟩) 2 2] [[x1,x2],[y1,y2]] rfl (by simp[maxLen]) (fun k u y hu hy=>by
  match k,hu,hy with
  | 0,hu,hy=>simp at hu hy;subst hu;subst hy;exact⟨o1',fun j hj=>(World.ownsRow.lt o1' j hj).1⟩
  | 1,hu,hy=>simp at hu hy;subst hu;subst hy;exact⟨o2',fun j hj=>(World.ownsRow.lt o2' j hj).1⟩
  | k+2,hu,hy=>simp at hu) (by rw[e2];omega) (by rw[e2];omega)
 rw[e2]at this;exact this
theorem vk {n:Nat} {f r:Int} (h1:1<=n) (hf:0<=f/\f<=7) (hr:0<=r/\r<=7):jW n (jF n f r):=by
 have hp:(jF n f r).Perm (f::List.replicate (n-1) r):=List.mergeSort_perm _ _
 refine⟨by rw[hp.length_eq];simp;omega,fun z hz=>?_⟩
 rw[hp.mem_iff]at hz;rcases List.mem_cons.1 hz with h | h
 ·omega
 ·have:=(List.mem_replicate.1 h).2;omega
theorem pH {x y:Int} (hx:0<=x/\x<=7) (hy:0<=y/\y<=7):jW 2 [x,y]:=⟨rfl,fun z hz=>by
 simp at hz
 rcases hz with h | h <;> omega⟩
end Go.Proofs.YtnioemnkfojmkaaGreat
