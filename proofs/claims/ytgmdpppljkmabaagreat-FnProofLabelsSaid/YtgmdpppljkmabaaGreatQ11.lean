/- Parts of the proof: walks of functions and plain laws. -/
import Derived.Test.YtgmdpppljkmabaaGreatQ0
import Derived.Test.YtgmdpppljkmabaaGreatQ1
import Derived.Test.YtgmdpppljkmabaaGreatQ5
import Derived.Test.YtgmdpppljkmabaaGreatQ10
import Derived.Maps.OwnOps
import Derived.Maps.RangeWalk
import Derived.WalkArith
import Derived.Test.YtgmdpppljkmabaaGreatQ4
import Derived.Test.YtgmdpppljkmabaaGreatQ3
import Derived.Test.YtgmdpppljkmabaaGreatQ6
set_option maxRecDepth 100000
set_option maxHeartbeats 16000000
namespace Go.Proofs.YtgmdpppljkmabaaGreat
open Go Go.RowKit
theorem fV (ve vi vn:Value) (n:ak) (w:World) (h:aQ w ve vi vn n) (hn:al n=true):
  Calls Tryz.prog 122 #[.agg #[ve,vi,vn]] w fun e w'=>∃u,e=.returned u/\Own w' w.heap.size u (bn n)/\Below w.heap.size w w':=by
 have eS:=aE hn;have rg:=eS.1;have rh:=eS.2;have Hn:=zh hn
 obtain⟨w0,A,c,A2,c2,A3,c3,rfl,rfl,rfl,eV,hm,fJ,fB,HA,bK,aT,H,dL,dR,dU⟩:=zB h;clear h
 obtain⟨R,hR⟩:∃R,R=bn n:=⟨_,rfl⟩
 have HR:=zh hR;rw[<- hR];clear hn hR
 go_enter Tryz.func122,Tryz.ntmps122
 go_upto_region 1 with(fail);rw[<- bK.out];go_wp2_with fail;refine(l_ w0.heap.size 1 (-1) n.ends.length _ eS.1 (by omega) (by simp)).mono ?_;rintro e w1 ⟨u1,rfl,dT,ay⟩;rcases dT.cases with⟨-,e1⟩ | ⟨g,c1,rfl,iH,lh⟩
 ·have:=congrArg List.length e1;rw[List.length_replicate,List.length_nil]at this;omega
 rw[List.length_replicate]at dT ⊢;have dC:Hid (aa w0 w1):=aa.after (ag _ (ad _)) ay
 have P_:Hid (w0.heap.size<=g):=by show _<=_;have:=iH;simp at this;omega
 have Hg1:Hid (g<w1.heap.size):=(World.ownsRow.lt dT g (by simp[Value.ownBlock])).2
 have rP:Hid (Own w1 w0.heap.size (.slice (some ⟨g,0,none⟩) n.ends.length c1) (gC n 0 0)):=by rw[Di];exact dT.mono (by simp)
 clear dT ay iH lh eS;go_wp2
 go_loopw [14] (fun i wr=>∃k:Nat,k<=n.ends.length/\i=.int .i64 k/\Own wr w0.heap.size (.slice (some ⟨g,0,none⟩) n.ends.length c1) (gC n k 0)/\aa w0 wr/\g<wr.heap.size) (fun i _=>n.ends.length-(intOf i).toNat)
 case atStart=>exact⟨0,Nat.zero_le _,rfl,rP.out,dC.out,Hg1.out⟩
 case round=>
  obtain⟨k,hk,rfl,ho,bA,zF⟩:=hrel;have Ho:=zh ho;have Hs:=zh bA;have Hg:=zh zF;clear ho bA zF
  by_cases hlt:k<n.ends.length
  ·obtain⟨x,hx,sk⟩:=Dl Hn.out hlt;have cz:=Ho.out.cell hx;have m1:IntKind.i64.wrap ((k:Int)+1)=(k:Int)+1:=aF _ (by omega) (by omega);have Hx:=zh hx;clear hx
   by_cases hr:ai n k=k
   ·have tr:¬0<=x:=fun h=>sk.1 h hr
    have tp:(0<=x)=False:=by simp[tr]
    have oQ:x<0:=by omega
    have Hr:=zh hr;have Fe:=Hs.out;clear sk hr tr;go_wp2_with fail;refine(fq _ _ _ n k wr (H.out.keep Hs.out.below) Hn.out hlt).mono ?_;obtain⟨ds,Ab⟩:∃ds,ds=bS n k:=⟨_,rfl⟩
    rw[<- Ab];rintro e w2 ⟨u2,rfl,dl,bj⟩
    have Ac:ds.length=n.ends.length:=by rw[Ab];exact kQ Hn.out _ _ _ (BI.start hlt)
    obtain⟨gd,cd,rfl,iY⟩:∃gd cd,u2=.slice (some ⟨gd,0,none⟩) n.ends.length cd/\wr.heap.size<=gd:=by
     rcases dl.cases with⟨-,e1⟩ | ⟨gd,cd,rfl,iH,lh⟩
     ·have:=congrArg List.length e1;rw[List.length_nil]at this;omega
     ·exact⟨gd,cd,by rw[Ac],iH⟩
    have gM:gd≠g:=by have:=Hg.out;omega
    have DK:=zh gM;have eX:=zh dl;have b_:=zh (aa.after Hs.out bj);have Hoo:=zh (Ho.out.since bj);have Bq:Hid (g<w2.heap.size):=Nat.lt_of_lt_of_le Hg.out bj.size;have Yq:=zh Ab;have Na:=zh Ac;clear dl bj iY gM Ab Ac cz Fe;go_wp2
    go_loopw [26] (fun i wq=>∃j:Nat,j<=n.ends.length/\i=.int .i64 j/\Own wq w0.heap.size (.slice (some ⟨g,0,none⟩) n.ends.length c1) (gC n k j)/\Own wq wr.heap.size (.slice (some ⟨gd,0,none⟩) n.ends.length cd) ds/\aa w0 wq/\g<wq.heap.size) (fun i _=>n.ends.length-(intOf i).toNat)
    case atStart=>exact⟨0,Nat.zero_le _,rfl,Hoo.out,eX.out,b_.out,Bq.out⟩
    case round=>
     obtain⟨j,hj,rfl,YW,hdq,po,WU⟩:=hrel;have YX:=zh YW;have Hdq:=zh hdq;have jJ:=zh po;have YY:=zh WU;clear YW hdq po WU
     by_cases mH:j<n.ends.length
     ·obtain⟨d,hd⟩:=aM ds j (by rw[Na.out];exact mH)
      obtain⟨y,hy⟩:=aM (gC n k j) j (by rw[eA];exact mH)
      have Nb:=Hdq.out.cell hd;have cy:=YX.out.cell hy;have fy:=YX.out.free j
      have yG:(bS n k).getD j 0=d:=by rw[<- Yq.out];exact au hd
      have m2:IntKind.i64.wrap ((j:Int)+1)=(j:Int)+1:=aF _ (by omega) (by omega)
      by_cases h0:0<=d
      ·have Hp:=zh (FQ Hn.out hlt mH Hr.out (by rw[yG];exact h0))
       have h1:(0<=d)=True:=by simp[h0]
       clear hd hy yG;go_wp2;go_roundw
       case rel=>exact⟨j+1,by omega,by first | rfl | go_num,by rw[<- Hp.out];exact YX.out.set (k:=j) (k:Int),pU Hdq.out (by simp[Value.ownBlock,DK.out]) _,Below.setCell jJ.out P_.out _,by simpa using YY.out⟩
       case measure=>simp[intOf];omega
      ·have Hp:=zh (Dm Hn.out hlt mH Hr.out (by rw[yG];exact h0))
       have h1:(0<=d)=False:=by simp[h0]
       have h2:d<0:=by omega
       clear hd hy yG h0;go_wp2;go_roundw
       case rel=>exact⟨j+1,by omega,by first | rfl | go_num,by rw[<- Hp.out];exact YX.out,Hdq.out,jJ.out,YY.out⟩
       case measure=>simp[intOf];omega
     ·obtain rfl:j=n.ends.length:=by omega
      have oy:=zh (Dj n k);clear hj mH;go_wp2;go_roundw
      case rel=>exact⟨k+1,by omega,by first | rfl | go_num,by rw[<- oy.out];exact YX.out,jJ.out,YY.out⟩
      case measure=>simp[intOf];omega
   ·have tr:0<=x:=sk.2 hr;have tp:(0<=x)=True:=by simp[tr]
    have Hsk:=zh (Dk Hn.out hlt hr);clear sk hr;go_wp2;go_roundw
    case rel=>exact⟨k+1,by omega,by first | rfl | go_num,by rw[<- Hsk.out];exact Ho.out,Hs.out,Hg.out⟩
    case measure=>simp[intOf];omega
  ·obtain rfl:k=n.ends.length:=by omega
   have He:=zh (FP n (j:=0) Hn.out);clear hk hlt;go_wp2;go_ret
   exact⟨_,rfl,by rw[HR.out,<- He.out];exact Ho.out.mono aT.out.size,aa.after aT.out Hs.out⟩
open Go.Maps (Keyed)
def kI (p:Nat):Lit:=.int .i64 (p:Int)
def lI (z:Int):DataW Unit:=.lit (.int .i64 z)
theorem xB {p q:Nat} (h:kI p=kI q):p=q:=by
 unfold kI at h
 injection h with _ h
 exact Int.ofNat.inj h
theorem tI (p:Nat):WideAt.IsKeyLit (kI p):=trivial
theorem DN:Keyed Tryz.prog 3:=Go.Maps.int_keyed Tryz.underlying3
theorem YZ (w:World):(zeroValue 3).run Tryz.prog w=.ok (.int .i64 0) w:=by kernel_rfl
theorem Q8 {p:Nat} (hp:p<=1000000):keyOf Tryz.prog 3 (.int .i64 (p:Int))=some (kI p):=Go.Maps.keyOf_int_mk Tryz.underlying3 (WalkArith.wf_i64 (by omega))
theorem Below.ownsMap {w w':World} {P:Program} {k:TypeId} {R:Value->Option (DataW Unit×List MemPlace)} {b n:Nat} {D:DataW Unit} (h:w.ownsMap P k R b n D) (hb:Below w.heap.size w w'):w'.ownsMap P k R b n D:=by
 have hl:=h.lt;obtain⟨es,Y2,h1,h2⟩:=h;exact⟨es,Y2,(hb.block b hl).trans h1,h2⟩
theorem Gw {w:World} {ops:Array Oper} {rest:List Oper} {o:Oper} {a:Act} {Q:Exit->Act->World->Prop} (hg:o.guard=none) (m x:Operand) (qv:o.op=Op.lookup 114 m x false) (b n:Nat) (D:DataW Unit)
  (hm:a.eval m=.map (some b)) (aP:w.ownsMap Tryz.prog 3 (plainElem (H:=Unit) Tryz.prog 3) b n D) (p:Nat) (hp:p<=1000000) (hx:a.eval x=.int .i64 (p:Int)) (y:Int) (hy:D.atKey (kI p) (lI 0)=lI y)
  (hK:wpList Tryz.prog ops Q rest (a.put o.dst (.int .i64 y)) w):wpList Tryz.prog ops Q (o::rest) a w:=
 wpList_lookup_own_int w hg m x 114 qv 3 3 .i64 DN Tryz.underlying114 Tryz.underlying3 (YZ w) b n D hm aP _ _ hx (Q8 hp) (fun c Q9 _=>by
  have e:lI y=lI c:=hy.symm.trans Q9
  unfold lI at e
  injection e with e
  injection e with _ e
  subst e
  exact hK)
theorem DO {w:World} {ops:Array Oper} {rest:List Oper} {o:Oper} {a:Act} {Q:Exit->Act->World->Prop} (hg:o.guard=none) (m x v:Operand) (qv:o.op=Op.mapUpdate 114 m x v) (b n:Nat) (D:DataW Unit)
  (hm:a.eval m=.map (some b)) (aP:w.ownsMap Tryz.prog 3 (plainElem (H:=Unit) Tryz.prog 3) b n D) (hn:n<=1000000) (p:Nat) (hp:p<=1000000) (hx:a.eval x=.int .i64 (p:Int)) (y:Int) (hv:a.eval v=.int .i64 y) (hy : -9223372036854775808<=y/\y<=9223372036854775807)
  (hK:∀w',w'.ownsMap Tryz.prog 3 (plainElem (H:=Unit) Tryz.prog 3) b (n+1) (D.put (kI p) (lI y))->w.grownBy w' (some b)->wpList Tryz.prog ops Q rest (a.put o.dst undef) w'):wpList Tryz.prog ops Q (o::rest) a w:=
 wpList_mapUpdate_own w hg m x v 114 qv 3 3 DN Tryz.underlying114 (plainElem (H:=Unit) Tryz.prog 3) b n D hm aP (by unfold maxLen;omega) _ _ (kI p) hx hv (Q8 hp) (lI y) [] (plainElem_int Tryz.underlying3 (WalkArith.wf_i64 hy)) hK
structure sF (n:ak) (k:Nat) (D:DataW Unit):Prop where
 map:Maps.IsMap D
 val:∀p:Nat,D.atKey (kI p) (lI 0)=lI (jU n p k:Nat)
 keys:∀kl,Maps.has D kl=true->∃v,v<k/\kl=kI (ai n v)
 all:∀v,v<k->Maps.has D (kI (ai n v))=true
theorem sF.zero (n:ak):sF n 0 (.map []) where
 map:=Maps.isMap_empty
 val:=fun p=>by simp[jU,DataW.atKey]
 keys:=fun kl h=>by simp[Maps.has]at h
 all:=fun v hv=>by omega
theorem sF.put {n:ak} {k:Nat} {D:DataW Unit} (h:sF n k D):sF n (k+1) (D.put (kI (ai n k)) (lI ((jU n (ai n k) k:Nat)+1))) where
 map:=h.map.put _ _
 val:=fun p=>by
  by_cases e:p=ai n k
  ·subst e;rw[Maps.atKey_put_same h.map (tI _),uH,if_pos rfl];simp
  ·rw[Maps.atKey_put_other (fun e2=>e (xB e2)),h.val,uH,if_neg (fun e2=>e e2.symm)]
   simp
 keys:=fun kl hk=>by
  by_cases e:kl=kI (ai n k)
  ·exact⟨k,by omega,e⟩
  ·rw[Maps.has_put_other e]at hk;obtain⟨v,hv,e2⟩:=h.keys kl hk;exact⟨v,by omega,e2⟩
 all:=fun v hv=>by
  by_cases e:kI (ai n v)=kI (ai n k)
  ·rw[e];exact Maps.has_put_same h.map (tI _) _
  ·rw[Maps.has_put_other e]
   exact h.all v (by
    apply Decidable.byContradiction
    intro hc
    exact e (by rw[show v=k by omega]))
theorem rq (ve vi vn:Value) (n:ak) (w:World) (h:aQ w ve vi vn n) (hn:al n=true):
  Calls Tryz.prog 81 #[.agg #[ve,vi,vn]] w fun e w'=>∃b D,e=.returned (.map (some b))/\w'.ownsMap Tryz.prog 3 (plainElem (H:=Unit) Tryz.prog 3) b n.ends.length D/\sF n n.ends.length D/\w.heap.size<=b/\Below w.heap.size w w':=by
 have eS:=aE hn;have rg:=eS.1;have rh:=eS.2;have Hn:=zh hn
 obtain⟨w0,A,c,A2,c2,A3,c3,rfl,rfl,rfl,eV,hm,fJ,fB,HA,bK,aT,H,dL,dR,dU⟩:=zB h;clear h
 clear hn eS;have hmm:=@run_makeMap Tryz.prog;obtain⟨b,ay⟩:∃b,b=w.heap.size+1:=⟨_,rfl⟩
 have hb:b=w0.heap.size:=by rw[ay,bK.out];simp
 have eD:=zh ay;obtain⟨w1,ou⟩:∃w1,w1=w0.alloc (.map #[] 0):=⟨_,rfl⟩
 have cY:aa w0 w1:=by rw[ou];exact ag _ (ad _)
 have rP:Hid (w1.ownsMap Tryz.prog 3 (plainElem (H:=Unit) Tryz.prog 3) b 0 (.map [])):=by rw[ou,hb];exact World.ownsMap_made _ _ _ _
 have dC:=zh cY;have Hb:=zh hb;have Q_:=zh ou
 have IG:Hid (w0.heap.size<=b):=by rw[hb];exact Nat.le_refl _
 clear ou hb ay
 go_enter Tryz.func81,Tryz.ntmps81
 go_upto_region 2 with(fail);rw[<- bK.out,<- Q_.out,<- eD.out];go_wp2_with fail;refine(fV _ _ _ n w1 (H.out.keep dC.out.below) Hn.out).mono ?_;rintro e w2 ⟨u2,rfl,dl,bj⟩
 obtain⟨gc,cc,rfl⟩:∃gc cc,u2=.slice (some ⟨gc,0,none⟩) n.ends.length cc:=by
  obtain⟨x,hx⟩:=aM (bn n) 0 (by simp[bn];omega)
  obtain⟨g,c,h1,-⟩:=ma dl hx
  exact⟨g,c,by rw[h1];simp[bn]⟩
 have eX:=zh dl;have kC:=zh (Below.ownsMap rP.out bj)
 have b_:Hid (Below b w0 w2):=(dC.out.below.mono (by have:=Hb.out;omega)).trans (bj.mono (by have:=rP.out.lt;omega))
 have P9:Hid (b<w1.heap.size):=rP.out.lt;clear dl bj cY hmm;go_wp2
 go_loopw [10] (fun i wr=>∃k D,k<=n.ends.length/\i=.int .i64 (k:Nat)/\wr.ownsMap Tryz.prog 3 (plainElem (H:=Unit) Tryz.prog 3) b k D/\sF n k D/\Own wr w1.heap.size (.slice (some ⟨gc,0,none⟩) n.ends.length cc) (bn n)/\Below b w0 wr) (fun i _=>n.ends.length-(intOf i).toNat)
 case atStart=>exact⟨0,_,Nat.zero_le _,rfl,kC.out,sF.zero n,eX.out,b_.out⟩
 case round=>
  obtain⟨k,D,hk,rfl,hm,Fb,hc,hs⟩:=hrel;have Hm:=zh hm;have CI:=zh Fb;have Hc:=zh hc;have Hs:=zh hs;clear hm Fb hc hs
  by_cases hlt:k<n.ends.length
  ·have m3:IntKind.i64.wrap ((k:Int)+1)=(k:Int)+1:=aF _ (by omega) (by omega);obtain⟨p,hp⟩:∃p,ai n k=p:=⟨_,rfl⟩
   have qH:p<=1000000:=by rw[<- hp];have:=cM Hn.out hlt;omega
   have c1:=Hc.out.cell (show(bn n)[k]?=some (p:Int)by rw[<- hp];unfold bn;rw[List.getElem?_map,List.getElem?_range hlt];rfl)
   have Hp:=zh hp;obtain⟨z,hz⟩:∃z,jU n p k=z:=⟨_,rfl⟩
   have hzk:z<=k:=by rw[<- hz];exact Ah n p k
   have hv:=CI.out.val p;rw[hz]at hv;have Hv:=zh hv;have m4:IntKind.i64.wrap ((z:Int)+1)=(z:Int)+1:=aF _ (by omega) (by omega)
   have oy:Hid (sF n (k+1) (D.put (kI p) (lI ((z:Int)+1)))):=by have:=CI.out.put;rw[hp,hz]at this;exact this
   have SC:k<=1000000:=by omega
   have hzm : -9223372036854775808<=(z:Int)+1/\(z:Int)+1<=9223372036854775807:=by omega
   clear hp hz hv
   go_wp2_with (first | (at_lookup;refine Gw rfl _ _ rfl b k D rfl Hm.out p qH rfl (z:Int) Hv.out ?_) | (at_mapUpdate;refine DO rfl _ _ _ rfl b k D rfl Hm.out SC p qH rfl ((z:Int)+1) rfl hzm ?_;intro w3 DP xC;have kK:=zh DP;have Qd:=zh xC;clear DP xC))
   go_roundw
   case rel=>exact⟨k+1,_,by omega,by first | rfl | go_num,kK.out,oy.out,aK Hc.out (fun j hj=>by
     have h5:=World.ownsRow.lt Hc.out j (by simpa using hj);have h6:=P9.out
     exact Qd.out.block j h5.2 (fun e=>by simp only[Option.some.injEq]at e;omega)),Below.grown Hs.out Qd.out (Nat.le_trans (Nat.le_of_lt Hm.out.lt) (Nat.le_refl _)) (fun j hj=>by simp only[Option.some.injEq]at hj;omega)⟩
   case measure=>simp[intOf];omega
  ·obtain rfl:k=n.ends.length:=by omega
   clear hk hlt;go_wp2;go_ret;exact⟨b,D,rfl,Hm.out,CI.out,Nat.le_trans aT.out.size IG.out,Below.trans aT.out (Hs.out.mono (Nat.le_trans aT.out.size IG.out))⟩
open Go.Maps (Keyed)
def vy:Value->Option (DataW Unit×List MemPlace)
 | .slice none n c=>some (.slice [lI 0,lI n,lI c] [],[])
 | .slice (some ⟨b,0,none⟩) n c=>some (.slice [lI (b+1),lI n,lI c] [],[])
 | _=>none
def zD:DataW Unit:=.slice [lI 0,lI (0:Nat),lI (0:Nat)] []
theorem I9:vy (.slice none 0 0)=some (zD,[]):=rfl
theorem pp {a b:Int} (h:lI a=lI b):a=b:=by
 unfold lI at h
 injection h with h
 injection h
theorem mO {v:Value} {y:DataW Unit×List MemPlace} (h:vy v=some y):(∃n c,v=.slice none n c/\y=(.slice [lI 0,lI n,lI c] [],[]))\/∃b n c,v=.slice (some ⟨b,0,none⟩) n c/\y=(.slice [lI ((b:Int)+1),lI n,lI c] [],[]):=by
 unfold vy at h
 split at h
 ·rename_i n c;injection h with h;exact .inl ⟨n,c,rfl,h.symm⟩
 ·rename_i b n c;injection h with h;exact .inr ⟨b,n,c,rfl,h.symm⟩
 ·cases h
theorem I_ {u v:Value} {y:DataW Unit×List MemPlace} (h:vy u=some y) (k:vy v=some y):u=v:=by
 rcases mO h with⟨n,c,rfl,e1⟩ | ⟨b,n,c,rfl,e1⟩
 ·rcases mO k with⟨n',c',rfl,e2⟩ | ⟨b',n',c',rfl,e2⟩
  ·rw[e1]at e2;simp only[Prod.mk.injEq,DataW.slice.injEq,List.cons.injEq,and_true]at e2;have h1:=pp e2.2.1;have h2:=pp e2.2.2;rw[Int.ofNat.inj h1,Int.ofNat.inj h2]
  ·rw[e1]at e2;simp only[Prod.mk.injEq,DataW.slice.injEq,List.cons.injEq,and_true]at e2;have h0:=pp e2.1;omega
 ·rcases mO k with⟨n',c',rfl,e2⟩ | ⟨b',n',c',rfl,e2⟩
  ·rw[e1]at e2;simp only[Prod.mk.injEq,DataW.slice.injEq,List.cons.injEq,and_true]at e2;have h0:=pp e2.1;omega
  ·rw[e1]at e2;simp only[Prod.mk.injEq,DataW.slice.injEq,List.cons.injEq,and_true]at e2;have h0:=pp e2.1;have h1:=pp e2.2.1;have h2:=pp e2.2.2;rw[Int.ofNat.inj h1,Int.ofNat.inj h2,show b=b' by omega]
theorem Y3 (w:World):(zeroValue 25).run Tryz.prog w=.ok (.slice none 0 0) w:=by kernel_rfl
structure ic (n:ak) (w:World) (B k kk:Nat) (D:DataW Unit) (U:Nat->Value):Prop where
 map:Maps.IsMap D
 val:∀p:Nat,vy (U p)=some (D.atKey (kI p) zD,[])
 own:∀p:Nat,Own w B (U p) ((cS n p k).map Int.ofNat)
 dis:∀(p q j:Nat),p≠q->(U p).ownBlock=some j->(U q).ownBlock≠some j
 keys:∀kl,Maps.has D kl=true->∃v,v<kk/\kl=kI (ai n v)
 all:∀v,v<kk->Maps.has D (kI (ai n v))=true
theorem ic.zero (n:ak) (w:World) (B:Nat):ic n w B 0 0 (.map []) (fun _=>.slice none 0 0) where
 map:=Maps.isMap_empty
 val:=fun p=>by rw[I9];simp[DataW.atKey]
 own:=fun p=>bH _ _
 dis:=fun p q j _ h=>by simp[Value.ownBlock]at h
 keys:=fun kl h=>by simp[Maps.has]at h
 all:=fun v hv=>by omega
theorem ic.range {n:ak} {w:World} {B k kk:Nat} {D:DataW Unit} {U:Nat->Value} (h:ic n w B k kk D U) {p j:Nat} (hj:(U p).ownBlock=some j):B<=j/\j<w.heap.size:=World.ownsRow.lt (h.own p) j hj
theorem ic.aeb {n:ak} {w w':World} {B k kk:Nat} {D:DataW Unit} {U:Nat->Value} (h:ic n w B k kk D U) (hs:∀j,B<=j->j<w.heap.size->w'.heap[j]?=w.heap[j]?):ic n w' B k kk D U:=
 ⟨h.map,h.val,fun p=>aK (h.own p) (fun j hj=>by
  have:=h.range (p:=p) (j:=j) (by simpa using hj)
  exact hs j this.1 this.2),h.dis,h.keys,h.all⟩
theorem Ja {D:DataW Unit} (h:Maps.IsMap D) (n:ak) {k:Nat} (d:DataW Unit) (hk:∀kl,Maps.has D kl=true->∃v,v<k/\kl=kI (ai n v)) (ha:∀v,v<k->Maps.has D (kI (ai n v))=true):
  (∀kl,Maps.has (D.put (kI (ai n k)) d) kl=true->∃v,v<k+1/\kl=kI (ai n v))/\∀v,v<k+1->Maps.has (D.put (kI (ai n k)) d) (kI (ai n v))=true:=by
 constructor
 ·intro kl mh
  by_cases e:kl=kI (ai n k)
  ·exact⟨k,by omega,e⟩
  ·rw[Maps.has_put_other e]at mh;obtain⟨v,hv,e2⟩:=hk kl mh;exact⟨v,by omega,e2⟩
 ·intro v hv
  by_cases e:kI (ai n v)=kI (ai n k)
  ·rw[e];exact Maps.has_put_same h (tI _) _
  ·rw[Maps.has_put_other e]
   exact ha v (by
    apply Decidable.byContradiction
    intro hc
    exact e (by rw[show v=k by omega]))
theorem ic.lay {n:ak} {w:World} {B k:Nat} {D:DataW Unit} {U:Nat->Value} (h:ic n w B k k D U):ic n w B k (k+1) (D.put (kI (ai n k)) (D.atKey (kI (ai n k)) zD)) U:=
 ⟨h.map.put _ _,fun p=>by
  by_cases e:p=ai n k
  ·subst e
   rw[Maps.atKey_put_same h.map (tI _)];exact h.val _
  ·rw[Maps.atKey_put_other (fun e2=>e (xB e2))];exact h.val _,h.own,h.dis,(Ja h.map n _ h.keys h.all).1,(Ja h.map n _ h.keys h.all).2⟩
theorem ic.skip {n:ak} {w:World} {B k kk:Nat} {D:DataW Unit} {U:Nat->Value} (h:ic n w B k kk D U) (hx:n.aea.getD k 0≠1):ic n w B (k+1) kk D U:=
 ⟨h.map,h.val,fun p=>by
  have:jM n p k=false:=by unfold jM;rw[decide_eq_false hx,Bool.and_false]
  rw[(ro this).1];exact h.own p,h.dis,h.keys,h.all⟩
theorem ic.grow {n:ak} {w w':World} {B k:Nat} {D:DataW Unit} {U:Nat->Value} {u:Value} {d:DataW Unit} {g:Nat} (h:ic n w B k (k+1) D U) (hx:n.aea.getD k 0=1) (ho:Own w' B u ((cS n (ai n k) k).map Int.ofNat++[(k:Int)]))
  (hu:vy u=some (d,[])) (Qa:u.ownBlock=some g) (hg:(U (ai n k)).ownBlock=some g\/w.heap.size<=g) (jd:∀j,B<=j->j<w.heap.size->(U (ai n k)).ownBlock≠some j->w'.heap[j]?=w.heap[j]?):
  ic n w' B (k+1) (k+1) (D.put (kI (ai n k)) d) (fun p=>if p=ai n k then u else U p):=by
 refine⟨h.map.put _ _,fun p=>?_,fun p=>?_,fun p q j zg hj=>?_,fun kl mh=>?_,fun v hv=>?_⟩
 ·by_cases e:p=ai n k
  ·subst e
   rw[if_pos rfl,Maps.atKey_put_same h.map (tI _)];exact hu
  ·rw[if_neg e,Maps.atKey_put_other (fun e2=>e (xB e2))];exact h.val _
 ·by_cases e:p=ai n k
  ·subst e
   have:jM n (ai n k) k=true:=by unfold jM;rw[decide_eq_true hx,decide_eq_true rfl];rfl
   rw[if_pos rfl,kc,if_pos this,List.map_append];exact ho
  ·have:jM n p k=false:=by unfold jM;rw[decide_eq_false (fun e2=>e e2.symm),Bool.false_and]
   rw[if_neg e,(ro this).1];refine aK (h.own p) (fun j hj=>?_)
   have hj:(U p).ownBlock=some j:=by simpa using hj
   have hr:=h.range hj;exact jd j hr.1 hr.2 (h.dis p _ j e hj)
 ·by_cases e:p=ai n k
  ·rw[if_pos e,Qa]at hj
   injection hj with hj
   subst hj;rw[if_neg (fun e2=>zg (e.trans e2.symm))]
   rcases hg with hg | hg
   ·exact h.dis (ai n k) q g (fun e2=>zg (e.trans e2)) hg
   ·intro hc
    have:=(h.range hc).2
    omega
  ·rw[if_neg e]at hj
   by_cases e2:q=ai n k
   ·rw[if_pos e2,Qa];intro hc
    injection hc with hc
    subst hc;rcases hg with hg | hg
    ·exact h.dis p (ai n k) g e hj hg
    ·have:=(h.range hj).2
     omega
   ·rw[if_neg e2];exact h.dis p q j zg hj
 ·by_cases e:kl=kI (ai n k)
  ·exact⟨k,by omega,e⟩
  ·rw[Maps.has_put_other e]at mh;exact h.keys kl mh
 ·by_cases e:kI (ai n v)=kI (ai n k)
  ·rw[e];exact Maps.has_put_same h.map (tI _) _
  ·rw[Maps.has_put_other e];exact h.all v hv
theorem xD {w:World} {ops:Array Oper} {rest:List Oper} {o:Oper} {a:Act} {Q:Exit->Act->World->Prop} (hg:o.guard=none) (m x:Operand) (qv:o.op=Op.lookup 112 m x false) (b n:Nat) (D:DataW Unit)
  (hm:a.eval m=.map (some b)) (aP:w.ownsMap Tryz.prog 3 vy b n D) (p:Nat) (hp:p<=1000000) (hx:a.eval x=.int .i64 (p:Int)) (u:Value) (hu:vy u=some (D.atKey (kI p) zD,[]))
  (hK:wpList Tryz.prog ops Q rest (a.put o.dst u) w):wpList Tryz.prog ops Q (o::rest) a w:=by
 refine wpList_plain hg fun K' hK'=>?_
 obtain⟨v,ps,dH,hv⟩:=aP.lookup DN Tryz.underlying112 (Y3 w) I9 (Q8 hp)
 have hps:ps=[]:=by
  rcases mO hv with⟨_,_,_,e⟩ | ⟨_,_,_,_,e⟩
  ·injection e with _ e
  ·injection e with _ e
 subst hps;obtain rfl:=I_ hu hv
 unfold Oper.wp;simp[execOp,qv,hm,hx,dH,Result.andThen]
 exact hK' _ _ hK
theorem Am {w:World} {ops:Array Oper} {rest:List Oper} {o:Oper} {a:Act} {Q:Exit->Act->World->Prop} (hg:o.guard=none) (m x v:Operand) (qv:o.op=Op.mapUpdate 112 m x v) (b n:Nat) (D:DataW Unit)
  (hm:a.eval m=.map (some b)) (aP:w.ownsMap Tryz.prog 3 vy b n D) (hn:n<=1000000) (p:Nat) (hp:p<=1000000) (hx:a.eval x=.int .i64 (p:Int)) (u:Value) (hv:a.eval v=u) (d:DataW Unit) (hu:vy u=some (d,[]))
  (hK:∀w',w'.ownsMap Tryz.prog 3 vy b (n+1) (D.put (kI p) d)->w.grownBy w' (some b)->wpList Tryz.prog ops Q rest (a.put o.dst undef) w'):wpList Tryz.prog ops Q (o::rest) a w:=
 wpList_mapUpdate_own w hg m x v 112 qv 3 25 DN Tryz.underlying112 vy b n D hm aP (by unfold maxLen;omega) _ _ (kI p) hx hv (Q8 hp) d [] hu hK
theorem uK (ve vi vn:Value) (n:ak) (w:World) (h:aQ w ve vi vn n) (hn:al n=true):
  Calls Tryz.prog 80 #[.agg #[ve,vi,vn]] w fun e w'=>∃b D U,e=.returned (.map (some b))/\w'.ownsMap Tryz.prog 3 vy b 100 D/\ic n w' (b+1) n.ends.length n.ends.length D U/\w.heap.size<=b/\Below w.heap.size w w':=by
 have eS:=aE hn;have rg:=eS.1;have rh:=eS.2;have si:=zh (tG hn).1;have Hn:=zh hn
 obtain⟨w0,A,c,A2,c2,A3,c3,rfl,rfl,rfl,eV,hm,fJ,fB,HA,bK,aT,H,dL,dR,dU⟩:=zB h;clear h
 clear hn eS;have hmm:=@run_makeMap Tryz.prog;obtain⟨b,ay⟩:∃b,b=w.heap.size+1:=⟨_,rfl⟩
 have hb:b=w0.heap.size:=by rw[ay,bK.out];simp
 have eD:=zh ay;obtain⟨w1,ou⟩:∃w1,w1=w0.alloc (.map #[] 0):=⟨_,rfl⟩
 have cY:aa w0 w1:=by rw[ou];exact ag _ (ad _)
 have rP:Hid (w1.ownsMap Tryz.prog 3 vy b 0 (.map [])):=by rw[ou,hb];exact World.ownsMap_made _ _ _ _
 have dC:=zh cY;have Hb:=zh hb;have Q_:=zh ou
 have IG:Hid (w0.heap.size<=b):=by rw[hb];exact Nat.le_refl _
 have Y4:Hid (b+1=w1.heap.size):=by show _=_;rw[hb,ou];simp
 clear ou hb ay
 go_enter Tryz.func80,Tryz.ntmps80
 go_upto_region 2 with(fail);rw[<- bK.out,<- Q_.out,<- eD.out];go_wp2_with fail;refine(fV _ _ _ n w1 (H.out.keep dC.out.below) Hn.out).mono ?_;rintro e w2 ⟨u2,rfl,dl,bj⟩
 obtain⟨gc,cc,rfl⟩:∃gc cc,u2=.slice (some ⟨gc,0,none⟩) n.ends.length cc:=by
  obtain⟨x,hx⟩:=aM (bn n) 0 (by simp[bn];omega)
  obtain⟨g,c,h1,-⟩:=ma dl hx
  exact⟨g,c,by rw[h1];simp[bn]⟩
 have kC:=zh (Below.ownsMap rP.out bj)
 have b_:Hid (Below b w0 w2):=(dC.out.below.mono (by have:=Hb.out;omega)).trans (bj.mono (by have:=Y4.out;omega))
 obtain⟨B,hB⟩:∃B,B=w2.heap.size:=⟨_,rfl⟩
 have WV:Hid (b+1<=B):=by show _<=_;rw[hB,Y4.out];exact bj.size
 have WW:Hid (∀W,(∀j,j<B->j≠b->W.heap[j]?=w2.heap[j]?)->Own W w1.heap.size (.slice (some ⟨gc,0,none⟩) n.ends.length cc) (bn n)):=fun W hW=>aK dl (fun j hj=>by
  have h5:=World.ownsRow.lt dl j (by simpa using hj);have h6:=Y4.out
  exact hW j (by omega) (by omega))
 have vz:Hid (B<=w2.heap.size):=by rw[hB];exact Nat.le_refl _
 clear dl bj cY hmm hB;go_wp2
 go_loopw [10] (fun i wr=>∃k D U m,k<=n.ends.length/\m=2*k/\i=.int .i64 (k:Nat)/\wr.ownsMap Tryz.prog 3 vy b m D/\ic n wr B k k D U/\(∀j,j<B->j≠b->wr.heap[j]?=w2.heap[j]?)/\Below b w0 wr/\B<=wr.heap.size) (fun i _=>n.ends.length-(intOf i).toNat)
 case atStart=>exact⟨0,_,_,0,Nat.zero_le _,rfl,rfl,kC.out,ic.zero n _ _,fun j _ _=>rfl,b_.out,vz.out⟩
 case round=>
  obtain⟨k,D,U,m,hk,LK,rfl,hm,Ff,Jb,hs,hBr⟩:=hrel;have Hm:=zh hm;have Jc:=zh Ff;have NJ:=zh Jb;have Hs:=zh hs;have WX:=zh hBr;clear hm Ff Jb hs hBr
  by_cases hlt:k<n.ends.length
  ·have m3:IntKind.i64.wrap ((k:Int)+1)=(k:Int)+1:=aF _ (by omega) (by omega);obtain⟨p,hp⟩:∃p,ai n k=p:=⟨_,rfl⟩
   have qH:p<=1000000:=by rw[<- hp];have:=cM Hn.out hlt;omega
   have c1:=(WW.out wr NJ.out).cell (show(bn n)[k]?=some (p:Int)by rw[<- hp];unfold bn;rw[List.getElem?_map,List.getElem?_range hlt];rfl)
   have Hp:=zh hp;obtain⟨up,ox⟩:∃up,U p=up:=⟨_,rfl⟩
   have Fg:=zh ox
   have Hv:Hid (vy up=some (D.atKey (kI p) zD,[])):=by have:=Jc.out.val p;rwa [ox]at this
   have Hw:Hid (Own wr B up ((cS n p k).map Int.ofNat)):=by have:=Jc.out.own p;rwa [ox]at this
   have SC:m<=1000000:=by omega
   have Hmk:=zh LK;clear hp ox LK
   go_upto_region 6 with(first | (at_lookup;refine xD rfl _ _ rfl b m D rfl Hm.out p qH rfl up Hv.out ?_) | (at_builtin;refine tt rfl _ _ rfl rfl Hw.out none 0 rfl ?_) | (at_mapUpdate;refine Am rfl _ _ _ rfl b m D rfl Hm.out SC p qH rfl up rfl _ Hv.out ?_;intro w3 DP xC;have kK:=zh DP;have Qd:=zh xC;clear DP xC))
   obtain⟨D3,hD3⟩:∃D3,D.put (kI p) (D.atKey (kI p) zD)=D3:=⟨_,rfl⟩
   rw[hD3]at kK
   have Ra:Hid (ic n w3 B k (k+1) D3 U):=by
    have h7:=Jc.out.lay;rw[Hp.out,hD3]at h7
    exact h7.aeb (fun j hj yQ=>Qd.out.block j yQ (fun e=>by simp only[Option.some.injEq]at e;have:=WV.out;omega))
   have NK:Hid (∀j,j<B->j≠b->w3.heap[j]?=w2.heap[j]?):=fun j hj gM=>(Qd.out.block j (Nat.lt_of_lt_of_le hj WX.out) (fun e=>by simp only[Option.some.injEq]at e;exact gM e)).trans (NJ.out j hj gM)
   have ew:Hid (Below b w0 w3):=Below.grown Hs.out Qd.out (Nat.le_of_lt Hm.out.lt) (fun j hj=>by simp only[Option.some.injEq]at hj;omega)
   have Qb:Hid (B<=w3.heap.size):=Nat.le_trans WX.out Qd.out.size
   have Hv3:Hid (vy up=some (D3.atKey (kI p) zD,[])):=by have:=Ra.out.val p;rwa [Fg.out]at this
   have xc:Hid (Own w3 B up ((cS n p k).map Int.ofNat)):=by have:=Ra.out.own p;rwa [Fg.out]at this
   have Y5:aa w0 w3:=ew.out.mono (Nat.le_trans IG.out (Nat.le_refl _)) |> fun h=>h
   obtain⟨x,hx⟩:=aM n.aea k (by rw[si.out];exact hlt)
   obtain⟨A9,c9,e9,-,-,BX⟩:=H.out.ns;cases e9;obtain⟨b9,abY,e8,WT⟩:=BX k x hx;subst e8;have i1:=bc Y5 WT;have q2:=dU w3 Y5
   have oo:k<n.aea.length:=by rw[si.out];exact hlt
   have Hx:Hid (n.aea.getD k 0=x):=au hx;clear c1 hD3 BX WT hx Hm Jc NJ Hs WX Hv Hw
   by_cases h1:x=1
   ·subst h1
    have abZ:m+1<=1000000:=by have:=Hmk.out;omega
    have cJ:Hid (((cS n p k).map Int.ofNat).length+1<=17592186044416):=by show _<=_;rw[List.length_map];have:=Gk n p k;omega
    go_wp2_with (first | (at_lookup;refine xD rfl _ _ rfl b (m+1) D3 rfl kK.out p qH rfl up Hv3.out ?_) | (at_builtin;refine lZ rfl _ _ rfl rfl (xc.out.keep (ag _ (ad _))) w3.heap.size k rfl (by simp[go_sem]) cJ.out (Nat.le_trans Qb.out (by simp)) ?_;intro g cx w4 oH y6 Te Rb;have ut:=zh oH;have UM:=zh y6;have Hl4:=zh Te;have ab0:=zh Rb;have sG:Hid (w4.ownsMap Tryz.prog 3 vy b (m+1) D3):=(kK.out.alloc _).kept y6 (fun e=>by have h8:=(World.ownsRow.lt xc.out b e.symm).1;have:=WV.out;omega);clear oH y6 Te Rb) | (at_mapUpdate;refine Am rfl _ _ _ rfl b (m+1) D3 rfl sG.out abZ p qH rfl _ rfl _ rfl ?_;intro w5 Tf pt;have ke:=zh Tf;have UN:=zh pt;clear Tf pt))
    have Gx:∀j,j<w3.heap.size->j≠b->up.ownBlock≠some j->w5.heap[j]?=w3.heap[j]?:=fun j hj gM iA=>by
     have h8:w4.heap[j]?=(w3.alloc (.cells #[.int .i64 k] 3)).heap[j]?:=UM.out.block j (by simp;omega) (fun e=>iA e.symm)
     have h9:=UN.out.block j (by have:=UM.out.size;simp at this;omega) (fun e=>by simp only[Option.some.injEq]at e;exact gM e)
     rw[h9,h8];exact Below.heap_alloc w3 _ j hj
    have Qa:∀j,up.ownBlock=some j->B<=j:=fun j hj=>(World.ownsRow.lt xc.out j hj).1
    have LQ:(U p).ownBlock=some g\/w3.heap.size<=g:=by
     rw[Fg.out];rcases Hl4.out with h8 | h8
     ·exact .inl h8
     ·exact .inr (by rw[h8];simp)
    have hBg:B<=g:=by
     rcases LQ with h8 | h8
     ·rw[Fg.out]at h8;exact Qa g h8
     ·exact Nat.le_trans Qb.out h8
    have hL5:=Ra.out.grow (w':=w5) (u:=.slice (some ⟨g,0,none⟩) (((cS n p k).map Int.ofNat).length+1) cx) (g:=g) (by rw[Hx.out])
     (by
      rw[Hp.out]
      exact aK ut.out (fun j hj=>by
       have h8:j=g:=by simpa[Value.ownBlock,eq_comm]using hj
       subst h8
       exact UN.out.block j ab0.out (fun e=>by simp only[Option.some.injEq]at e;have:=WV.out;omega))) rfl (by simp[Value.ownBlock]) (by rw[Hp.out];exact LQ)
     (fun j hj yQ iA=>Gx j yQ (by have:=WV.out;omega) (by rw[Hp.out,Fg.out]at iA;exact iA))
    rw[Hp.out]at hL5;have Y6:=zh hL5
    have UO:Hid (∀j,j<B->j≠b->w5.heap[j]?=w2.heap[j]?):=fun j hj gM=>(Gx j (Nat.lt_of_lt_of_le hj Qb.out) gM (fun e=>by have:=Qa j e;omega)).trans (NK.out j hj gM)
    have nl:Hid (Below b w0 w5):=Below.grown (Below.grown (ew.out.alloc (Nat.le_of_lt kK.out.lt) _) UM.out (by have:=kK.out.lt;simp;omega) (fun j hj=>by have:=Qa j hj;have:=WV.out;omega)) UN.out (Nat.le_of_lt sG.out.lt) (fun j hj=>by simp only[Option.some.injEq]at hj;omega)
    have UP:Hid (B<=w5.heap.size):=by show _<=_;have h7:=Qb.out;have h8:=UM.out.size;have h9:=UN.out.size;simp at h8;omega
    clear hL5 Gx Qa LQ hBg;go_roundw
    case rel=>exact⟨k+1,_,_,m+1+1,by omega,by have:=Hmk.out;omega,by first | rfl | go_num,ke.out,Y6.out,UO.out,nl.out,UP.out⟩
    case measure=>simp[intOf];omega
   ·have lW:(x==1)=false:=by simpa using h1
    have HL4:Hid (ic n w3 B (k+1) (k+1) D3 U):=Ra.out.skip (by rw[Hx.out];exact h1)
    clear h1;go_wp2;go_roundw
    case rel=>exact⟨k+1,_,_,m+2,by omega,by have:=Hmk.out;omega,by first | rfl | go_num,kK.out.mono (by omega),HL4.out,NK.out,ew.out,Qb.out⟩
    case measure=>simp[intOf];omega
  ·obtain rfl:k=n.ends.length:=by omega
   clear hk hlt;go_wp2;go_ret;refine⟨b,D,U,rfl,Hm.out.mono (by omega),?_,Nat.le_trans aT.out.size IG.out,Below.trans aT.out (Hs.out.mono (Nat.le_trans aT.out.size IG.out))⟩;have h7:=Jc.out;exact⟨h7.map,h7.val,fun p=>(h7.own p).mono WV.out,h7.dis,h7.keys,h7.all⟩
def DQ (w:World) (v:Value) (CK:List (List Int)):Prop:=
 ∃(A:Option Addr) (c:Nat),v=.slice A CK.length c/\CK.length<=c/\c<=maxLen /\
  (∀k xs,CK[k]?=some xs->∃b off u,A=some ⟨b,off,none⟩/\w.cell? ⟨b,off+k,none⟩=some u/\aY w u xs)
theorem DQ.keep {w w':World} {v:Value} {xs:List (List Int)} (h:DQ w v xs) (hb:Below w.heap.size w w'):DQ w' v xs:=by
 obtain⟨A,c,hv,hc,hm,hA⟩:=h;refine⟨A,c,hv,hc,hm,fun k x hk=>?_⟩
 obtain⟨b,off,u,A_,h1,h2⟩:=hA k x hk;exact⟨b,off,u,A_,bc hb h1,h2.keep hb⟩
def qQ:World->Nat->Value->List (List Int)->List Nat->Prop:=ca 25 k9
theorem Y7:fL qQ:=k8 _ iy
theorem k9.read {w:World} {base:Nat} {v:Value} {xs:List Int} {S:List Nat} (h:k9 w base v xs S):aY w v xs:=h.1.ints
theorem qQ.read {w:World} {base:Nat} {v:Value} {ix:List (List Int)} {S:List Nat} (h:qQ w base v ix S):DQ w v ix:=by
 obtain⟨vs,Ss,h1,h2,h3,h4,h5⟩:=h;rcases dz h1 with⟨rfl,h0⟩ | ⟨g,c,rfl,hb,hg,hc,hm⟩
 ·obtain rfl:ix=[]:=List.eq_nil_of_length_eq_zero h0
  exact⟨none,0,rfl,Nat.le_refl _,Nat.zero_le _,fun k x hk=>by simp at hk⟩
 ·have hvl:vs.length=ix.length:=by simpa using h1.1
  refine⟨_,c,rfl,hc,hm,fun k x hk=>?_⟩
  have hlt:=an hk;obtain⟨u,hu⟩:=aM vs k (by omega);obtain⟨T,hT⟩:=aM Ss k (by omega)
  exact⟨g,0,u,rfl,by rw[Nat.zero_add,h1.cellAt (cap:=c) _ (by omega)];exact hu,k9.read (h3 k u x T hu hk hT)⟩
theorem KH:(Tryz.prog.info? 25).map (fun i=>(i.zero,i.size,i.bytes))=some (some (.slice none 0 0),1,24):=by kernel_rfl
section
variable {ops : Array Oper} {rest : List Oper} {o : Oper} {a : Act} {Q : Exit → Act → World → Prop}
theorem NL (w:World) (hg:o.guard=none) (l c:Operand) (qv:o.op=Op.makeSlice 30 l c) (n:Nat) (hl:a.eval l=.int .i64 (n:Int)) (hc:a.eval c=.int .i64 (n:Int)) (hn:n<=1048576)
  (hK:∀w',qQ w' w.heap.size (.slice (some ⟨w.heap.size,0,none⟩) n n) (List.replicate n []) [w.heap.size]->Below w.heap.size w w'->wpList Tryz.prog ops Q rest (a.put o.dst (.slice (some ⟨w.heap.size,0,none⟩) n n)) w'):wpList Tryz.prog ops Q (o::rest) a w:=by
 obtain⟨i0,hi,il,dV,d8⟩:=info_parts KH;refine wpList_plain hg fun K hK'=>?_
 have hr:=run_make (P:=Tryz.prog) w 30 25 i0 (.slice none 0 0) Tryz.underlying30 hi il .i64 .i64 n n (by omega) (Int.le_refl _) (by rw[d8];omega) (by omega)
 rw[dV]at hr;simp only[Int.toNat_natCast]at hr;rw[show(Value.slice none 0 0).cells=#[Value.slice none 0 0]from rfl,wP]at hr
 unfold Oper.wp;simp only[execOp,qv,hl,hc,Sem.run_bind,hr,Result.andThen_ok,Sem.run_pure];refine hK' _ _ (hK _ ?_ (am _ _))
 have:=ca.made (R:=k9) (e:=25) n (by simp[maxLen];omega) j7 w
 rw[List.toArray_replicate]at this;exact this
end
theorem ca.snoc {β:Type} {R:World->Nat->Value->β->List Nat->Prop} {e:TypeId} (L:fL R) {w w':World} {base g cap:Nat} {v u:Value} {xs:List β} {x:β} {S T:List Nat} (h:ca e R w base v xs S) (hu:R w base u x T) (hd:∀j∈T,j∉S)
  (vs:List Value) (Ss:List (List Nat)) (h1:w.ownsRow base e 1 v xs.length vs) (h2:Ss.length=xs.length) (h3:∀(k:Nat) u x T,vs[k]?=some u->xs[k]?=some x->Ss[k]?=some T->R w base u x T) (h4:S=v.ownBlock.toList++Ss.flatten) (h5:S.Nodup)
  (q1:w'.ownsRow base e 1 (.slice (some ⟨g,0,none⟩) (xs.length+1) cap) (xs.length+1) (vs++[u])) (q2:w.grownBy w' v.ownBlock) (q3:v.ownBlock=some g\/g=w.heap.size):
  ∃S',ca e R w' base (.slice (some ⟨g,0,none⟩) (xs.length+1) cap) (xs++[x]) S'/\(∀j∈S',j∈S\/j∈T\/j=w.heap.size):=by
 have hS:=(k8 e L).range h;have hTr:=L.range hu;have hvl:vs.length=xs.length:=by simpa using h1.1
 have wH:=h5;rw[h4,List.nodup_append]at wH
 have eU:∀j∈Ss.flatten,j∈S:=fun j hj=>by rw[h4];exact List.mem_append_right _ hj
 have eY:=bg.aee q2;have MM:∀j∈Ss.flatten,j∉v.ownBlock.toList:=fun j hj hv=>wH.2.2 j hv j hj rfl
 have XR:∀j∈T,j∉v.ownBlock.toList:=fun j hj hv=>hd j hj (by rw[h4];exact List.mem_append_left _ hv)
 have hg:g∉Ss.flatten:=fun hg=>by
  rcases q3 with q3 | q3
  ·exact MM g hg (by rw[q3];simp)
  ·have:=(hS g (eU g hg)).2;omega
 have Mp:g∉T:=fun hg=>by
  rcases q3 with q3 | q3
  ·exact XR g hg (by rw[q3];simp)
  ·have:=(hTr g hg).2;omega
 refine⟨[g]++(Ss++[T]).flatten,⟨vs++[u],Ss++[T],?_,by simp[h2],?_,by simp[Value.ownBlock],?_⟩,?_⟩
 ·rw[List.length_append];exact q1
 ·intro k u' x' T' CA EW tf;rcases Nat.lt_or_ge k xs.length with hk | hk
  ·rw[List.getElem?_append_left (by omega)]at CA EW tf;exact L.only (h3 k u' x' T' CA EW tf) eY (fun j hj=>MM j (List.mem_flatten.2 ⟨T',List.mem_of_getElem? tf,hj⟩))
  ·have lc:k=xs.length:=by
    have:=an EW
    simp at this;omega
   subst lc;rw[List.getElem?_append_right (Nat.le_refl _),Nat.sub_self]at EW;rw[<- hvl,List.getElem?_append_right (Nat.le_refl _),Nat.sub_self]at CA;rw[<- h2,List.getElem?_append_right (Nat.le_refl _),Nat.sub_self]at tf;simp at CA EW tf
   subst CA EW tf;exact L.only hu eY XR
 ·rw[List.flatten_append,List.nodup_append];refine⟨by simp,?_,?_⟩
  ·rw[List.nodup_append];refine⟨wH.2.1,by simpa using L.nodup hu,?_⟩
   intro a ha b hb e;simp at hb
   subst e;exact hd a hb (eU a ha)
  ·intro a ha b hb e;simp at ha
   subst e ha;rcases List.mem_append.1 hb with hb | hb
   ·exact hg hb
   ·simp at hb;exact Mp hb
 ·intro j hj;rw[List.flatten_append]at hj;rcases List.mem_append.1 hj with hj | hj
  ·simp at hj
   subst hj;rcases q3 with q3 | q3
   ·left;rw[h4,q3];simp
   ·exact .inr (.inr q3)
  ·rcases List.mem_append.1 hj with hj | hj
   ·exact .inl (eU j hj)
   ·simp at hj;exact .inr (.inl hj)
def Y8 (b:Bool):List Value:=[.bool b]
theorem tJ (xs:List Bool):xs.flatMap Y8=xs.map Value.bool:=by
 induction xs with
 | nil=>rfl
 | cons x xs ih=>rw[List.flatMap_cons,ih];rfl
def lw:World->Nat->Value->List Bool->List Nat->Prop:=Mo 4 1 Y8
theorem KI:fL lw:=CV _ _ _
def md:World->Nat->Value->List (List Bool)->List Nat->Prop:=ca 198 lw
theorem uL:fL md:=k8 _ KI
theorem KJ:(Tryz.prog.info? 4).map (fun i=>(i.zero,i.size,i.bytes))=some (some (.bool false),1,1):=by kernel_rfl
theorem KK:(Tryz.prog.info? 198).map (fun i=>(i.zero,i.size,i.bytes))=some (some (.slice none 0 0),1,24):=by kernel_rfl
theorem lw.row {w:World} {base:Nat} {v:Value} {xs:List Bool} {S:List Nat} (h:lw w base v xs S):w.ownsRow base 4 1 v xs.length (xs.map Value.bool):=by
 have:=h.1
 rwa [tJ]at this
theorem lw.mk {w:World} {base:Nat} {v:Value} {xs:List Bool} (h:w.ownsRow base 4 1 v xs.length (xs.map Value.bool)):lw w base v xs v.ownBlock.toList:=⟨by rw[tJ];exact h,rfl⟩
theorem lw.cell {w:World} {base g c n:Nat} {xs:List Bool} {S:List Nat} {k:Nat} {x:Bool} (h:lw w base (.slice (some ⟨g,0,none⟩) n c) xs S) (hk:xs[k]?=some x):w.cell? ⟨g,k,none⟩=some (.bool x):=by
 have h':=h.row;obtain rfl:=f7 h'
 have hlt:k<xs.length:=an hk
 rw[World.ownsRow.cellAt h' k (by omega)];simp[hk]
theorem lw.set {w:World} {base g c n:Nat} {xs:List Bool} {S:List Nat} (k:Nat) (x:Bool) (h:lw w base (.slice (some ⟨g,0,none⟩) n c) xs S):lw (w.setCell ⟨g,k,none⟩ (.bool x)) base (.slice (some ⟨g,0,none⟩) n c) (xs.set k x) S:=by
 have hS:=h.2;have h':=h.row;obtain rfl:=f7 h'
 have:=(World.ownsRow.stored h' k (.bool x)).1
 refine⟨?_,hS⟩;rw[tJ,List.length_set,List.map_set];exact this
def DR (w:World) (v:Value) (xs:List Bool):Prop:=
 ∃(A:Option Addr) (c:Nat),v=.slice A xs.length c/\xs.length<=c/\c<=maxLen/\∀k x,xs[k]?=some x->∃b off,A=some ⟨b,off,none⟩/\w.cell? ⟨b,off+k,none⟩=some (.bool x)
def pu (w:World) (v:Value) (CK:List (List Bool)):Prop:=
 ∃(A:Option Addr) (c:Nat),v=.slice A CK.length c/\CK.length<=c/\c<=maxLen /\
  (∀k xs,CK[k]?=some xs->∃b off u,A=some ⟨b,off,none⟩/\w.cell? ⟨b,off+k,none⟩=some u/\DR w u xs)
theorem DR.keep {w w':World} {v:Value} {xs:List Bool} (h:DR w v xs) (hb:Below w.heap.size w w'):DR w' v xs:=by
 obtain⟨A,c,hv,hc,hm,hA⟩:=h;refine⟨A,c,hv,hc,hm,fun k x hk=>?_⟩
 obtain⟨b,off,A_,h1⟩:=hA k x hk;exact⟨b,off,A_,bc hb h1⟩
theorem pu.keep {w w':World} {v:Value} {xs:List (List Bool)} (h:pu w v xs) (hb:Below w.heap.size w w'):pu w' v xs:=by
 obtain⟨A,c,hv,hc,hm,hA⟩:=h;refine⟨A,c,hv,hc,hm,fun k x hk=>?_⟩
 obtain⟨b,off,u,A_,h1,h2⟩:=hA k x hk;exact⟨b,off,u,A_,bc hb h1,h2.keep hb⟩
theorem lw.read {w:World} {base:Nat} {v:Value} {xs:List Bool} {S:List Nat} (h:lw w base v xs S):DR w v xs:=by
 rcases dz h.row with⟨rfl,h0⟩ | ⟨g,c,rfl,hb,hg,hc,hm⟩
 ·obtain rfl:xs=[]:=List.eq_nil_of_length_eq_zero h0
  exact⟨none,0,rfl,Nat.le_refl _,Nat.zero_le _,fun k x hk=>by simp at hk⟩
 ·exact⟨_,c,rfl,hc,hm,fun k x hk=>⟨g,0,rfl,by rw[Nat.zero_add];exact h.cell hk⟩⟩
theorem md.read {w:World} {base:Nat} {v:Value} {ix:List (List Bool)} {S:List Nat} (h:md w base v ix S):pu w v ix:=by
 obtain⟨vs,Ss,h1,h2,h3,h4,h5⟩:=h;rcases dz h1 with⟨rfl,h0⟩ | ⟨g,c,rfl,hb,hg,hc,hm⟩
 ·obtain rfl:ix=[]:=List.eq_nil_of_length_eq_zero h0
  exact⟨none,0,rfl,Nat.le_refl _,Nat.zero_le _,fun k x hk=>by simp at hk⟩
 ·have hvl:vs.length=ix.length:=by simpa using h1.1
  refine⟨_,c,rfl,hc,hm,fun k x hk=>?_⟩
  have hlt:=an hk;obtain⟨u,hu⟩:=aM vs k (by omega);obtain⟨T,hT⟩:=aM Ss k (by omega)
  exact⟨g,0,u,rfl,by rw[Nat.zero_add,h1.cellAt (cap:=c) _ (by omega)];exact hu,lw.read (h3 k u x T hu hk hT)⟩
theorem KL (w:World) (base:Nat):md w base (.slice none 0 0) [] []:=⟨[],[],World.ownsRow_nil w base _ _,rfl,fun k u x T h=>by simp at h,by simp[Value.ownBlock],by simp⟩
section
variable {ops : Array Oper} {rest : List Oper} {o : Oper} {a : Act} {Q : Exit → Act → World → Prop}
theorem NM (w:World) (hg:o.guard=none) (l c:Operand) (qv:o.op=Op.makeSlice 198 l c) (L C:Int) (n:Nat) (hl:a.eval l=.int .i64 L) (hc:a.eval c=.int .i64 C) (hL:L=(n:Int)) (hC:C=(n:Int)) (hn:n<=17592186044416)
  (hK:∀w',lw w' w.heap.size (.slice (some ⟨w.heap.size,0,none⟩) n n) (List.replicate n false) [w.heap.size]->Below w.heap.size w w'->wpList Tryz.prog ops Q rest (a.put o.dst (.slice (some ⟨w.heap.size,0,none⟩) n n)) w'):wpList Tryz.prog ops Q (o::rest) a w:=by
 obtain⟨i0,hi,il,dV,d8⟩:=info_parts KJ
 refine wpList_make_full w hg l c 198 qv w.heap.size 4 i0 (.bool false) 1 Tryz.underlying198 hi il dV .i64 .i64 L C n hl hc hL hC (by rw[d8];omega) (by unfold maxLen;omega) (Nat.le_refl _) ?_
 intro w' ho zF
 have lU:lw w' w.heap.size (.slice (some ⟨w.heap.size,0,none⟩) n n) (List.replicate n false) (Value.slice (some ⟨w.heap.size,0,none⟩) n n).ownBlock.toList:=by
  refine lw.mk ?_;rw[List.length_replicate,List.map_replicate];rw[show(Value.bool false).cells=#[Value.bool false]from rfl,toList_madeCells_one]at ho
  simpa using ho
 exact hK w' lU (tY zF)
theorem KM {w:World} (iY:o.guard=none) (s x:Operand)
  (ho:o.op=.call { callee:=.builtin .append,args:=#[s,x],argTypes:=#[196,196] }) {base:Nat} {v u:Value} {CK:List (List Bool)} {S T:List Nat} {xs:List Bool} (hs:a.eval s=v) (h:md w base v CK S)
  (b:Nat) (hx:a.eval x=.slice (some ⟨b,0,none⟩) 1 1) (hc:w.cell? ⟨b,0,none⟩=some u) (hu:lw w base u xs T) (hd:∀j∈T,j∉S) (hl:CK.length+1<=4000000) (CE:base<=w.heap.size)
  (k:∀g cap w' S',md w' base (.slice (some ⟨g,0,none⟩) (CK.length+1) cap) (CK++[xs]) S'->Below base w w'->wpList Tryz.prog ops Q rest (a.put o.dst (.slice (some ⟨g,0,none⟩) (CK.length+1) cap)) w'):wpList Tryz.prog ops Q (o::rest) a w:=by
 obtain⟨i0,hi,il,dV,d8⟩:=info_parts KK;have hvr:=uL.range h;have h1b:=h;obtain⟨vs,Ss,r1,r2,r3,r4,r5⟩:=h;obtain⟨A,m,c,rfl⟩:=KI.one hu
 refine wpList_append_lies w iY s x 196 ho base 198 i0 _ 1 24 Tryz.underlying196 hi il dV d8 rfl (by decide) v CK.length vs hs r1 ⟨b,0,none⟩ 1 1 [.slice A m c] hx rfl
  (by intro j u hj;match j,hj with | 0,hj=>(simp at hj;subst hj;simpa[Addr.add]using hc) | j+1,hj=>simp at hj) (by simp[Value.oneCell']) (by omega) (by unfold maxLen;omega) (by omega) CE w.heap.size rfl ?_
 intro g cap w' q1 q2 q3 q4;obtain⟨S',o1,-⟩:=ca.snoc KI h1b hu hd vs Ss r1 r2 r3 r4 r5 q1 q2 q3
 exact k g cap w' S' o1 (Below.grown (Below.refl base w |>.mono (Nat.le_refl _)) q2 CE (fun q hq=>(hvr q (by rw[r4,hq];simp)).1))
end
def kL (n:ak) (k:Nat):List (List Bool):=(n.ends.take k).map fun es=>List.replicate es.length true
theorem Gy {n:ak} {k:Nat} {es:List (Int×Int)} (h:n.ends[k]?=some es):kL n (k+1)=kL n k++[List.replicate es.length true]:=by
 unfold kL;rw[bh h,List.map_append];rfl
theorem pX {n:ak} {k:Nat} (h:k<=n.ends.length):(kL n k).length=k:=by simp[kL];omega
theorem KN (ve vi vn:Value) (n:ak) (w:World) (h:aQ w ve vi vn n) (hn:al n=true):
  Calls Tryz.prog 238 #[.agg #[ve,vi,vn]] w fun e w'=>∃u S,e=.returned u/\md w' w.heap.size u (kL n n.ends.length) S/\Below w.heap.size w w':=by
 have eS:=aE hn;have rg:=eS.1;have rh:=eS.2;have Hn:=zh hn
 obtain⟨w0,A,c,A2,c2,A3,c3,rfl,rfl,rfl,eV,hm,fJ,fB,HA,bK,aT,H,dL,dR,dU⟩:=zB h;clear h
 have bB:aa w0 w0:=ad _;clear hn eS
 go_enter Tryz.func238,Tryz.ntmps238
 go_upto_region 1 with(fail);rw[<- bK.out];go_wp2
 go_loopw [3,11] (fun u i wr=>∃(k:Nat) (S:List Nat),k<=n.ends.length/\i=.int .i64 k/\md wr w0.heap.size u (kL n k) S/\aa w0 wr) (fun _ i _=>n.ends.length-(intOf i).toNat)
 case atStart=>exact⟨0,[],Nat.zero_le _,rfl,KL _ _,bB⟩
 case round=>
  obtain⟨k,S,hk,rfl,ho,bA⟩:=hrel;have Ho:=zh ho;have Hs:=zh bA;clear bB ho
  by_cases hlt:k<n.ends.length
  ·obtain⟨es,bW⟩:=aM n.ends k hlt;have vj:=(bX Hn.out bW).1;obtain⟨b,y4,cr,ur,g_,Bk,dS,yH⟩:=gy H.out.es bW;cases g_;obtain⟨A1,z1,rfl,dV,d8,g_⟩:=yH;unfold maxLen at d8;have r1:=ah (ae dS) Hs.out;have q5:=r1 wr (ad _);have m4:IntKind.i64.wrap ((k:Int)+1)=(k:Int)+1:=aF _ (by omega) (by omega);have oy:=zh (Gy bW)
   have cJ:Hid ((kL n k).length+1<=4000000):=by show _<=_;rw[pX hk];omega
   clear bW dS g_
   go_wp2_with (at_make;refine NM _ rfl _ _ rfl _ _ es.length rfl rfl rfl rfl (by omega) ?_;intro w1 dT ay)
   obtain⟨g,hg⟩:∃g,g=wr.heap.size:=⟨_,rfl⟩
   rw[<- hg]at dT ⊢;have Hg:=zh hg
   have rP:Hid (lw w1 g (.slice (some ⟨g,0,none⟩) es.length es.length) (List.replicate 0 true++List.replicate (es.length-0) false) [g]):=by show lw _ _ _ _ _;simpa using dT
   have HR1:=zh (uL.keep Ho.out ay);have dC:Hid (aa w0 w1):=Hs.out.after ay
   have HSg:Hid (∀j∈S,j<g):=fun j hj=>by rw[hg];exact(uL.range Ho.out j hj).2
   have Gz:Hid (w0.heap.size<=g):=by show _<=_;rw[hg];exact Hs.out.below.size
   clear dT ay hg bA;go_wp2
   go_loopw [20] (fun i wq=>∃j:Nat,j<=es.length/\i=.int .i64 j/\lw wq g (.slice (some ⟨g,0,none⟩) es.length es.length) (List.replicate j true++List.replicate (es.length-j) false) [g]/\md wq w0.heap.size u3 (kL n k) S/\aa w0 wq) (fun i _=>es.length-(intOf i).toNat)
   case atStart=>exact⟨0,Nat.zero_le _,rfl,rP.out,HR1.out,dC.out⟩
   case round=>
    obtain⟨j,hj,rfl,zX,Y9,po⟩:=hrel;have P6:=zh zX;have Y_:=zh Y9;have jJ:=zh po;clear zX Y9
    by_cases mH:j<es.length
    ·have m3:IntKind.i64.wrap ((j:Int)+1)=(j:Int)+1:=aF _ (by omega) (by omega)
     obtain⟨y,hy⟩:=aM (List.replicate j true++List.replicate (es.length-j) false) j (by simp;omega)
     have cz:=P6.out.cell hy;have fz:=rT P6.out.row j
     have He:Hid ((List.replicate j true++List.replicate (es.length-j) false).set j true=List.replicate (j+1) true++List.replicate (es.length-(j+1)) false):=by
      show _=_
      rw[List.set_append_right _ _ (by simp),List.length_replicate,Nat.sub_self,show es.length-j=(es.length-(j+1))+1 by omega,List.replicate_succ,List.set_cons_zero,List.replicate_succ',List.append_assoc]
      rfl
     clear hy po;go_wp2;go_roundw
     case rel=>exact⟨j+1,by omega,by first | rfl | go_num,by rw[<- He.out];exact P6.out.set j true,uL.aeb Y_.out (fun i hi=>Below.heap_setCell wr _ _ i (by have:=HSg.out i hi;show i≠g;omega)),Below.setCell jJ.out Gz.out _⟩
     case measure=>simp[intOf];omega
    ·obtain rfl:j=es.length:=by omega
     have vz:Hid (lw wr w0.heap.size (.slice (some ⟨g,0,none⟩) es.length es.length) (List.replicate es.length true) [g]):=by
      have:=P6.out
      rw[Nat.sub_self,List.replicate_zero,List.append_nil]at this;exact KI.mono this Gz.out
     obtain⟨wA,L7⟩:∃wA,wA=wr.alloc (.cells #[.slice (some ⟨g,0,none⟩) es.length es.length] 198):=⟨_,rfl⟩
     have Tg:Hid (aa w0 wA):=by rw[L7];exact ag _ jJ.out
     have HBA:Hid (lw wA w0.heap.size (.slice (some ⟨g,0,none⟩) es.length es.length) (List.replicate es.length true) [g]):=by rw[L7];exact KI.keep vz.out (am _ _)
     have HOA:Hid (md wA w0.heap.size u3 (kL n k) S):=by rw[L7];exact uL.keep Y_.out (am _ _)
     have HcA:Hid (wA.cell? ⟨wr.heap.size,0,none⟩=some (.slice (some ⟨g,0,none⟩) es.length es.length)):=by show _=_;rw[L7];simp
     have HwA:=zh L7
     have HD:Hid (∀j∈[g],j∉S):=fun j hj hS=>by have:=HSg.out j hS;simp at hj;omega
     clear L7 po
     go_wp2_with (at_builtin;rw[<- HwA.out];refine KM rfl _ _ rfl rfl HOA.out wr.heap.size rfl HcA.out HBA.out HD.out cJ.out Tg.out.below.size ?_;intro g3 Dy w3 S3 eH bN;have i8:=zh eH;have Jd:=zh bN;clear eH bN)
     go_wp2;go_roundw
     case rel=>exact⟨k+1,S3,by omega,by first | rfl | go_num,by rw[oy.out];exact i8.out,Below.trans Tg.out Jd.out⟩
     case measure=>simp[intOf];omega
  ·obtain rfl:k=n.ends.length:=by omega
   obtain⟨A9,m9,c9,rfl⟩:=uL.one Ho.out;clear hk hlt bA;go_wp2;go_ret;exact⟨_,_,rfl,uL.mono Ho.out aT.out.size,aa.after aT.out Hs.out⟩
theorem An {n:ak} (h:al n=true):n.ids.length<=40:=by
 have hl:=aE h;unfold al at h;simp only[Bool.and_eq_true]at h;have h2:=h.1.1.2;unfold vb at h2;rw[Bool.or_eq_true]at h2;rcases h2 with h2 | h2
 ·have:n.ids=[]:=List.isEmpty_iff.1 h2
  rw[this];simp
 ·rw[Bool.and_eq_true]at h2
  have:(n.ids.length:Int)=n.ends.length:=by simpa using h2.1
  omega
def sH (n:ak) (k:Nat):Prop:=((ch n).take k).any (nG n)=false
theorem BY (n:ak):sH n 0:=rfl
theorem DS {n:ak} (h:sH n (ch n).length):ll n=true:=by
 unfold sH at h;rw[List.take_length]at h;unfold ll
 rw[h];rfl
theorem DT {n:ak} {k:Nat} {x:Ed} (hx:(ch n)[k]?=some x) (h:nG n x=true):ll n=false:=by
 unfold ll
 rw[List.any_eq_true.2 ⟨x,List.mem_of_getElem? hx,h⟩];rfl
theorem KO {n:ak} (hn:al n=true) {k:Nat} {x:Ed} (hx:(ch n)[k]?=some x):∃(v i y j:Nat),x=((v:Int),(i:Int),(y:Int),(j:Int))/\v<n.ends.length/\y<n.ends.length:=by
 obtain⟨v,i,f,hv,hp,_,rfl⟩:=b7.1 (List.mem_of_getElem? hx);obtain⟨p1,p2,p3,p4,p5⟩:=df hn hp;exact⟨v,i,f.1.toNat,f.2.toNat,by rw[show((f.1.toNat:Nat):Int)=f.1 by omega,show((f.2.toNat:Nat):Int)=f.2 by omega],hv,by omega⟩
theorem mP (ve vi vn:Value) (n:ak) (w:World) (h:aQ w ve vi vn n) (hn:al n=true):
  Calls Tryz.prog 48 #[.agg #[ve,vi,vn]] w fun e w'=>∃u,e=.returned (.tuple #[u,.bool (ll n)])/\Own w' w.heap.size u (if ll n=true then ml n else [])/\Below w.heap.size w w':=by
 have eS:=aE hn;have rg:=eS.1;have rh:=eS.2
 have si:Hid (n.ids.length<=17592186044416):=by show _<=_;have:=An hn;omega
 have Hn:=zh hn
 obtain⟨w0,A,c,A2,c2,A3,c3,rfl,rfl,rfl,eV,hm,fJ,fB,HA,bK,aT,H,dL,dR,dU⟩:=zB h;clear h
 have bB:aa w0 w0:=ad _;obtain⟨rb,gY⟩:∃rb,ll n=rb:=⟨_,rfl⟩
 have iF:=zh gY;rw[gY];clear hn eS gY
 go_enter Tryz.func48,Tryz.ntmps48
 go_upto_region 1 with(fail);rw[<- bK.out];go_wp2_with fail;refine(j1 _ _ _ n w0 H.out si.out).mono ?_;rw[Hn.out];rintro e w1 ⟨rfl,ay⟩;have dC:Hid (aa w0 w1):=ay;have cY:=dC.out;clear ay bB;go_wp2_with fail;refine(fV _ _ _ n w1 (H.out.keep dC.out.below) Hn.out).mono ?_;rintro e w2 ⟨u2,rfl,dl,bj⟩;have d9:(bn n).length=n.ends.length:=by simp[bn]
 obtain⟨gc,cc,rfl⟩:∃gc cc,u2=.slice (some ⟨gc,0,none⟩) n.ends.length cc:=by
  rcases dl.cases with⟨-,e1⟩ | ⟨gc,cc,rfl,iH,lh⟩
  ·have:=congrArg List.length e1;rw[d9,List.length_nil]at this;omega
  ·exact⟨gc,cc,by rw[d9]⟩
 have eX:=zh dl;have b_:=zh (dC.out.after bj);clear dl bj d9 cY;go_wp2
 go_loopw [4,15] (fun u i wr=>∃k:Nat,k<=n.ends.length/\i=.int .i64 k/\Own wr w2.heap.size u ((List.range k).map (f_ n))/\aa w2 wr) (fun _ i _=>n.ends.length-(intOf i).toNat)
 case atStart=>exact⟨0,Nat.zero_le _,rfl,by simpa using bH _ w2.heap.size,ad _⟩
 case round=>
  obtain⟨k,hk,rfl,ho,bA⟩:=hrel;have Ho:=zh ho;have Hs:=zh bA;clear ho bA
  by_cases hlt:k<n.ends.length
  ·have m3:IntKind.i64.wrap ((k:Int)+1)=(k:Int)+1:=aF _ (by omega) (by omega);obtain⟨p,hp⟩:∃p,p=ai n k:=⟨_,rfl⟩
   have qH:p<n.ends.length:=by rw[hp];exact cM Hn.out hlt
   have c1:=(eX.out.since Hs.out).cell (show(bn n)[k]?=some (p:Int)by rw[hp];unfold bn;rw[List.getElem?_map,List.getElem?_range hlt];rfl)
   have mr:=zh (b_.out.after Hs.out);have qo:=mr.out;have Hp:=zh hp
   have cJ:Hid (((List.range k).map (f_ n)).length+1<=17592186044416):=by show _<=_;simp;omega
   have jm:=zh (Ki n k);clear hp;go_wp2_with fail;refine(fq _ _ _ n p wr (H.out.keep mr.out.below) Hn.out qH).mono ?_;obtain⟨ds,Ab⟩:∃ds,ds=bS n p:=⟨_,rfl⟩
   rw[<- Ab];rintro e w3 ⟨u3,rfl,eH,bN⟩
   have Ac:ds.length=n.ends.length:=by rw[Ab];exact kQ Hn.out _ _ _ (BI.start qH)
   obtain⟨d,hd⟩:=aM ds k (by omega)
   obtain⟨gd,cd,rfl⟩:∃gd cd,u3=.slice (some ⟨gd,0,none⟩) n.ends.length cd:=by
    rcases eH.cases with⟨-,e1⟩ | ⟨gd,cd,rfl,iH,lh⟩
    ·have:=congrArg List.length e1;rw[List.length_nil]at this;omega
    ·exact⟨gd,cd,by rw[Ac]⟩
   have Nb:=eH.cell hd;obtain⟨y,hy⟩:∃y,y=f_ n k:=⟨_,rfl⟩
   have UI:Int.tmod d 2=y:=by rw[hy];exact IV Hn.out hlt (by rw[<- Hp.out,<- Ab];exact hd)
   have KF:0<=d:=by have:=(xm Hn.out hlt).1;rw[<- Hp.out,<- Ab,au hd]at this;exact this
   have YH:d%2=y:=by rw[<- UI];exact(Int.tmod_eq_emod_of_nonneg KF).symm
   have ew:=zh (Hs.out.after bN);have i8:=zh (Ho.out.since bN);rw[<- hy]at jm;clear eH bN hd hy Ab Ac c1 KF qo
   go_wp2_with (at_builtin;refine dy rfl _ _ rfl rfl (i8.out.since (ag _ (ad _))) w3.heap.size y rfl (by simp[go_sem]) cJ.out (ag _ ew.out) ?_;intro g cx w4 oH nj)
   have ut:=zh oH;have mG:=zh nj;clear oH nj;go_wp2;go_roundw
   case rel=>exact⟨k+1,by omega,by first | rfl | go_num,by rw[jm.out];have:=ut.out;simpa using this,mG.out⟩
   case measure=>simp[intOf];omega
  ·obtain rfl:k=n.ends.length:=by omega
   have ew:=zh (b_.out.after Hs.out);have hZ:=ew.out
   obtain⟨A9,c9,rfl⟩:∃gd cd,u4=.slice (some ⟨gd,0,none⟩) n.ends.length cd:=by
    rcases Ho.out.cases with⟨-,e1⟩ | ⟨gd,cd,rfl,iH,lh⟩
    ·have:=congrArg List.length e1;rw[List.length_map,List.length_range,List.length_nil]at this;omega
    ·exact⟨gd,cd,by simp⟩
   have HT:Hid (Own wr w2.heap.size (.slice (some ⟨A9,0,none⟩) n.ends.length c9) (ml n)):=Ho.out;have Hlt:=zh hlt;clear hk hlt Ho;go_wp2_with fail;refine(zZ _ _ _ n wr (H.out.keep ew.out.below) Hn.out).mono ?_;rintro e w5 ⟨u5,rfl,yK,kT⟩;obtain⟨A5,c5,rfl,T6,hl5,BO⟩:=yK.read;unfold maxLen at T6;have HA5:=zh BO;have nl:Hid (aa wr w5):=kT;have LX:=ph Hn.out n.ends.length
   have WJ:Hid ((ch n).length<=1000000):=by show _<=_;show(eJ n n.ends.length).length<=_;omega
   have adL:=WJ.out;clear yK kT BO hZ LX;go_wp2
   go_loopw [34] (fun i wq=>∃j:Nat,j<=(ch n).length/\i=.int .i64 j/\sH n j/\aa w5 wq) (fun i _=>(ch n).length-(intOf i).toNat)
   case atStart=>exact⟨0,Nat.zero_le _,rfl,BY n,ad _⟩
   case round=>
    obtain⟨j,hj,rfl,vG,po⟩:=hrel;have YI:=zh vG;have jJ:=zh po;clear vG po
    by_cases mH:j<(ch n).length
    ·obtain⟨x,hx⟩:=aM (ch n) j mH;obtain⟨v,i,y,z,rfl,hv,hy⟩:=KO Hn.out hx;obtain⟨b,rfl,q0,q1,q2,q3⟩:=HA5.out j _ hx;have r0:=ae q0 wr jJ.out;have r1:=ae q1 wr jJ.out;have r2:=ae q2 wr jJ.out;have r3:=ae q3 wr jJ.out;have YJ:=zh (HT.out.since (nl.out.after jJ.out));have t1:=ae (YJ.out.cell (pi hv));have t2:=ae (YJ.out.cell (pi hy));have m2:IntKind.i64.wrap ((j:Int)+1)=(j:Int)+1:=aF _ (by omega) (by omega);obtain⟨w8,kH⟩:∃w8,w8=wr.alloc (.cells #[.int .i64 v,.int .i64 i,.int .i64 y,.int .i64 z] 136):=⟨_,rfl⟩
     obtain⟨be,lW⟩:∃be,be=wr.heap.size:=⟨_,rfl⟩
     have d0:∀W,aa w8 W->W.cell? ⟨be,0,none⟩=some (.int .i64 v):=ae (by rw[kH,lW];simp)
     have d2:∀W,aa w8 W->W.cell? ⟨be,2,none⟩=some (.int .i64 y):=ae (by rw[kH,lW];simp)
     have mc:aa wr w8:=by rw[kH];exact ag _ (ad _)
     have t1:=ah t1 mc;have t2:=ah t2 mc;have kt:=zh mc;have Kc:=zh kH;have WN:=zh lW;have Hx:=zh hx;obtain⟨a1,DL⟩:∃a,f_ n v=a:=⟨_,rfl⟩
     obtain⟨a2,SY⟩:∃a,f_ n y=a:=⟨_,rfl⟩
     have Q5:Hid (nG n ((v:Int),(i:Int),(y:Int),(z:Int))=(a1==a2)):=by
      show _=_
      unfold nG;simp only[Int.toNat_natCast];rw[fP hv,fP hy,DL,SY]
     rw[DL]at t1;rw[SY]at t2;clear hx q0 q1 q2 q3 kH lW mc DL SY;go_upto_region 12 with(fail);rw[<- Kc.out,<- WN.out];clear r0 r1 r2 r3;refine ar 11 (aa w8) (by kernel_rfl) (by kernel_rfl) (by simp) (aj (ad _)) ?_;simp only[zT]
     iterate 11 (refine bU rfl ?_;simp only[zA])
     intro W hW;have HW:=zh (jJ.out.after (kt.out.after hW));clear hW d0 d2 t1 t2;cases hg:(a1==a2)
     ·have q9:Hid (sH n (j+1)):=by
       show _=_
       rw[bh Hx.out,List.any_append,show((ch n).take j).any (nG n)=false from YI.out];simp only[List.any_cons,List.any_nil,Q5.out,hg,Bool.or_false]
      go_wp2;go_roundw
      case rel=>exact⟨j+1,by omega,by first | rfl | go_num,q9.out,HW.out⟩
      case measure=>simp[intOf];omega
     ·have YK:=DT Hx.out (by rw[Q5.out];exact hg)
      rw[iF.out]at YK;subst YK;go_wp2
      go_ret2
      exact⟨.slice none 0 0,rfl,by simpa using bH _ _,aa.after aT.out (ew.out.after (nl.out.after HW.out))⟩
    ·obtain rfl:j=(ch n).length:=by omega
     have NH:=DS YI.out;rw[iF.out]at NH;subst NH;go_wp2
     go_ret2
     refine⟨.slice (some ⟨A9,0,none⟩) n.ends.length c9,rfl,?_,aa.after aT.out (ew.out.after (nl.out.after jJ.out))⟩;exact(HT.out.since (nl.out.after jJ.out)).mono (Nat.le_trans aT.out.size b_.out.below.size)
section
variable {P : Program} {ops : Array Oper}
theorem dD {S:World->Prop} {fin:Act->World->Prop} {o:Oper} {rest:List Oper} {A:Act} {W:World} {ob:Obj} {v:Value} (hw:Region.wanted o (yielded ops A.tmps)=true) (h:(execOp A.eval o).run P W=.ok (.value v) (W.alloc ob)) (hS:S (W.alloc ob))
  (hr:∀W',W'=W.alloc ob->S W'->bz P ops S fin rest (A.put o.dst v) W'):bz P ops S fin (o::rest) A W:=
 zR hw h hS (hr _ rfl hS)
end
end Go.Proofs.YtgmdpppljkmabaaGreat
