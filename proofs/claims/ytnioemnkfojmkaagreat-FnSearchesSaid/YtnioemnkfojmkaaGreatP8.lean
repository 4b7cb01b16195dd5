/- Parts of the proof: walks of functions and plain laws. -/
import Derived.Test.YtnioemnkfojmkaaGreatP0
import Derived.Test.YtnioemnkfojmkaaGreatP1
import Derived.Test.YtnioemnkfojmkaaGreatP7
import Derived.Test.YtnioemnkfojmkaaGreatP4
import Derived.Test.YtnioemnkfojmkaaGreatP6
import Derived.Test.YtnioemnkfojmkaaGreatP5
set_option maxRecDepth 100000
set_option maxHeartbeats 16000000
namespace Go.Proofs.YtnioemnkfojmkaaGreat
open Go Go.RowKit
theorem Ct (b c:Nat) (x:Int) (w:World) (hc:w.cell? ⟨b,0,none⟩=some (.int .i64 x)):
  Calls Tryz.prog 97 #[.slice (some ⟨b,0,none⟩) 1 c,.int .i64 0] w fun e w'=>∃u,e=.returned u/\Own w' w.heap.size u []/\Below w.heap.size w w':=by
 have e1:IntKind.u64.wrap (0:Int)=0:=IntWalk.u64_in _ (by omega);have hm:=Tryz.bits_Mul 1 0 (by omega) (by omega) w;rw[show(1*0/18446744073709551616:Nat)=0 by omega,show(1*0%18446744073709551616:Nat)=0 by omega]at hm
 have Hm:=zh hm;have e2:IntKind.i64.wrap (0:Int)=0:=aE _ (by omega) (by omega);have m2:∀W:World,(Instr.makeSlice 28 (.int .i64 0) (.int .i64 0)).run Tryz.prog W=.ok (.slice (some ⟨W.heap.size,0,none⟩) 0 0) (W.alloc (.cells #[] 3)):=nZ 0 (by omega);have Hc:=zh hc;clear hm hc
 go_enter Tryz.func97,Tryz.ntmps97
 go_wp2_with fail;refine Hm.out.mono ?_;rintro e w1 ⟨rfl,rfl⟩
 have HG2:Hid ((w1.alloc (.cells #[] 3)).heap[w1.heap.size]?=some (.cells (eQ x 0 0).toArray 3 (0,0))):=by
  show(w1.heap.push _)[w1.heap.size]?=_
  rw[Array.getElem?_push_size];simp[eQ]
 go_wp2_with (refine wpList_copy_splice rfl _ _ 28 28 rfl 3 Tryz.underlying28 (by kernel_rfl) (some ⟨w1.heap.size,0,none⟩) (some ⟨b,0,none⟩) 0 0 1 c rfl rfl w1.heap.size 0 (eQ x 0 0) 3 HG2.out [] rfl (fun h=>by simp at h) (by simp) (by simp) w1.heap.size w1 (ao _ _) (Nat.le_refl _) ?_;intro w3 nB aG)
 have HG3:Hid (w3.heap[w1.heap.size]?=some (.cells (eQ x 0 0).toArray 3 (0,0))):=by
  show _=_
  have:=nB.out
  simpa[splice,eQ]using this
 have xV:=zh aG;clear nB aG;go_wp2
 go_loopw [8] (fun nv wr=>nv=.int .i64 0/\wr=w3) (fun _ _=>0)
 case atStart=>exact⟨rfl,rfl⟩
 case round=>
  obtain⟨rfl,rfl⟩:=hrel;go_wp2;go_ret;exact⟨_,rfl,F8 (N:=0) HG3.out (Nat.le_refl _) (by omega),xV.out⟩
theorem v_ (b c:Nat) (x:Int) (N:Nat) (w:World) (Iv:N<=1000000) (hc:w.cell? ⟨b,0,none⟩=some (.int .i64 x)):
  Calls Tryz.prog 97 #[.slice (some ⟨b,0,none⟩) 1 c,.int .i64 N] w fun e w'=>∃u,e=.returned u/\Own w' w.heap.size u (List.replicate N x)/\Below w.heap.size w w':=by
 rcases Nat.eq_zero_or_pos N with h | h
 ·subst h;exact Ct b c x w hc
 ·exact Cs b c x N w h Iv hc
theorem yj (v:Value) (dl:List (List Int)) (w:World) (h:a_ w v dl) (xW:dl.length<=1048576) (hr:∀(v:Nat) (row:List Int),dl[v]?=some row->row.length<=17592186044416):
  Calls Tryz.prog 49 #[v] w fun e w'=>∃u S,e=.returned u/\bz w' w.heap.size u dl S/\Below w.heap.size w w':=by
 have H:=zh h;obtain⟨A,c,rfl,f_,hm,-⟩:=h;unfold maxLen at hm;have Hr:=zh hr;clear hr
 go_enter Tryz.func49,Tryz.ntmps49
 go_wp2_with (at_make;refine Cb _ rfl _ _ rfl dl.length rfl rfl xW ?_;intro w1 ij aX)
 go_loopw [10] (fun i wr=>∃(k:Nat) (S:List Nat),k<=dl.length/\i=.int .i64 k/\bz wr w.heap.size (.slice (some ⟨w.heap.size,0,none⟩) dl.length dl.length) (dl.take k++List.replicate (dl.length-k) []) S/\Below w.heap.size w wr) (fun i _=>dl.length-(intOf i).toNat)
 case atStart=>exact⟨0,_,Nat.zero_le _,rfl,by simpa using ij,aX⟩
 case round=>
  obtain⟨k,S,hk,rfl,ho,hb⟩:=hrel;clear ij aX
  by_cases aH:k<dl.length
  ·obtain⟨x,b,off,A1,z1,hx,rfl,dG,dP,eO,j6⟩:=dT H.out aH;have k1:=bc hb dG;have Hu:=zh (j6.ac2 hb);have Ho:=zh ho;have Hb:=zh hb;have Hx:=zh hx;clear hx dG ho hb j6;go_wp2_with fail;refine(yK _ x _ Hu.out (Hr.out k x Hx.out)).mono ?_;rintro e w2 ⟨v2,rfl,ml,bJ⟩;have Kg:kR w2 wr.heap.size v2 x v2.ownBlock.toList:=⟨ml,rfl⟩;have dW:=aI.ac2 Ho.out bJ
   obtain⟨y,hy⟩:=ay (dl.take k++List.replicate (dl.length-k) []) k (by simp;omega)
   obtain⟨_,_,y1,f1,_⟩:=bg.at_ dW hy;have hS:=aI.range Ho.out
   obtain⟨S3,iH,_⟩:=bg.store er dW k (er.mono Kg Hb.out.size) (fun j hj Oh=>by have h1:=(er.range Kg j hj).1;have:=(hS _ Oh).2;omega)
   rw[vu [] dl k x Hx.out]at iH
   have Kh:=zh iH;have pP:=zh ((Hb.out.trans (bJ.mono Hb.out.size)).setCell (p:=⟨w.heap.size,k,none⟩) (Nat.le_refl _) v2);obtain⟨B2,d2,rfl,_⟩:=id ml.ints;clear dW hy iH bJ ml hS Kg;go_wp2;go_roundw
   case rel=>exact⟨k+1,S3,by omega,by simp,Kh.out,pP.out⟩
   case measure=>simp[intOf];omega
  ·have e1:dl.take k++List.replicate (dl.length-k) ([]:List Int)=dl:=by rw[List.take_of_length_le (by omega),show dl.length-k=0 by omega,List.replicate_zero,List.append_nil]
   rw[e1]at ho;have Ho:=zh ho;have Hb:=zh hb;clear ho hb e1;go_wp2;go_ret;exact⟨_,S,rfl,Ho.out,Hb.out⟩
theorem zg (w:World) (base:Nat):bz w base (.slice none 0 0) [] []:=⟨[],[],World.ownsRow_nil w base _ _,rfl,fun k u x T h=>by simp at h,by simp[Value.ownBlock],by simp⟩
theorem wb (v:Value) (dl:List (List Int)) (w:World) (h:a_ w v dl) (xW:dl.length<=1048576) (hr:∀(v:Nat) (row:List Int),dl[v]?=some row->row.length<=17592186044416):
  Calls Tryz.prog 54 #[v] w fun e w'=>∃u S,e=.returned u/\bz w' w.heap.size u dl S/\Below w.heap.size w w':=by
 have H:=zh h;obtain⟨A,c,rfl,f_,hm,-⟩:=h;unfold maxLen at hm;have Hr:=zh hr;clear hr
 go_enter Tryz.func54,Tryz.ntmps54
 go_wp2
 go_loopw [3,8] (fun u i wr=>∃(k:Nat) (S:List Nat),k<=dl.length/\i=.int .i64 k/\bz wr w.heap.size u (dl.take k) S/\Below w.heap.size w wr) (fun _ i _=>dl.length-(intOf i).toNat)
 case atStart=>exact⟨0,_,Nat.zero_le _,rfl,by simpa using zg w w.heap.size,Below.refl _ _⟩
 case round=>
  obtain⟨k,S,hk,rfl,ho,hb⟩:=hrel;have Ho:=zh ho;have Hb:=zh hb
  by_cases aH:k<dl.length
  ·obtain⟨x,b,off,A1,z1,hx,rfl,dG,dP,eO,j6⟩:=dT H.out aH;have k1:=bc hb dG;have Hu:=zh (j6.ac2 hb);have Hx:=zh hx;clear hx dG ho hb j6;go_wp2_with fail;refine(pu _ x _ Hu.out (Hr.out k x Hx.out)).mono ?_;rintro e w2 ⟨v2,rfl,ml,bJ⟩;have hS:=aI.range Ho.out
   have Hd:Hid (∀j,v2.ownBlock=some j->j∉S):=fun j hj Oh=>by have h1:=(World.ownsRow.lt ml j hj).1;have:=(hS _ Oh).2;omega
   have qB:=zh (Hb.out.trans (bJ.mono Hb.out.size));have nW:=zh (aI.ac2 (aI.ac2 Ho.out bJ) (ao w2 (.cells #[v2] 28)));have DD:=zh ((ml.mono Hb.out.size).ac2 (ao w2 (.cells #[v2] 28)))
   have Jq:Hid ((dl.take k).length+1<=4000000):=by show _<=_;rw[List.length_take];omega
   obtain⟨B2,d2,rfl,_⟩:=id ml.ints;clear ml bJ hS k1
   go_wp2_with (at_builtin;refine mj rfl _ _ rfl rfl nW.out w2.heap.size rfl (by simp[go_sem]) DD.out Hd.out Jq.out (Nat.le_trans qB.out.size (by simp)) ?_;intro g cc w3 S3 iH aG)
   rw[<- bX Hx.out,List.length_take,Nat.min_eq_left (Nat.le_of_lt aH)]at iH;go_roundw
   case rel=>exact⟨k+1,S3,by omega,by go_num,iH,qB.out.trans ((ao w2 _).mono qB.out.size |>.trans aG)⟩
   case measure=>simp[intOf];omega
  ·obtain rfl:k=dl.length:=by omega
   have HO:Hid (bz wr w.heap.size u3 dl S):=by have:=Ho.out;rwa [List.take_length]at this
   clear ho hb;go_wp2;go_ret;exact⟨_,S,rfl,HO.out,Hb.out⟩
def ef (n:aw):List (List Int):=n.ends.map fun es=>List.replicate es.length (-1)
theorem mm (n:aw):(ef n).length=n.ends.length:=by simp[ef]
theorem sW {n:aw} {k:Nat} {es:List (Int×Int)} (h:n.ends[k]?=some es):(ef n)[k]?=some (List.replicate es.length (-1)):=by simp[ef,h]
theorem qi (ve vi vn:Value) (n:aw) (w:World) (h:aU w ve vi vn n) (xW:n.ends.length<=1048576) (hr:∀(v:Nat) (es:List (Int×Int)),n.ends[v]?=some es->es.length<=1000000):
  Calls Tryz.prog 47 #[.agg #[ve,vi,vn]] w fun e w'=>∃u S,e=.returned u/\bz w' w.heap.size u (ef n) S/\Below w.heap.size w w':=by
 obtain⟨w0,A,c,A2,c2,A3,c3,rfl,rfl,rfl,f_,hm,fq,fF,HA,cS,bQ,H,gP,ig,ii⟩:=zB h;clear h
 have Hr:=zh hr;clear hr;obtain⟨F,hF⟩:∃F,F=ef n:=⟨_,rfl⟩
 have hFl:F.length=n.ends.length:=by rw[hF];exact mm n
 rw[<- hF];have HF:=zh hF;clear hF
 go_enter Tryz.func47,Tryz.ntmps47
 go_upto_region 1 with(fail);rw[<- cS.out];have bu:aa w0 w0:=ad _
 go_upto_region 3 with(at_make;refine Cb _ rfl _ _ rfl n.ends.length rfl rfl xW ?_;intro w1 ij aX;have dw:aa w0 w1:=aX)
 obtain⟨g,hg⟩:∃g,g=w0.heap.size:=⟨_,rfl⟩
 rw[<- hg]at ij ⊢;have dw:aa w0 w1:=aX;have Hg:=zh hg;clear hg aX;go_wp2
 go_loopw [13] (fun i wr=>∃(k:Nat) (S:List Nat),k<=n.ends.length/\i=.int .i64 k/\bz wr w0.heap.size (.slice (some ⟨g,0,none⟩) n.ends.length n.ends.length) (F.take k++List.replicate (F.length-k) []) S/\aa w0 wr) (fun i _=>n.ends.length-(intOf i).toNat)
 case atStart=>exact⟨0,_,Nat.zero_le _,rfl,by rw[hFl];have:=ij;simpa[Hg.out]using this,dw⟩
 case round=>
  obtain⟨k,S,hk,rfl,ho,hb⟩:=hrel;have Ho:=zh ho;have Hb:=zh hb;clear ij dw bu ho hb
  by_cases aH:k<n.ends.length
  ·obtain⟨es,ca⟩:=ay n.ends k aH;obtain⟨b,off,c',u,hA,hk',dG,aD⟩:=kd H.out.es ca;cases hA;obtain⟨A1,z1,rfl,dP,eO,-⟩:=aD;have iI:=Hr.out k es ca;have k1:=bc Hb.out.below dG
   have Hx:Hid (F[k]?=some (List.replicate es.length (-1))):=by show _=_;rw[HF.out];exact sW ca
   clear dG ca;go_wp2_with fail;refine(v_ wr.heap.size 1 (-1) es.length _ iI (by simp)).mono ?_;rintro e w2 ⟨v2,rfl,ml,bJ⟩;have Kg:kR w2 (wr.alloc (.cells #[.int .i64 (-1)] 3)).heap.size v2 (List.replicate es.length (-1)) v2.ownBlock.toList:=⟨ml,rfl⟩;have ju:wr.heap.size<=(wr.alloc (.cells #[.int .i64 (-1)] 3)).heap.size:=by simp
   have ar:w0.heap.size<=wr.heap.size:=Hb.out.below.size;have dW:=aI.ac2 (aI.ac2 Ho.out (ao wr (.cells #[.int .i64 (-1)] 3))) bJ
   obtain⟨y,hy⟩:=ay (F.take k++List.replicate (F.length-k) []) k (by simp;omega)
   obtain⟨_,_,y1,f1,_⟩:=bg.at_ dW hy;have hS:=aI.range Ho.out
   obtain⟨S3,iH,_⟩:=bg.store er dW k (er.mono Kg (by omega)) (fun j hj Oh=>by have h1:=(er.range Kg j hj).1;have:=(hS _ Oh).2;omega)
   rw[vu [] F k _ Hx.out]at iH
   have Kh:=zh iH
   have pP:Hid (aa w0 (w2.setCell ⟨g,k,none⟩ v2)):=Below.setCell (aa.below ((ae _ Hb.out).trans bJ)) (by show w0.heap.size<=g;rw[Hg.out];exact Nat.le_refl _) _
   obtain⟨B2,d2,Ep,_⟩:=id ml.ints;rw[List.length_replicate]at Ep;subst Ep;clear dW hy iH bJ ml hS Kg ju ar;go_wp2;go_roundw
   case rel=>exact⟨k+1,S3,by omega,by go_num,Kh.out,pP.out⟩
   case measure=>simp[intOf];omega
  ·have e1:F.take k++List.replicate (F.length-k) ([]:List Int)=F:=by rw[List.take_of_length_le (by omega),show F.length-k=0 by omega,List.replicate_zero,List.append_nil]
   have HO:Hid (bz wr w0.heap.size (.slice (some ⟨g,0,none⟩) n.ends.length n.ends.length) F S):=by have:=Ho.out;rwa [e1]at this
   clear e1;go_wp2;go_ret;exact⟨_,S,rfl,aI.mono HO.out bQ.out.size,aa.after bQ.out Hb.out⟩
theorem lD (ve vi vn:Value) (n:aw) (w:World) (h:aU w ve vi vn n) (xW:n.ends.length<=1048576) (hr:∀(v:Nat) (es:List (Int×Int)),n.ends[v]?=some es->es.length<=1048576):
  Calls Tryz.prog 53 #[.agg #[ve,vi,vn]] w fun e w'=>∃u S,e=.returned u/\bz w' w.heap.size u (ef n) S/\Below w.heap.size w w':=by
 obtain⟨w0,A,c,A2,c2,A3,c3,rfl,rfl,rfl,f_,hm,fq,fF,HA,cS,bQ,H,gP,ig,ii⟩:=zB h;clear h
 have Hr:=zh hr;clear hr;obtain⟨F,hF⟩:∃F,F=ef n:=⟨_,rfl⟩
 have hFl:F.length=n.ends.length:=by rw[hF];exact mm n
 rw[<- hF];have HF:=zh hF;clear hF
 go_enter Tryz.func53,Tryz.ntmps53
 go_upto_region 1 with(fail);rw[<- cS.out];have bu:aa w0 w0:=ad _;go_wp2
 go_loopw [3,11] (fun u i wr=>∃(k:Nat) (S:List Nat),k<=n.ends.length/\i=.int .i64 k/\bz wr w0.heap.size u (F.take k) S/\aa w0 wr) (fun _ i _=>n.ends.length-(intOf i).toNat)
 case atStart=>exact⟨0,_,Nat.zero_le _,rfl,by simpa using zg w0 w0.heap.size,bu⟩
 case round=>
  obtain⟨k,S,hk,rfl,ho,hb⟩:=hrel;have Ho:=zh ho;have Hb:=zh hb;clear bu ho hb
  by_cases aH:k<n.ends.length
  ·obtain⟨es,ca⟩:=ay n.ends k aH;obtain⟨b,off,c',u,hA,hk',dG,aD⟩:=kd H.out.es ca;cases hA;obtain⟨A1,z1,rfl,dP,eO,-⟩:=aD;have iI:=Hr.out k es ca;have k1:=bc Hb.out.below dG
   have Hx:Hid (F[k]?=some (List.replicate es.length (-1))):=by show _=_;rw[HF.out];exact sW ca
   clear dG ca;obtain⟨wo,rfl⟩:∃wo,wo=wr:=⟨_,rfl⟩
   go_upto_region 6 with(at_make;refine zJ _ rfl _ _ rfl _ _ es.length rfl rfl rfl rfl (by omega) ?_;intro w1 ij aX NH)
   obtain⟨g,hg⟩:∃g,g=wo.heap.size:=⟨_,rfl⟩
   rw[<- hg]at ij NH ⊢;have Hg:=zh hg;have NY:=zh ij;have fE:=zh aX;clear hg ij aX NH;go_wp2
   go_loopw [20] (fun i wq=>∃j:Nat,j<=es.length/\i=.int .i64 j/\Own wq wo.heap.size (.slice (some ⟨g,0,none⟩) es.length es.length) (List.replicate j (-1)++List.replicate (es.length-j) 0)/\aa wo wq) (fun i _=>es.length-(intOf i).toNat)
   case atStart=>exact⟨0,Nat.zero_le _,rfl,by have:=NY.out;simpa[Hg.out]using this,fE.out⟩
   case round=>
    obtain⟨j,hj,rfl,ho,hs⟩:=hrel;have Hoj:=zh ho;have Hs:=zh hs;clear ho hs
    by_cases yY:j<es.length
    ·obtain⟨y,hy⟩:=ay (List.replicate j (-1:Int)++List.replicate (es.length-j) 0) j (by simp;omega)
     have cz:=Hoj.out.cell hy;have fz:=Hoj.out.free j;clear hy;go_wp2;go_roundw
     case rel=>
      refine⟨j+1,by omega,by go_num,?_,Below.setCell Hs.out (by show wo.heap.size<=g;rw[Hg.out];exact Nat.le_refl _) _⟩
      have:=Hoj.out.set (k:=j) (-1)
      have e:(List.replicate j (-1:Int)++List.replicate (es.length-j) 0).set j (-1)=List.replicate (j+1) (-1)++List.replicate (es.length-(j+1)) 0:=by
       rw[List.set_append_right _ _ (by simp),List.length_replicate,Nat.sub_self,show es.length-j=(es.length-(j+1))+1 by omega,List.replicate_succ,List.set_cons_zero,List.replicate_succ',List.append_assoc]
       rfl
      rwa [e]at this
     case measure=>simp[intOf];omega
    ·obtain rfl:j=es.length:=by omega
     have DD:Hid (Own wr wo.heap.size (.slice (some ⟨g,0,none⟩) es.length es.length) (List.replicate es.length (-1))):=by
      have:=Hoj.out
      rwa [Nat.sub_self,List.replicate_zero,List.append_nil]at this
     have hS:=aI.range Ho.out
     have Hd:Hid (∀j,(Value.slice (some ⟨g,0,none⟩) es.length es.length).ownBlock=some j->j∉S):=fun j hj Oh=>by have h1:=(World.ownsRow.lt DD.out j hj).1;have:=(hS _ Oh).2;omega
     have qB:=zh (Hb.out.trans Hs.out);have nW:=zh (aI.ac2 (aI.ac2 Ho.out Hs.out.below) (ao wr (.cells #[.slice (some ⟨g,0,none⟩) es.length es.length] 28)));have Wp:=zh ((DD.out.mono Hb.out.below.size).ac2 (ao wr (.cells #[.slice (some ⟨g,0,none⟩) es.length es.length] 28)))
     have Jq:Hid ((F.take k).length+1<=4000000):=by show _<=_;rw[List.length_take];omega
     clear hS k1
     go_wp2_with (at_builtin;refine mj rfl _ _ rfl rfl nW.out wr.heap.size rfl (by simp[go_sem]) Wp.out Hd.out Jq.out (Nat.le_trans qB.out.below.size (by simp)) ?_;intro g9 cc w3 S3 iH aG)
     rw[<- bX Hx.out,List.length_take,Nat.min_eq_left (by omega)]at iH;go_roundw
     case rel=>exact⟨k+1,S3,by omega,by go_num,iH,Below.trans (Below.trans qB.out ((ao wr _).mono qB.out.below.size)) aG⟩
     case measure=>simp[intOf];omega
  ·obtain rfl:k=n.ends.length:=by omega
   have HO:Hid (bz wr w0.heap.size u3 F S):=by have:=Ho.out;rw[List.take_of_length_le (by omega)]at this;exact this
   go_wp2;go_ret;exact⟨_,S,rfl,aI.mono HO.out bQ.out.size,aa.after bQ.out Hb.out⟩
theorem cC.put {w:World} {b:Nat} {vs:Array Value} (h:cC w b vs) (i:Nat) (u:Value):cC (w.setCell ⟨b,i,none⟩ u) b (vs.setIfInBounds i u):=by
 obtain⟨r,h⟩:=h;refine⟨r,?_⟩;simp[World.setCell,Array.getElem?_modify,h]
theorem cC.grown {w w':World} {b:Nat} {vs:Array Value} {row:Option Nat} (h:cC w b vs) (hg:w.grownBy w' row) (hb:some b≠row):cC w' b vs:=by
 have aH:=h.lt;obtain⟨r,h'⟩:=h;exact⟨r,(hg.block b aH hb).trans h'⟩
theorem Cu {w:World} {ops:Array Oper} {rest:List Oper} {o:Oper} {a:Act} {Q:Exit->Act->World->Prop} (iz:o.guard=none) (s x:Operand)
  (ho:o.op=.call { callee:=.builtin .append,args:=#[s,x],argTypes:=#[59,59] }) {base:Nat} {v:Value} {xs:List (Int×Int)} (hs:a.eval s=v) (h:∃T,eq w base v xs T) (b:Nat) (y:Int×Int)
  (hx:a.eval x=.slice (some ⟨b,0,none⟩) 1 1) (hc:w.cell? ⟨b,0,none⟩=some (.int .i64 y.1)) (dG:w.cell? ⟨b,1,none⟩=some (.int .i64 y.2)) (hl:xs.length+1<=1000000) (pO:base<=w.heap.size)
  (k:∀g cap w',(∃T,eq w' base (.slice (some ⟨g,0,none⟩) (xs.length+1) cap) (xs++[y]) T)->w.grownBy w' v.ownBlock->(∀j,v.ownBlock=some j->base<=j)->base<=g->wpList Tryz.prog ops Q rest (a.put o.dst (.slice (some ⟨g,0,none⟩) (xs.length+1) cap)) w'):wpList Tryz.prog ops Q (o::rest) a w:=by
 obtain⟨i0,hi,eu,dP,eO⟩:=info_parts ro;obtain⟨T,h⟩:=h
 refine wpList_append_lies w iz s x 59 ho base 104 i0 _ 2 16 Tryz.underlying59 hi eu dP eO rfl (by decide) v xs.length (xs.flatMap lj) hs h.1 ⟨b,0,none⟩ 1 1 [.int .i64 y.1,.int .i64 y.2] hx rfl
  (by intro j u hj;match j,hj with | 0,hj=>(simp at hj;subst hj;simpa[Addr.add]using hc) | 1,hj=>(simp at hj;subst hj;simpa[Addr.add]using dG) | j+2,hj=>simp at hj) (by simp[Value.oneCell']) (by omega) (by unfold maxLen;omega) (by omega) pO w.heap.size rfl ?_
 intro g cap w' q1 q2 q3 q4;have hq:w'.ownsRow base 104 2 (.slice (some ⟨g,0,none⟩) (xs.length+1) cap) (xs++[y]).length ((xs++[y]).flatMap lj):=by simpa[lj]using q1
 exact k g cap w' ⟨_,hq,rfl⟩ q2 (fun j hj=>(World.ownsRow.lt h.1 j hj).1) (World.ownsRow.lt hq g rfl).1
theorem kW (v:Value) (dl:List (List Int)) (w:World) (B:Nat) (hB:B<=w.heap.size) (h:a_ w v dl) (xW:dl.length<=1048576) (hr:∀(v:Nat) (row:List Int),dl[v]?=some row->row.length<=17592186044416):
  Calls Tryz.prog 49 #[v] w fun e w'=>∃u S,e=.returned u/\bz w' B u dl S/\Below w.heap.size w w':=(yj v dl w h xW hr).mono fun _ _ ⟨u,S,h1,h2,h3⟩=>⟨u,S,h1,aI.mono h2 hB,h3⟩
theorem Cv (v:Value) (dl:List (List Int)) (w:World) (B:Nat) (hB:B<=w.heap.size) (h:a_ w v dl) (xW:dl.length<=1048576) (hr:∀(v:Nat) (row:List Int),dl[v]?=some row->row.length<=17592186044416):
  Calls Tryz.prog 54 #[v] w fun e w'=>∃u S,e=.returned u/\bz w' B u dl S/\Below w.heap.size w w':=(wb v dl w h xW hr).mono fun _ _ ⟨u,S,h1,h2,h3⟩=>⟨u,S,h1,aI.mono h2 hB,h3⟩
def kw (p:az) (pa pb va vb vc ul uf:Value) (st:Int):Array Value:=#[.int .i64 p.labels,.int .i64 p.degree,pa,pb,va,vb,vc,ul,uf,.int .i64 st]
def jv (p:az) (pa pb va vb vc ul uf:Value) (i st most:Int) (fr:Bool):Array Value:=#[.int .i64 p.labels,.int .i64 p.degree,pa,pb,va,vb,vc,ul,uf,.int .i64 i,.int .i64 st,.int .i64 most,.bool fr]
theorem sX (v:Nat) (row:List Int) (k:Nat):(fQ v row k).length<=k:=by
 unfold fQ;rw[List.length_map];exact Nat.le_trans (List.length_filter_le _ _) (by simp)
theorem wd {l:List (List Int)} (h:∀(v:Nat) (row:List Int),l[v]?=some row->row.length<=6) (k:Nat):(gQ l k).length<=6*k:=by
 induction k with
 | zero=>simp[gQ]
 | succ k ih=>
  rw[qv,List.length_append]
  have:(yW k (l.getD k [])).length<=6:=by
   have h1:=sX k (l.getD k []) (l.getD k []).length
   have h2:(l.getD k []).length<=6:=by
    cases hk:l[k]? with
    | none=>simp[zDd,hk]
    | some row=>rw[ak hk];exact h k row hk
   exact Nat.le_trans h1 h2
  omega
def cj (w:World) (sb:Nat) (vs:Array Value) (l:List (List Int)) (ah:List (Int×Int)) (ul uf:Value) (SL:List Nat) (B:Nat):Prop:=
 cC w sb vs/\bz w B ul l SL/\(∀k∈SL,k<sb)/\∃T,eq w (sb+1) uf ah T
theorem cj.push {wr w3:World} {sb:Nat} {vs:Array Value} {l:List (List Int)} {ah:List (Int×Int)} {ul uf:Value} {SL:List Nat} {B:Nat} {o:Obj} (h:cj wr sb vs l ah ul uf SL B) {y:Int×Int} {g cap:Nat}
  (iH:∃T,eq w3 (sb+1) (.slice (some ⟨g,0,none⟩) (ah.length+1) cap) (ah++[y]) T) (nB:(wr.alloc o).grownBy w3 uf.ownBlock) (Oi:∀j,uf.ownBlock=some j->sb+1<=j) (hs:sb+1<=wr.heap.size):
  cC w3 sb vs/\cj (w3.setCell ⟨sb,8,none⟩ (.slice (some ⟨g,0,none⟩) (ah.length+1) cap)) sb (vs.setIfInBounds 8 (.slice (some ⟨g,0,none⟩) (ah.length+1) cap)) l (ah++[y]) ul (.slice (some ⟨g,0,none⟩) (ah.length+1) cap) SL B /\
   (∀w0:World,aa w0 wr->w0.heap.size<=sb->aa w0 (w3.setCell ⟨sb,8,none⟩ (.slice (some ⟨g,0,none⟩) (ah.length+1) cap)))/\sb+1<=(w3.setCell ⟨sb,8,none⟩ (.slice (some ⟨g,0,none⟩) (ah.length+1) cap)).heap.size:=by
 obtain⟨h1,h2,h3,h4⟩:=h
 have hb:cC w3 sb vs:=(h1.alloc o).grown nB (fun e=>by have:=Oi sb e.symm;omega)
 have eR:wr.heap.size<=w3.heap.size:=by have:=nB.size;simp at this;omega
 refine⟨hb,⟨hb.put 8 _,?_,h3,?_⟩,?_,by rw[gt];omega⟩
 ·refine aI.ac4 h2 fun k hk=>?_
  have pM:=h3 k hk
  rw[Below.heap_setCell _ _ _ k (by show k≠sb;omega),nB.block k (by simp;omega) (fun e=>by have:=Oi k e.symm;omega)]
  exact Below.heap_alloc wr o k (by omega)
 ·obtain⟨T,iH⟩:=iH
  exact⟨T,ej.put fY iH (by show sb<sb+1;omega) _⟩
 ·intro w0 ar uG
  refine Below.setCell (Below.grown (aa.below (ae o ar)) nB ?_ (fun j hj=>by have:=Oi j hj;omega)) (by show w0.heap.size<=sb;exact uG) _
  have:=(aa.below ar).size
  simp;omega
theorem lQ (pa pb ve vi vn vl:Value) (p:az) (n:aw) (l:List (List Int))  (w:World) (hp:di w pa pb p) (h:aU w ve vi vn n) (hl:a_ w vl l) (Ki:l.length<=40) (mW:∀(v:Nat) (row:List Int),l[v]?=some row->row.length<=6):
  Calls Tryz.prog 35 #[.agg #[.int .i64 p.labels,.int .i64 p.degree,pa,pb],.agg #[ve,vi,vn],vl] w fun e w'=>∃sb ul uf SL,e=.returned (.pointer (some ⟨sb,0,none⟩))/\cj w' sb (kw p pa pb ve vi vn ul uf 0) l (fB l) ul uf SL w.heap.size/\w.heap.size<=sb/\Below w.heap.size w w':=by
 obtain⟨w0,ar⟩:∃w0,w0=((w).alloc (.cells #[.int .i64 p.labels,.int .i64 p.degree,pa,pb] 26)).alloc (.cells #[ve,vi,vn] 30):=⟨_,rfl⟩
 have bG:Below w.heap.size w w0:=by rw[ar];exact(((Below.refl _ _).alloc (by simp <;> omega) _).alloc (by simp <;> omega) _)
 have H:=zh (h.ac2 bG);obtain⟨h1,h2,h3⟩:=h.ac2 bG;obtain⟨A,c,rfl,f_,hm,hA⟩:=h1;obtain⟨A2,c2,rfl,_,fq,_⟩:=h2;obtain⟨A3,c3,rfl,_,fF,_⟩:=h3;unfold maxLen at hm fq fF;have cZ:=hp.ac2 bG;have HP:=zh cZ;obtain⟨P0,eP,rfl,ji,dX,bZ⟩:=id cZ.1;unfold maxLen at dX;have jj:=zh bZ;clear bZ;obtain⟨P1,eB,rfl,jk,dY,b_⟩:=id cZ.2;unfold maxLen at dY;have jl:=zh b_;clear b_;clear cZ hp
 have gP:∀W,aa w0 W->W.cell? ⟨w.heap.size,0,none⟩=some (.int .i64 p.labels):=ab (by rw[ar];simp)
 have ig:∀W,aa w0 W->W.cell? ⟨w.heap.size,1,none⟩=some (.int .i64 p.degree):=ab (by rw[ar];simp)
 have ii:∀W,aa w0 W->W.cell? ⟨w.heap.size,2,none⟩=some (.slice P0 p.nodes.length eP):=ab (by rw[ar];simp)
 have mL:∀W,aa w0 W->W.cell? ⟨w.heap.size,3,none⟩=some (.slice P1 p.ac3.length eB):=ab (by rw[ar];simp)
 have rJ:∀W,aa w0 W->W.cell? ⟨w.heap.size+1,0,none⟩=some (.slice A n.ends.length c):=ab (by rw[ar];simp)
 have tD:∀W,aa w0 W->W.cell? ⟨w.heap.size+1,1,none⟩=some (.slice A2 n.ids.length c2):=ab (by rw[ar];simp)
 have tE:∀W,aa w0 W->W.cell? ⟨w.heap.size+1,2,none⟩=some (.slice A3 n.ac1.length c3):=ab (by rw[ar];simp)
 have bQ:=zh bG;have cS:=zh ar;have HA:=zh hA;clear hA h;clear bG ar;have HL:=zh (hl.ac2 bQ.out);obtain⟨AL,cL,rfl,Qn,yi,-⟩:=hl;unfold maxLen at yi;have Bv:=zh mW
 have Hfl:Hid (∀(k j:Nat) (row:List Int),k<=l.length->j<=6->(gQ l k++fQ k row j).length+1<=1000000):=by
  intro k j row hk hj;have h1:=wd mW k;have h2:=sX k row j;rw[List.length_append];omega
 clear mW
 go_enter Tryz.func35,Tryz.ntmps35
 go_upto_region 1 with(fail);rw[<- cS.out];refine fh (w0:=w0) 6 [false,false,false,true,true,true] (by kernel_rfl) (by kernel_rfl) (ad _) ?_;simp only[ek,dD,zT]
 iterate 3 (apply ei rfl;(intro W hW;go_simp;with_reducible rfl);simp only[zA])
 intro W hW;refine Or.inl ⟨rfl,?_⟩
 go_simp
 (with_reducible refine(kW _ l W w0.heap.size hW.below.size (HL.out.ac2 hW.below) (by omega) (fun v row hv=>Nat.le_trans (Bv.out v row hv) (by omega))).mono ?_)
 rintro e W' ⟨ul,SL,rfl,ho,hb⟩;refine⟨_,rfl,hW.trans hb,?_⟩
 replace hW:=hW.trans hb
 obtain⟨AU,mU,cU,rfl⟩:=aI.one ho;have Kj:=aI.range ho;have HO:=zh ho;have Nh:Hid (w0.heap.size<=W'.heap.size):=(aa.below hW).size;have Wq:Hid (∀k∈SL,k<W'.heap.size):=fun k hk=>(Kj k hk).2
 clear ho hb Kj
 (try simp only[zA])
 refine gF (v:=?_) rfl ?_ hW ?_;rotate_left;(go_simp;with_reducible rfl)
 simp only[zA]
 refine iF (v:=?_) (ob:=?_) rfl ?_ hW ?_;rotate_left 2
 (go_simp;first | with_reducible rfl | (refine⟨?_,?_⟩ <;> with_reducible rfl))
 intro w8 gJ iX
 replace hW:=iX
 clear iX;skip
 (try simp only[zA])
 simp only[bj];obtain⟨sb,nQ⟩:∃sb,sb=W'.heap.size:=⟨_,rfl⟩
 rw[<- nQ]
 have Wr:cC w8 sb (kw p (.slice P0 p.nodes.length eP) (.slice P1 p.ac3.length eB) (.slice A n.ends.length c) (.slice A2 n.ids.length c2) (.slice A3 n.ac1.length c3) (.slice AU mU cU) (.slice none 0 0) 0):=by rw[gJ,nQ];exact cC.new _ _ _
 have Kk:Below W'.heap.size W' w8:=by rw[gJ];exact ao _ _
 have Kl:w8.heap.size=sb+1:=by rw[gJ,nQ];simp
 have uO:cj w8 sb (kw p (.slice P0 p.nodes.length eP) (.slice P1 p.ac3.length eB) (.slice A n.ends.length c) (.slice A2 n.ids.length c2) (.slice A3 n.ac1.length c3) (.slice AU mU cU) (.slice none 0 0) 0) l [] (.slice AU mU cU) (.slice none 0 0) SL w0.heap.size:=⟨Wr,aI.ac2 HO.out Kk,by rw[nQ];exact Wq.out,⟨_,World.ownsRow_nil _ _ _ _,rfl⟩⟩
 have pR:=zh uO;have kD:=zh Kl;have HW8:=zh hW
 have Km:Hid (w0.heap.size<=sb):=by
  show _<=_
  rw[nQ];exact Nh.out
 clear gJ nQ Wr Kk Kl uO hW HO Wq;go_wp2
 go_loopw [19] (fun i wr=>∃(k:Nat) (uf:Value),k<=l.length/\i=.int .i64 k/\cj wr sb (kw p (.slice P0 p.nodes.length eP) (.slice P1 p.ac3.length eB) (.slice A n.ends.length c) (.slice A2 n.ids.length c2) (.slice A3 n.ac1.length c3) (.slice AU mU cU) uf 0) l (gQ l k) (.slice AU mU cU) uf SL w0.heap.size/\aa w0 wr/\sb+1<=wr.heap.size) (fun i _=>l.length-(intOf i).toNat)
 case atStart=>exact⟨0,_,Nat.zero_le _,rfl,pR.out,HW8.out,Nat.le_of_eq kD.out.symm⟩
 case round=>
  obtain⟨k,uf,hk,rfl,uO,hb,eR⟩:=hrel;have pR:=zh uO;have Hb:=zh hb;have jw:=zh eR;clear uO hb eR
  by_cases aH:k<l.length
  ·obtain⟨row,b,off,A1,z1,hx,rfl,dG,dP,eO,j6⟩:=dT HL.out aH;have q1:=ab dG;have hq:=q1 _ Hb.out;have Cw:=Bv.out k row hx;have ch:=zh hx;have HX:=zh j6;clear dG j6 hx;go_upto_region 6 with(fail)
   go_loopw [27] (fun i wr=>∃(j:Nat) (uf:Value),j<=row.length/\i=.int .i64 j/\cj wr sb (kw p (.slice P0 p.nodes.length eP) (.slice P1 p.ac3.length eB) (.slice A n.ends.length c) (.slice A2 n.ids.length c2) (.slice A3 n.ac1.length c3) (.slice AU mU cU) uf 0) l (gQ l k++fQ k row j) (.slice AU mU cU) uf SL w0.heap.size/\aa w0 wr/\sb+1<=wr.heap.size) (fun i _=>row.length-(intOf i).toNat)
   case atStart=>exact⟨0,uf,Nat.zero_le _,rfl,by have:=pR.out;simpa[fQ]using this,Hb.out,jw.out⟩
   case round=>
    obtain⟨j,ug,hj,rfl,uO,hb,eR⟩:=hrel;have Er:=zh uO;have Oj:=zh hb;have ud:=zh eR;clear uO hb eR hq
    by_cases yY:j<row.length
    ·obtain⟨A',c',e,-,-,nN⟩:=HX.out;cases e;obtain⟨x,b1,D5,hx,rfl,sr⟩:=ee nN yY;have hqx:=ab sr _ Oj.out
     have Ws:Hid (fQ k row (j+1)=fQ k row j++(if x<0 then [((k:Int),(j:Int))] else [])):=by show _=_;rw[tx,ak hx]
     clear hx sr nN
     by_cases qz:x<0
     ·have dQ:=zh (Hfl.out k j row hk (by omega));obtain⟨PL,RX⟩:∃PL,PL=gQ l k++fQ k row j:=⟨_,rfl⟩
      rw[<- RX]at Er dQ;have HPL:=zh RX;clear RX;have d8:=(Er.out.1.cell 8 ug rfl).1
      have ju:sb+1<=(wr.alloc (.cells #[.int .i64 k,.int .i64 j] 104)).heap.size:=by have:=ud.out;simp;omega
      have HoE:Hid (∃T,eq (wr.alloc (.cells #[.int .i64 k,.int .i64 j] 104)) (sb+1) ug PL T):=by
       obtain⟨T,hT⟩:=Er.out.2.2.2;exact⟨T,fY.ac2 hT (ao _ _)⟩
      have mA:=zh ju;clear ju;have d8b:(wr.alloc (.cells #[.int .i64 k,.int .i64 j] 104)).cell? ⟨sb,8,none⟩=some ug:=((Er.out.1.alloc _).cell 8 ug rfl).1
      go_wp2_with (at_builtin;refine Cu rfl _ _ rfl rfl HoE.out wr.heap.size ((k:Int),(j:Int)) rfl (by simp[go_sem]) (by simp[go_sem]) dQ.out mA.out ?_;intro g cap w3 iH nB Oi RY;obtain⟨kb,RQ,RR,Ql⟩:=cj.push Er.out iH nB Oi ud.out;have hd3:=(kb.cell 8 ug rfl).1;have hf3:=(kb.cell 8 ug rfl).2;have Wt:=zh RQ;have Qo:=zh RR;have Qm:=zh Ql;clear RQ RR Ql iH nB Oi RY kb)
      go_roundw
      case rel=>exact⟨j+1,_,by omega,by go_num,by rw[Ws.out,if_pos qz,<- List.append_assoc,<- HPL.out];exact Wt.out,Qo.out w0 Oj.out Km.out,Qm.out⟩
      case measure=>simp[intOf];omega
     ·go_wp2;go_roundw
      case rel=>exact⟨j+1,ug,by omega,by go_num,by rw[Ws.out,if_neg qz,List.append_nil];exact Er.out,Oj.out,ud.out⟩
      case measure=>simp[intOf];omega
    ·obtain rfl:j=row.length:=by omega
     have Hn:Hid (gQ l (k+1)=gQ l k++fQ k row row.length):=by show _=_;rw[qv,ak ch.out];rfl
     go_wp2;go_roundw
     case rel=>exact⟨k+1,ug,by omega,by go_num,by rw[Hn.out];exact Er.out,Oj.out,ud.out⟩
     case measure=>simp[intOf];omega
  ·obtain rfl:k=l.length:=by omega
   have Hf:Hid (cj wr sb (kw p (.slice P0 p.nodes.length eP) (.slice P1 p.ac3.length eB) (.slice A n.ends.length c) (.slice A2 n.ids.length c2) (.slice A3 n.ac1.length c3) (.slice AU mU cU) uf 0) l (fB l) (.slice AU mU cU) uf SL w0.heap.size):=pR.out;have Wu:=bQ.out.size;go_wp2;go_ret;exact⟨sb,_,uf,SL,rfl,⟨Hf.out.1,aI.mono Hf.out.2.1 Wu,Hf.out.2.2⟩,Nat.le_trans Wu Km.out,aa.after bQ.out Hb.out⟩
theorem ot (pa pb ve vi vn vl:Value) (p:az) (n:aw) (l:List (List Int)) (most:Int) (w:World) (hp:di w pa pb p) (h:aU w ve vi vn n) (hl:a_ w vl l) (Ki:l.length<=40) (mW:∀(v:Nat) (row:List Int),l[v]?=some row->row.length<=6):
  Calls Tryz.prog 40 #[.agg #[.int .i64 p.labels,.int .i64 p.degree,pa,pb],.agg #[ve,vi,vn],vl,.int .i64 most] w fun e w'=>∃sb ul uf SL,e=.returned (.pointer (some ⟨sb,0,none⟩))/\cj w' sb (jv p pa pb ve vi vn ul uf 0 0 most true) l (fB l) ul uf SL w.heap.size/\w.heap.size<=sb/\Below w.heap.size w w':=by
 obtain⟨w0,ar⟩:∃w0,w0=((w).alloc (.cells #[.int .i64 p.labels,.int .i64 p.degree,pa,pb] 26)).alloc (.cells #[ve,vi,vn] 30):=⟨_,rfl⟩
 have bG:Below w.heap.size w w0:=by rw[ar];exact(((Below.refl _ _).alloc (by simp <;> omega) _).alloc (by simp <;> omega) _)
 have H:=zh (h.ac2 bG);obtain⟨h1,h2,h3⟩:=h.ac2 bG;obtain⟨A,c,rfl,f_,hm,hA⟩:=h1;obtain⟨A2,c2,rfl,_,fq,_⟩:=h2;obtain⟨A3,c3,rfl,_,fF,_⟩:=h3;unfold maxLen at hm fq fF;have cZ:=hp.ac2 bG;have HP:=zh cZ;obtain⟨P0,eP,rfl,ji,dX,bZ⟩:=id cZ.1;unfold maxLen at dX;have jj:=zh bZ;clear bZ;obtain⟨P1,eB,rfl,jk,dY,b_⟩:=id cZ.2;unfold maxLen at dY;have jl:=zh b_;clear b_;clear cZ hp
 have gP:∀W,aa w0 W->W.cell? ⟨w.heap.size,0,none⟩=some (.int .i64 p.labels):=ab (by rw[ar];simp)
 have ig:∀W,aa w0 W->W.cell? ⟨w.heap.size,1,none⟩=some (.int .i64 p.degree):=ab (by rw[ar];simp)
 have ii:∀W,aa w0 W->W.cell? ⟨w.heap.size,2,none⟩=some (.slice P0 p.nodes.length eP):=ab (by rw[ar];simp)
 have mL:∀W,aa w0 W->W.cell? ⟨w.heap.size,3,none⟩=some (.slice P1 p.ac3.length eB):=ab (by rw[ar];simp)
 have rJ:∀W,aa w0 W->W.cell? ⟨w.heap.size+1,0,none⟩=some (.slice A n.ends.length c):=ab (by rw[ar];simp)
 have tD:∀W,aa w0 W->W.cell? ⟨w.heap.size+1,1,none⟩=some (.slice A2 n.ids.length c2):=ab (by rw[ar];simp)
 have tE:∀W,aa w0 W->W.cell? ⟨w.heap.size+1,2,none⟩=some (.slice A3 n.ac1.length c3):=ab (by rw[ar];simp)
 have bQ:=zh bG;have cS:=zh ar;have HA:=zh hA;clear hA h;clear bG ar;have HL:=zh (hl.ac2 bQ.out);obtain⟨AL,cL,rfl,Qn,yi,-⟩:=hl;unfold maxLen at yi;have Bv:=zh mW
 have Hfl:Hid (∀(k j:Nat) (row:List Int),k<=l.length->j<=6->(gQ l k++fQ k row j).length+1<=1000000):=by
  intro k j row hk hj;have h1:=wd mW k;have h2:=sX k row j;rw[List.length_append];omega
 clear mW
 go_enter Tryz.func40,Tryz.ntmps40
 go_upto_region 1 with(fail);rw[<- cS.out];refine fh (w0:=w0) 7 [false,false,false,true,false,true,true] (by kernel_rfl) (by kernel_rfl) (ad _) ?_;simp only[ek,dD,zT]
 iterate 4 (apply ei rfl;(intro W hW;go_simp;with_reducible rfl);simp only[zA])
 intro W hW;refine Or.inl ⟨rfl,?_⟩
 go_simp
 (with_reducible refine(Cv _ l W w0.heap.size hW.below.size (HL.out.ac2 hW.below) (by omega) (fun v row hv=>Nat.le_trans (Bv.out v row hv) (by omega))).mono ?_)
 rintro e W' ⟨ul,SL,rfl,ho,hb⟩;refine⟨_,rfl,hW.trans hb,?_⟩
 replace hW:=hW.trans hb
 obtain⟨AU,mU,cU,rfl⟩:=aI.one ho;have Kj:=aI.range ho;have HO:=zh ho;have Nh:Hid (w0.heap.size<=W'.heap.size):=(aa.below hW).size;have Wq:Hid (∀k∈SL,k<W'.heap.size):=fun k hk=>(Kj k hk).2
 clear ho hb Kj
 (try simp only[zA])
 refine gF (v:=?_) rfl ?_ hW ?_;rotate_left;(go_simp;with_reducible rfl)
 simp only[zA]
 refine iF (v:=?_) (ob:=?_) rfl ?_ hW ?_;rotate_left 2
 (go_simp;first | with_reducible rfl | (refine⟨?_,?_⟩ <;> with_reducible rfl))
 intro w8 gJ iX
 replace hW:=iX
 clear iX;skip
 (try simp only[zA])
 simp only[bj];obtain⟨sb,nQ⟩:∃sb,sb=W'.heap.size:=⟨_,rfl⟩
 rw[<- nQ]
 have Wr:cC w8 sb (jv p (.slice P0 p.nodes.length eP) (.slice P1 p.ac3.length eB) (.slice A n.ends.length c) (.slice A2 n.ids.length c2) (.slice A3 n.ac1.length c3) (.slice AU mU cU) (.slice none 0 0) 0 0 most true):=by rw[gJ,nQ];exact cC.new _ _ _
 have Kk:Below W'.heap.size W' w8:=by rw[gJ];exact ao _ _
 have Kl:w8.heap.size=sb+1:=by rw[gJ,nQ];simp
 have uO:cj w8 sb (jv p (.slice P0 p.nodes.length eP) (.slice P1 p.ac3.length eB) (.slice A n.ends.length c) (.slice A2 n.ids.length c2) (.slice A3 n.ac1.length c3) (.slice AU mU cU) (.slice none 0 0) 0 0 most true) l [] (.slice AU mU cU) (.slice none 0 0) SL w0.heap.size:=⟨Wr,aI.ac2 HO.out Kk,by rw[nQ];exact Wq.out,⟨_,World.ownsRow_nil _ _ _ _,rfl⟩⟩
 have pR:=zh uO;have kD:=zh Kl;have HW8:=zh hW
 have Km:Hid (w0.heap.size<=sb):=by
  show _<=_
  rw[nQ];exact Nh.out
 clear gJ nQ Wr Kk Kl uO hW HO Wq;go_wp2
 go_loopw [23] (fun i wr=>∃(k:Nat) (uf:Value),k<=l.length/\i=.int .i64 k/\cj wr sb (jv p (.slice P0 p.nodes.length eP) (.slice P1 p.ac3.length eB) (.slice A n.ends.length c) (.slice A2 n.ids.length c2) (.slice A3 n.ac1.length c3) (.slice AU mU cU) uf 0 0 most true) l (gQ l k) (.slice AU mU cU) uf SL w0.heap.size/\aa w0 wr/\sb+1<=wr.heap.size) (fun i _=>l.length-(intOf i).toNat)
 case atStart=>exact⟨0,_,Nat.zero_le _,rfl,pR.out,HW8.out,Nat.le_of_eq kD.out.symm⟩
 case round=>
  obtain⟨k,uf,hk,rfl,uO,hb,eR⟩:=hrel;have pR:=zh uO;have Hb:=zh hb;have jw:=zh eR;clear uO hb eR
  by_cases aH:k<l.length
  ·obtain⟨row,b,off,A1,z1,hx,rfl,dG,dP,eO,j6⟩:=dT HL.out aH;have q1:=ab dG;have hq:=q1 _ Hb.out;have Cw:=Bv.out k row hx;have ch:=zh hx;have HX:=zh j6;clear dG j6 hx;go_upto_region 6 with(fail)
   go_loopw [30] (fun i wr=>∃(j:Nat) (uf:Value),j<=row.length/\i=.int .i64 j/\cj wr sb (jv p (.slice P0 p.nodes.length eP) (.slice P1 p.ac3.length eB) (.slice A n.ends.length c) (.slice A2 n.ids.length c2) (.slice A3 n.ac1.length c3) (.slice AU mU cU) uf 0 0 most true) l (gQ l k++fQ k row j) (.slice AU mU cU) uf SL w0.heap.size/\aa w0 wr/\sb+1<=wr.heap.size) (fun i _=>row.length-(intOf i).toNat)
   case atStart=>exact⟨0,uf,Nat.zero_le _,rfl,by have:=pR.out;simpa[fQ]using this,Hb.out,jw.out⟩
   case round=>
    obtain⟨j,ug,hj,rfl,uO,hb,eR⟩:=hrel;have Er:=zh uO;have Oj:=zh hb;have ud:=zh eR;clear uO hb eR hq
    by_cases yY:j<row.length
    ·obtain⟨A',c',e,-,-,nN⟩:=HX.out;cases e;obtain⟨x,b1,D5,hx,rfl,sr⟩:=ee nN yY;have hqx:=ab sr _ Oj.out
     have Ws:Hid (fQ k row (j+1)=fQ k row j++(if x<0 then [((k:Int),(j:Int))] else [])):=by show _=_;rw[tx,ak hx]
     clear hx sr nN
     by_cases qz:x<0
     ·have dQ:=zh (Hfl.out k j row hk (by omega));obtain⟨PL,RX⟩:∃PL,PL=gQ l k++fQ k row j:=⟨_,rfl⟩
      rw[<- RX]at Er dQ;have HPL:=zh RX;clear RX;have d8:=(Er.out.1.cell 8 ug rfl).1
      have ju:sb+1<=(wr.alloc (.cells #[.int .i64 k,.int .i64 j] 104)).heap.size:=by have:=ud.out;simp;omega
      have HoE:Hid (∃T,eq (wr.alloc (.cells #[.int .i64 k,.int .i64 j] 104)) (sb+1) ug PL T):=by
       obtain⟨T,hT⟩:=Er.out.2.2.2;exact⟨T,fY.ac2 hT (ao _ _)⟩
      have mA:=zh ju;clear ju;have d8b:(wr.alloc (.cells #[.int .i64 k,.int .i64 j] 104)).cell? ⟨sb,8,none⟩=some ug:=((Er.out.1.alloc _).cell 8 ug rfl).1
      go_wp2_with (at_builtin;refine Cu rfl _ _ rfl rfl HoE.out wr.heap.size ((k:Int),(j:Int)) rfl (by simp[go_sem]) (by simp[go_sem]) dQ.out mA.out ?_;intro g cap w3 iH nB Oi RY;obtain⟨kb,RQ,RR,Ql⟩:=cj.push Er.out iH nB Oi ud.out;have hd3:=(kb.cell 8 ug rfl).1;have hf3:=(kb.cell 8 ug rfl).2;have Wt:=zh RQ;have Qo:=zh RR;have Qm:=zh Ql;clear RQ RR Ql iH nB Oi RY kb)
      go_roundw
      case rel=>exact⟨j+1,_,by omega,by go_num,by rw[Ws.out,if_pos qz,<- List.append_assoc,<- HPL.out];exact Wt.out,Qo.out w0 Oj.out Km.out,Qm.out⟩
      case measure=>simp[intOf];omega
     ·go_wp2;go_roundw
      case rel=>exact⟨j+1,ug,by omega,by go_num,by rw[Ws.out,if_neg qz,List.append_nil];exact Er.out,Oj.out,ud.out⟩
      case measure=>simp[intOf];omega
    ·obtain rfl:j=row.length:=by omega
     have Hn:Hid (gQ l (k+1)=gQ l k++fQ k row row.length):=by show _=_;rw[qv,ak ch.out];rfl
     go_wp2;go_roundw
     case rel=>exact⟨k+1,ug,by omega,by go_num,by rw[Hn.out];exact Er.out,Oj.out,ud.out⟩
     case measure=>simp[intOf];omega
  ·obtain rfl:k=l.length:=by omega
   have Hf:Hid (cj wr sb (jv p (.slice P0 p.nodes.length eP) (.slice P1 p.ac3.length eB) (.slice A n.ends.length c) (.slice A2 n.ids.length c2) (.slice A3 n.ac1.length c3) (.slice AU mU cU) uf 0 0 most true) l (fB l) (.slice AU mU cU) uf SL w0.heap.size):=pR.out;have Wu:=bQ.out.size;go_wp2;go_ret;exact⟨sb,_,uf,SL,rfl,⟨Hf.out.1,aI.mono Hf.out.2.1 Wu,Hf.out.2.2⟩,Nat.le_trans Wu Km.out,aa.after bQ.out Hb.out⟩
theorem cj.ac8 {w w':World} {sb:Nat} {vs:Array Value} {l:List (List Int)} {ah:List (Int×Int)} {ul uf:Value} {SL:List Nat} {B:Nat} (h:cj w sb vs l ah ul uf SL B) (hb:Below w.heap.size w w'):cj w' sb vs l ah ul uf SL B:=by
 obtain⟨h1,h2,h3,T,h4⟩:=h;exact⟨h1.below hb h1.lt,aI.ac2 h2 hb,h3,T,fY.ac2 h4 hb⟩
theorem cj.rows {w:World} {sb:Nat} {vs:Array Value} {l:List (List Int)} {ah:List (Int×Int)} {ul uf:Value} {SL:List Nat} {B:Nat} (h:cj w sb vs l ah ul uf SL B):a_ w ul l:=by
 obtain⟨-,h2,-⟩:=h;exact h2.read
theorem cj.field {w:World} {sb:Nat} {vs:Array Value} {l:List (List Int)} {ah:List (Int×Int)} {ul uf:Value} {SL:List Nat} {B:Nat} (h:cj w sb vs l ah ul uf SL B) (hB:B<=sb) (i:Nat) (u:Value):
  cj (w.setCell ⟨sb,i,none⟩ u) sb (vs.setIfInBounds i u) l ah ul uf SL B/\Below B w (w.setCell ⟨sb,i,none⟩ u)/\aR (sb::SL) w (w.setCell ⟨sb,i,none⟩ u):=by
 obtain⟨h1,h2,h3,T,h4⟩:=h;have aH:=h1.lt
 refine⟨⟨h1.put i u,aI.ac4 h2 fun k hk=>Below.heap_setCell _ _ _ k (by have:=h3 k hk;show k≠sb;omega),h3,T,ej.put fY h4 (by show sb<sb+1;omega) u⟩,(Below.refl _ _).setCell (show B<=sb from hB) u,(aR.refl _ _).setCell (.inl (by simp)) u⟩
theorem cj.label {w:World} {sb:Nat} {vs:Array Value} {l:List (List Int)} {ah:List (Int×Int)} {ul uf:Value} {SL:List Nat} {B:Nat} (h:cj w sb vs l ah ul uf SL B) {v i:Nat} {row:List Int} {x:Int} (hv:l[v]?=some row) (hi:row[i]?=some x):
  ∃gl cl gr cr,ul=.slice (some ⟨gl,0,none⟩) l.length cl/\w.cell? ⟨gl,v,none⟩=some (.slice (some ⟨gr,0,none⟩) row.length cr)/\w.cell? ⟨gr,i,none⟩=some (.int .i64 x)/\w.frozen? ⟨gr,i,none⟩=false/\gr∈SL /\
   ∀y,cj (w.setCell ⟨gr,i,none⟩ (.int .i64 y)) sb vs (dA l ((v:Int),(i:Int)) y) ah ul uf SL B/\Below B w (w.setCell ⟨gr,i,none⟩ (.int .i64 y))/\aR (sb::SL) w (w.setCell ⟨gr,i,none⟩ (.int .i64 y)):=by
 obtain⟨h1,h2,h3,T4,h4⟩:=h;have hr:=h2.read;obtain⟨AL,cl,rfl,qs,-,-⟩:=hr
 have Wv:∃gl,AL=some ⟨gl,0,none⟩:=by
  obtain⟨vs',Ss,r1,-⟩:=h2;rcases dh r1 with⟨e,h0⟩ | ⟨g,c,e,-⟩
  ·have:=al hv;omega
  ·cases e;exact⟨g,rfl⟩
 obtain⟨gl,rfl⟩:=Wv;obtain⟨u,T,c1,hu,hT,j8⟩:=bg.adE er h2 hv;obtain⟨Jr,Ol⟩:=hu;rcases Jr.cases with⟨rfl,h0⟩ | ⟨gr,cr,rfl,FV,Ec⟩
 ·subst h0;simp at hi
 ·have xQ:gr∈T:=by rw[Ol];simp[Value.ownBlock]
  have uI:=hT gr xQ;have acj:=h3 gr uI;refine⟨gl,cl,gr,cr,rfl,c1,Jr.cell hi,Jr.free i,uI,fun y=>?_⟩
  have ey:aR T w (w.setCell ⟨gr,i,none⟩ (.int .i64 y)):=(aR.refl _ _).setCell (.inl xQ) _
  have hn:=j8 (row.set i y) _ ⟨by have:=Jr.set (k:=i) y;simpa using this,Ol⟩ ey
  refine⟨⟨h1.set (by show gr≠sb;omega),?_,h3,T4,ej.put fY h4 (by show gr<sb+1;omega) _⟩,(Below.refl _ _).setCell (show B<=gr from(aI.range h2 gr uI).1) _,(aR.refl _ _).setCell (.inl (List.mem_cons_of_mem _ uI)) _⟩
  unfold dA;simp only[Int.toNat_natCast];rw[ak hv];have e:(l.set v (row.set i y)).length=l.length:=List.length_set;exact hn
theorem dk {W:World} {sb:Nat} {p:az} {pa pb va vb vc ul uf:Value} {st:Int} (h:cC W sb (kw p pa pb va vb vc ul uf st)):W.cell? ⟨sb,0,none⟩=some (.int .i64 p.labels)/\W.cell? ⟨sb,1,none⟩=some (.int .i64 p.degree)/\W.cell? ⟨sb,2,none⟩=some (pa)/\W.cell? ⟨sb,3,none⟩=some (pb)/\W.cell? ⟨sb,4,none⟩=some (va)/\W.cell? ⟨sb,5,none⟩=some (vb)/\W.cell? ⟨sb,6,none⟩=some (vc)/\W.cell? ⟨sb,7,none⟩=some (ul)/\W.cell? ⟨sb,8,none⟩=some (uf)/\W.cell? ⟨sb,9,none⟩=some (.int .i64 st):=
 ⟨(h.cell 0 _ rfl).1,(h.cell 1 _ rfl).1,(h.cell 2 _ rfl).1,(h.cell 3 _ rfl).1,(h.cell 4 _ rfl).1,(h.cell 5 _ rfl).1,(h.cell 6 _ rfl).1,(h.cell 7 _ rfl).1,(h.cell 8 _ rfl).1,(h.cell 9 _ rfl).1⟩
theorem cn {W:World} {sb:Nat} {p:az} {pa pb va vb vc ul uf:Value} {i st most:Int} {fr:Bool} (h:cC W sb (jv p pa pb va vb vc ul uf i st most fr)):W.cell? ⟨sb,0,none⟩=some (.int .i64 p.labels)/\W.cell? ⟨sb,1,none⟩=some (.int .i64 p.degree)/\W.cell? ⟨sb,2,none⟩=some (pa)/\W.cell? ⟨sb,3,none⟩=some (pb)/\W.cell? ⟨sb,4,none⟩=some (va)/\W.cell? ⟨sb,5,none⟩=some (vb)/\W.cell? ⟨sb,6,none⟩=some (vc)/\W.cell? ⟨sb,7,none⟩=some (ul)/\W.cell? ⟨sb,8,none⟩=some (uf)/\W.cell? ⟨sb,9,none⟩=some (.int .i64 i)/\W.cell? ⟨sb,10,none⟩=some (.int .i64 st)/\W.cell? ⟨sb,11,none⟩=some (.int .i64 most)/\W.cell? ⟨sb,12,none⟩=some (.bool fr):=
 ⟨(h.cell 0 _ rfl).1,(h.cell 1 _ rfl).1,(h.cell 2 _ rfl).1,(h.cell 3 _ rfl).1,(h.cell 4 _ rfl).1,(h.cell 5 _ rfl).1,(h.cell 6 _ rfl).1,(h.cell 7 _ rfl).1,(h.cell 8 _ rfl).1,(h.cell 9 _ rfl).1,(h.cell 10 _ rfl).1,(h.cell 11 _ rfl).1,(h.cell 12 _ rfl).1⟩
def rK (hi:Int) (l:List (List Int)):Prop:=∀(v:Nat) (row:List Int) (i:Nat) (x:Int),l[v]?=some row->row[i]?=some x -> -1<=x/\x<=hi
theorem jQ {l:List (List Int)} {v i:Nat} {row:List Int} {y:Int} (hv:l[v]?=some row) (hi:i<row.length):
  (dA l ((v:Int),(i:Int)) y)[v]?=some (row.set i y)/\∀k,k≠v->(dA l ((v:Int),(i:Int)) y)[k]?=l[k]?:=by
 unfold dA;simp only[Int.toNat_natCast];rw[ak hv];exact⟨List.getElem?_set_self (al hv),fun k hk=>List.getElem?_set_ne (Ne.symm hk)⟩
theorem jR {l:List (List Int)} {v i:Nat} {row:List Int} {y hi:Int} (h:rK hi l) (hv:l[v]?=some row) (wg:i<row.length) (hy : -1<=y/\y<=hi):rK hi (dA l ((v:Int),(i:Int)) y):=by
 obtain⟨p1,p2⟩:=jQ (y:=y) hv wg;intro k r j x hk hj
 by_cases Iw:k=v
 ·subst Iw;rw[p1]at hk;cases hk
  by_cases nV:j=i
  ·subst nV;rw[List.getElem?_set_self wg]at hj
   cases hj;exact hy
  ·rw[List.getElem?_set_ne (Ne.symm nV)]at hj;exact h k row j x hv hj
 ·rw[p2 k Iw]at hk;exact h k r j x hk hj
theorem Kn (l:List (List Int)) (e:Int×Int) (y:Int):(dA l e y).length=l.length:=by unfold dA;simp
theorem gC {dl:List (List (Int×Int))} {l:List (List Int)} {v i:Nat} {row:List Int} {y:Int} (h:eC dl l) (hv:l[v]?=some row) (wg:i<row.length):eC dl (dA l ((v:Int),(i:Int)) y):=by
 obtain⟨p1,p2⟩:=jQ (y:=y) hv wg
 refine⟨by rw[Kn];exact h.1,fun k es r ca hk=>?_⟩
 by_cases Iw:k=v
 ·subst Iw;rw[p1]at hk;cases hk;rw[List.length_set];exact h.2 k es row ca hv
 ·rw[p2 k Iw]at hk;exact h.2 k es r ca hk
def mX (dl:List (List (Int×Int))) (ah:List (Int×Int)):Prop:=∀(k:Nat) (e:Int×Int),ah[k]?=some e->∃(v i:Nat) (es:List (Int×Int)),e=((v:Int),(i:Int))/\dl[v]?=some es/\i<es.length
theorem Ix {l:List (List Int)} {k:Nat} {e:Int×Int} (h:e∈gQ l k):∃(v i:Nat) (row:List Int),e=((v:Int),(i:Int))/\v<k/\l.getD v []=row/\i<row.length:=by
 unfold gQ at h;rw[List.mem_flatMap]at h;obtain⟨v,hv,he⟩:=h;unfold yW at he;rw[List.mem_map]at he;obtain⟨i,hi,rfl⟩:=he;rw[List.mem_filter]at hi;exact⟨v,i,_,rfl,List.mem_range.1 hv,rfl,List.mem_range.1 hi.1⟩
theorem mn {dl:List (List (Int×Int))} {l:List (List Int)} (h:eC dl l):mX dl (fB l):=by
 intro k e hk;obtain⟨v,i,row,rfl,hv,hr,hi⟩:=Ix (List.mem_of_getElem? hk);obtain⟨fo,aD⟩:=ay l v hv;rw[ak aD]at hr;subst hr
 obtain⟨es,ca⟩:=ay dl v (by rw[<- h.1];exact hv)
 exact⟨v,i,es,rfl,ca,by rw[<- h.2 v es fo ca aD];exact hi⟩
def jS (w:World) (b i:Nat):Int:=match w.cell? ⟨b,i,none⟩with | some (.int .i64 z)=>z | _=>0
theorem cx {w:World} {b i:Nat} {z:Int} (h:w.cell? ⟨b,i,none⟩=some (.int .i64 z)):jS w b i=z:=by unfold jS;rw[h]
theorem ou {w:World} {base:Nat} {uf:Value} {ah:List (Int×Int)} {T:List Nat} (h:eq w base uf ah T):∃A c,uf=.slice A ah.length c/\ah.length<=c/\c<=maxLen/\∀(k:Nat) (e:Int×Int),ah[k]?=some e->∃b off,A=some ⟨b,off,none⟩/\w.cell? ⟨b,off+k*2,none⟩=some (.int .i64 e.1)/\w.cell? ⟨b,off+k*2+1,none⟩=some (.int .i64 e.2):=by
 obtain⟨A,c,rfl,h1,h2,h3⟩:=h.read;exact⟨A,c,rfl,h1,h2,h3⟩
theorem cj.rowAt {w:World} {sb:Nat} {vs:Array Value} {l:List (List Int)} {ah:List (Int×Int)} {A:Option Addr} {k c:Nat} {uf:Value} {SL:List Nat} {B:Nat} (h:cj w sb vs l ah (.slice A k c) uf SL B) {v:Nat} {row:List Int} (hv:l[v]?=some row):
  ∃b off u,A=some ⟨b,off,none⟩/\w.cell? ⟨b,off+v,none⟩=some u/\bO w u row:=by
 obtain⟨A',c',e,-,-,hA⟩:=h.rows
 injection e with e1 e2 e3
 subst e1;obtain⟨b,off,u,h1,h2,h3⟩:=hA v row hv;exact⟨b,off,u,h1,h2,h3⟩
theorem cj.adh {w:World} {sb:Nat} {vs:Array Value} {l:List (List Int)} {ah:List (Int×Int)} {uf:Value} {SL:List Nat} {B gl gr k cl m cr:Nat} (h:cj w sb vs l ah (.slice (some ⟨gl,0,none⟩) k cl) uf SL B) {v i:Nat} {row:List Int} {x:Int} (hv:l[v]?=some row) (hi:row[i]?=some x)
  (hc:w.cell? ⟨gl,v,none⟩=some (.slice (some ⟨gr,0,none⟩) m cr)):w.cell? ⟨gr,i,none⟩=some (.int .i64 x)/\w.frozen? ⟨gr,i,none⟩=false/\gr∈SL /\
   ∀y,cj (w.setCell ⟨gr,i,none⟩ (.int .i64 y)) sb vs (dA l ((v:Int),(i:Int)) y) ah (.slice (some ⟨gl,0,none⟩) k cl) uf SL B/\Below B w (w.setCell ⟨gr,i,none⟩ (.int .i64 y))/\aR (sb::SL) w (w.setCell ⟨gr,i,none⟩ (.int .i64 y)):=by
 obtain⟨gl',cl',gr',cr',e,h1,h2,h3,h4,h5⟩:=h.label hv hi;simp only[Value.slice.injEq,Option.some.injEq,Addr.mk.injEq,and_true]at e;obtain⟨rfl,-,-⟩:=e;rw[h1]at hc;simp only[Option.some.injEq,Value.slice.injEq,Addr.mk.injEq,and_true]at hc;obtain⟨rfl,-,-⟩:=hc;exact⟨h2,h3,h4,h5⟩
section
variable (p : az) (ends : List (List (Int × Int))) (ah : List (Int × Int)) (most : Int) (F : Nat) {l : List (List Int)} {q v i : Nat} {st : Int} {row : List Int} {x : Int}
theorem Cx (hv:l[v]?=some row) (hi:row[i]?=some x):cF l ((v:Int),(i:Int))=x:=by
 unfold cF;simp only[Int.toNat_natCast];rw[ak hv,ak hi]
theorem Cy {σ:Type} (nx:σ->List (List Int)->Bool×σ) (s:σ) (hq:ah[q]?=some ((v:Int),(i:Int))) (hv:l[v]?=some row) (hi:row[i]?=some x) (ct:st<=most) (hf:ap most q st<=F):
  bW nx p ends ah most F s l q st=(if x=p.labels-1 then bW nx p ends ah most F s (dA l ((v:Int),(i:Int)) (-1)) ((q:Int)-1) st
   else if st=most then (s,3,l,(q:Int),st)
   else if (dL p (row.set i (x+1))&&fc p ends (dA l ((v:Int),(i:Int)) (x+1)) ((v:Int),(i:Int)))=true then bW nx p ends ah most F s (dA l ((v:Int),(i:Int)) (x+1)) ((q:Int)+1) (st+1)
   else bW nx p ends ah most F s (dA l ((v:Int),(i:Int)) (x+1)) q (st+1)):=by
 have zi:=al hq;rw[ir nx p ends ah most F s l q st ct (by omega) hf,if_neg (by omega),if_neg (by omega)];simp only[Int.toNat_natCast,ak hq,Cx hv hi];rw[ak (jQ (y:=x+1) hv (al hi)).1]
theorem F9 (hq:ah[q]?=some ((v:Int),(i:Int))) (hv:l[v]?=some row) (hi:row[i]?=some x) (ct:st<=most) (hf:ap most q st<=F):
  ft p ends ah most F l q st=(if x=p.labels-1 then ft p ends ah most F (dA l ((v:Int),(i:Int)) (-1)) ((q:Int)-1) st
   else if st=most then (3,l,(q:Int),st)
   else if (dL p (row.set i (x+1))&&fc p ends (dA l ((v:Int),(i:Int)) (x+1)) ((v:Int),(i:Int)))=true then ft p ends ah most F (dA l ((v:Int),(i:Int)) (x+1)) ((q:Int)+1) (st+1)
   else ft p ends ah most F (dA l ((v:Int),(i:Int)) (x+1)) q (st+1)):=by
 have zi:=al hq;rw[mi p ends ah most F l q st ct (by omega) hf,if_neg (by omega),if_neg (by omega)];simp only[Int.toNat_natCast,ak hq,Cx hv hi];rw[ak (jQ (y:=x+1) hv (al hi)).1]
end
end Go.Proofs.YtnioemnkfojmkaaGreat
