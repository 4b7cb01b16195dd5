/- Parts of the proof: walks of functions and plain laws. -/
import Derived.Test.YtnioemnkfojmkaaGreatP0
import Derived.Test.YtnioemnkfojmkaaGreatP12
import Derived.Test.YtnioemnkfojmkaaGreatP10
import Derived.Test.YtnioemnkfojmkaaGreatP7
import Derived.Test.YtnioemnkfojmkaaGreatP6
import Derived.Deep.CutBlock
import Derived.Test.YtnioemnkfojmkaaGreatP24
set_option maxRecDepth 100000
set_option maxHeartbeats 16000000
namespace Go.Proofs.YtnioemnkfojmkaaGreat
open Go Go.RowKit
theorem xI (pa pb:Value) (p:az) (vl:Value) (xs:List Int) (w:World) (h:di w pa pb p) (hl:bO w vl xs) (hs:dR p.nodes) (sS:p.nodes.length<=1048576) (hx:xs.length<=1000):
  Calls Tryz.prog 93 #[.agg #[.int .i64 p.labels,.int .i64 p.degree,pa,pb],vl] w fun e w'=>e=.returned (.bool (p.nodes.contains (du xs)))/\Below w.heap.size w w':=by
 obtain⟨w0,ar⟩:∃w0,w0=(w).alloc (.cells #[.int .i64 p.labels,.int .i64 p.degree,pa,pb] 26):=⟨_,rfl⟩
 have bG:Below w.heap.size w w0:=by rw[ar];exact((Below.refl _ _).alloc (by simp) _)
 have cZ:=h.ac2 bG;have HP:=zh cZ;obtain⟨P0,eP,rfl,ji,dX,bZ⟩:=id cZ.1;unfold maxLen at dX;have jj:=zh bZ;clear bZ;obtain⟨P1,eB,rfl,jk,dY,b_⟩:=id cZ.2;unfold maxLen at dY;have jl:=zh b_;clear b_;clear cZ h
 have gP:∀W,aa w0 W->W.cell? ⟨w.heap.size,0,none⟩=some (.int .i64 p.labels):=ab (by rw[ar];simp)
 have ig:∀W,aa w0 W->W.cell? ⟨w.heap.size,1,none⟩=some (.int .i64 p.degree):=ab (by rw[ar];simp)
 have ii:∀W,aa w0 W->W.cell? ⟨w.heap.size,2,none⟩=some (.slice P0 p.nodes.length eP):=ab (by rw[ar];simp)
 have mL:∀W,aa w0 W->W.cell? ⟨w.heap.size,3,none⟩=some (.slice P1 p.ac3.length eB):=ab (by rw[ar];simp)
 have bQ:=zh bG;have cS:=zh ar;clear bG ar;have Hs:=zh hs;have HL:=zh (hl.ac2 bQ.out);obtain⟨AL,cL,rfl,-,-,-⟩:=hl;have yf:=zh (show ∀X,aa w0 X->a_ X (.slice P0 p.nodes.length eP) p.nodes from fun X hX=>(HP.out.ac2 hX).1)
 clear hs
 go_enter Tryz.func93,Tryz.ntmps93
 go_upto_region 1 with(fail);rw[<- cS.out];have bu:aa w0 w0:=ad _;go_wp2_with fail;obtain⟨r,hr⟩:∃r,p.nodes.contains (du xs)=r:=⟨_,rfl⟩
 have Hr:=zh hr;clear hr;refine(vV _ _ p.nodes xs _ (yf.out _ bu) HL.out Hs.out sS hx).mono ?_;rw[Hr.out];rintro e w1 ⟨rfl,aX⟩;have HS:=zh (aa.trans bu aX);clear aX bu;go_wp2;go_ret;exact⟨ce Hr.out.symm,aa.after bQ.out HS.out⟩
theorem yE (pa pb:Value) (p:az) (vl:Value) (xs:List Int) (w:World) (h:di w pa pb p) (hl:bO w vl xs) (fv:1<=p.labels/\p.labels<=8):
  Calls Tryz.prog 92 #[.agg #[.int .i64 p.labels,.int .i64 p.degree,pa,pb],vl] w fun e w'=>e=.returned (.bool (jL xs 0 (p.labels-1)))/\Below w.heap.size w w':=by
 obtain⟨w0,ar⟩:∃w0,w0=(w).alloc (.cells #[.int .i64 p.labels,.int .i64 p.degree,pa,pb] 26):=⟨_,rfl⟩
 have bG:Below w.heap.size w w0:=by rw[ar];exact((Below.refl _ _).alloc (by simp) _)
 have cZ:=h.ac2 bG;have HP:=zh cZ;obtain⟨P0,eP,rfl,ji,dX,bZ⟩:=id cZ.1;unfold maxLen at dX;have jj:=zh bZ;clear bZ;obtain⟨P1,eB,rfl,jk,dY,b_⟩:=id cZ.2;unfold maxLen at dY;have jl:=zh b_;clear b_;clear cZ h
 have gP:∀W,aa w0 W->W.cell? ⟨w.heap.size,0,none⟩=some (.int .i64 p.labels):=ab (by rw[ar];simp)
 have ig:∀W,aa w0 W->W.cell? ⟨w.heap.size,1,none⟩=some (.int .i64 p.degree):=ab (by rw[ar];simp)
 have ii:∀W,aa w0 W->W.cell? ⟨w.heap.size,2,none⟩=some (.slice P0 p.nodes.length eP):=ab (by rw[ar];simp)
 have mL:∀W,aa w0 W->W.cell? ⟨w.heap.size,3,none⟩=some (.slice P1 p.ac3.length eB):=ab (by rw[ar];simp)
 have bQ:=zh bG;have cS:=zh ar;clear bG ar;have HL:=zh (hl.ac2 bQ.out);obtain⟨AL,cL,rfl,-,-,-⟩:=hl;have hwx:IntKind.i64.wrap (p.labels-1)=p.labels-1:=aE _ (by omega) (by omega)
 go_enter Tryz.func92,Tryz.ntmps92
 go_upto_region 1 with(fail);rw[<- cS.out];have bu:aa w0 w0:=ad _;go_wp2_with fail;refine(iD _ xs _ _ _ HL.out).mono ?_;rintro e w1 ⟨rfl,aX⟩;have HS:=zh (aa.trans bu aX);clear aX bu;go_wp2;go_ret;exact⟨rfl,aa.after bQ.out HS.out⟩
theorem FJ:∀args w,(callFunc 91 args).run Tryz.prog w=.ok (.enter 91 args) w:=enters_of Tryz.func91 (by kernel_rfl) rfl
theorem PB (u:Value) (row:List Int) (bp:Nat) (pa pb:Value) (p:az) (w:World) (h:bO w u row) (hp:di w pa pb p) (fv:1<=p.labels/\p.labels<=8)
  (XD:w.cell? ⟨bp,0,none⟩=some (.int .i64 p.labels)) (dG:w.cell? ⟨bp,1,none⟩=some (.int .i64 p.degree)) (lK:w.cell? ⟨bp,2,none⟩=some pa) (DZ:w.cell? ⟨bp,3,none⟩=some pb):
  Calls Tryz.prog 91 #[u,.pointer (some ⟨bp,0,none⟩)] w fun e w'=>e=.returned (.bool (!jL row 0 (p.labels-1)))/\Below w.heap.size w w':=by
 have H:=zh h;have HP:=zh hp;obtain⟨A,c,rfl,-,-,-⟩:=h;obtain⟨⟨P0,z0,rfl,-,-,-⟩,⟨P1,z1,rfl,-,-,-⟩⟩:=hp
 go_enter Tryz.func91,Tryz.ntmps91
 go_wp2_with fail;refine(yE _ _ p _ row _ HP.out H.out fv).mono ?_;rintro e w1 ⟨rfl,hb⟩;go_wp2;go_ret;exact⟨rfl,hb⟩
theorem xJ (pa pb ve vi vn vl:Value) (p:az) (n:aw) (l:List (List Int)) (w:World) (hp:di w pa pb p) (h:aU w ve vi vn n) (hl:a_ w vl l) (fv:1<=p.labels/\p.labels<=8):
  Calls Tryz.prog 42 #[.agg #[.int .i64 p.labels,.int .i64 p.degree,pa,pb],.agg #[ve,vi,vn],vl] w fun e w'=>e=.returned (.bool (gu p n l))/\Below w.heap.size w w':=by
 obtain⟨w0,ar⟩:∃w0,w0=((w).alloc (.cells #[.int .i64 p.labels,.int .i64 p.degree,pa,pb] 26)).alloc (.cells #[ve,vi,vn] 30):=⟨_,rfl⟩
 have bG:Below w.heap.size w w0:=by rw[ar];exact(((Below.refl _ _).alloc (by simp <;> omega) _).alloc (by simp <;> omega) _)
 have H:=zh (h.ac2 bG);obtain⟨h1,h2,h3⟩:=h.ac2 bG;obtain⟨A,c,rfl,f_,hm,hA⟩:=h1;obtain⟨A2,c2,rfl,_,fq,_⟩:=h2;obtain⟨A3,c3,rfl,_,fF,_⟩:=h3;unfold maxLen at hm fq fF;have cZ:=hp.ac2 bG;have HP:=zh cZ;obtain⟨P0,eP,rfl,ji,dX,bZ⟩:=id cZ.1;unfold maxLen at dX;have jj:=zh bZ;clear bZ;obtain⟨P1,eB,rfl,jk,dY,b_⟩:=id cZ.2;unfold maxLen at dY;have jl:=zh b_;clear b_;clear cZ hp
 have gP:∀W,aa w0 W->W.cell? ⟨w.heap.size,0,none⟩=some (.int .i64 p.labels):=ab (by rw[ar];simp)
 have ig:∀W,aa w0 W->W.cell? ⟨w.heap.size,1,none⟩=some (.int .i64 p.degree):=ab (by rw[ar];simp)
 have ii:∀W,aa w0 W->W.cell? ⟨w.heap.size,2,none⟩=some (.slice P0 p.nodes.length eP):=ab (by rw[ar];simp)
 have mL:∀W,aa w0 W->W.cell? ⟨w.heap.size,3,none⟩=some (.slice P1 p.ac3.length eB):=ab (by rw[ar];simp)
 have rJ:∀W,aa w0 W->W.cell? ⟨w.heap.size+1,0,none⟩=some (.slice A n.ends.length c):=ab (by rw[ar];simp)
 have tD:∀W,aa w0 W->W.cell? ⟨w.heap.size+1,1,none⟩=some (.slice A2 n.ids.length c2):=ab (by rw[ar];simp)
 have tE:∀W,aa w0 W->W.cell? ⟨w.heap.size+1,2,none⟩=some (.slice A3 n.ac1.length c3):=ab (by rw[ar];simp)
 have bQ:=zh bG;have cS:=zh ar;have HA:=zh hA;clear hA h;clear bG ar;have HL:=zh (show ∀X,aa w0 X->a_ X vl l from fun X hX=>(hl.ac2 bQ.out).ac2 hX.below)
 have iL:=zh (show ∀X,aa w0 X->aU X (.slice A n.ends.length c) (.slice A2 n.ids.length c2) (.slice A3 n.ac1.length c3) n from fun X hX=>H.out.ac2 hX.below)
 have f5:=zh (show ∀X,aa w0 X->di X (.slice P0 p.nodes.length eP) (.slice P1 p.ac3.length eB) p from fun X hX=>HP.out.ac2 hX)
 obtain⟨AL,cL,rfl,-,-,-⟩:=hl;have Np:=zh (And.intro gP (And.intro ig (And.intro ii mL)))
 go_enter Tryz.func42,Tryz.ntmps42
 go_upto_region 1 with(fail);rw[<- cS.out];have hs:aa w0 w0:=ad _;go_wp2_with fail;refine(tJ _ _ _ _ n l _ (iL.out _ hs) (HL.out _ hs)).mono ?_;rintro e W ⟨rfl,hb⟩;have hW:aa w0 W:=hs.trans hb;have HW:=zh hW;clear hb hs hW gP ig ii mL rJ tD tE;cases da:kj n l
 ·have Hr:Hid (gu p n l=false):=by show _=_;unfold gu;rw[da];rfl
  clear da;go_wp2;go_ret;exact⟨aB Hr.out,aa.after bQ.out HW.out⟩
 ·have Hr:Hid (gu p n l=Gi p l):=by show _=_;unfold gu;rw[da];rfl
  clear da;go_wp2_with fail;refine(iV _ l 91 #[.pointer (some ⟨w.heap.size,0,none⟩)] (fun c => !jL c 0 (p.labels-1)) _ (HL.out _ HW.out) FJ (fun c hc u X hX hu=>PB u c _ _ _ p X hu (f5.out X (HW.out.after hX)) fv (Np.out.1 X (HW.out.after hX)) (Np.out.2.1 X (HW.out.after hX)) (Np.out.2.2.1 X (HW.out.after hX)) (Np.out.2.2.2 X (HW.out.after hX)))).mono ?_
  rintro e W2 ⟨rfl,hb⟩;have pl:=zh (HW.out.trans hb);clear hb;go_wp2;go_ret
  exact⟨ce (by rw[Hr.out];rfl),aa.after bQ.out pl.out⟩
theorem zI {p:az} {n:aw} {l:List (List Int)} {v:Nat} (hv:v<l.length) (h:CP p n l v=false):ta p n l=false:=by
 rw[Bool.eq_false_iff];intro hs;unfold ta at hs;rw[List.all_eq_true.1 hs v (List.mem_range.2 hv)]at h;cases h
theorem GW {a b c d:Bool} (h1:a=b) (h2:c=d):Ending.returned (.tuple #[.bool a,.bool c])=.returned (.tuple #[.bool b,.bool d]):=by rw[h1,h2]
theorem Mx {a b c d:Int} {x y:Bool} (h1:a=c) (h2:b=d) (h3:x=y):Ending.returned (.tuple #[.int .i64 a,.int .i64 b,.bool x])=.returned (.tuple #[.int .i64 c,.int .i64 d,.bool y]):=by rw[h1,h2,h3]
theorem pc {f:Nat->Bool} {k:Nat} (h:(List.range k).all f=true) (hk:f k=true):(List.range (k+1)).all f=true:=by
 rw[List.range_succ,List.all_append,h];simp[hk]
theorem xK (pa pb ve vi vn vl:Value) (p:az) (n:aw) (l:List (List Int)) (w:World) (hp:di w pa pb p) (h:aU w ve vi vn n) (hl:a_ w vl l) (dJ:dF p=true) (hn:aW n=true) (hf:gu p n l=true) (pi:ks p<=1048576):
  Calls Tryz.prog 43 #[.agg #[.int .i64 p.labels,.int .i64 p.degree,pa,pb],.agg #[ve,vi,vn],vl] w fun e w'=>(∃x y:Int,e=.returned (.tuple #[.int .i64 x,.int .i64 y,.bool (!ta p n l)]))/\Below w.heap.size w w':=by
 obtain⟨hs,hr⟩:=wU hf;have hsE:dR p.ac3:=(dE dJ).2
 have ZM:dR p.nodes:=by
  unfold dF at dJ;simp only[Bool.and_eq_true]at dJ;exact n_ dJ.2.2.1
 have iI:p.ac3.length<=1048576:=by unfold ks oc at pi;omega
 have zm:p.nodes.length<=1048576:=by unfold ks oc at pi;omega
 have lR:=(pm hn).2;obtain⟨w0,ar⟩:∃w0,w0=((w).alloc (.cells #[.int .i64 p.labels,.int .i64 p.degree,pa,pb] 26)).alloc (.cells #[ve,vi,vn] 30):=⟨_,rfl⟩
 have bG:Below w.heap.size w w0:=by rw[ar];exact(((Below.refl _ _).alloc (by simp <;> omega) _).alloc (by simp <;> omega) _)
 have H:=zh (h.ac2 bG);obtain⟨h1,h2,h3⟩:=h.ac2 bG;obtain⟨A,c,rfl,f_,hm,hA⟩:=h1;obtain⟨A2,c2,rfl,_,fq,_⟩:=h2;obtain⟨A3,c3,rfl,_,fF,_⟩:=h3;unfold maxLen at hm fq fF;have cZ:=hp.ac2 bG;have HP:=zh cZ;obtain⟨P0,eP,rfl,ji,dX,bZ⟩:=id cZ.1;unfold maxLen at dX;have jj:=zh bZ;clear bZ;obtain⟨P1,eB,rfl,jk,dY,b_⟩:=id cZ.2;unfold maxLen at dY;have jl:=zh b_;clear b_;clear cZ hp
 have gP:∀W,aa w0 W->W.cell? ⟨w.heap.size,0,none⟩=some (.int .i64 p.labels):=ab (by rw[ar];simp)
 have ig:∀W,aa w0 W->W.cell? ⟨w.heap.size,1,none⟩=some (.int .i64 p.degree):=ab (by rw[ar];simp)
 have ii:∀W,aa w0 W->W.cell? ⟨w.heap.size,2,none⟩=some (.slice P0 p.nodes.length eP):=ab (by rw[ar];simp)
 have mL:∀W,aa w0 W->W.cell? ⟨w.heap.size,3,none⟩=some (.slice P1 p.ac3.length eB):=ab (by rw[ar];simp)
 have rJ:∀W,aa w0 W->W.cell? ⟨w.heap.size+1,0,none⟩=some (.slice A n.ends.length c):=ab (by rw[ar];simp)
 have tD:∀W,aa w0 W->W.cell? ⟨w.heap.size+1,1,none⟩=some (.slice A2 n.ids.length c2):=ab (by rw[ar];simp)
 have tE:∀W,aa w0 W->W.cell? ⟨w.heap.size+1,2,none⟩=some (.slice A3 n.ac1.length c3):=ab (by rw[ar];simp)
 have bQ:=zh bG;have cS:=zh ar;have HA:=zh hA;clear hA h;clear bG ar;have HL:=zh (show ∀X,aa w0 X->a_ X vl l from fun X hX=>(hl.ac2 bQ.out).ac2 hX.below)
 have HNe:=zh (show ∀X,aa w0 X->no X (.slice A n.ends.length c) n.ends from fun X hX=>(H.out.ac2 hX.below).es)
 have f5:=zh (show ∀X,aa w0 X->di X (.slice P0 p.nodes.length eP) (.slice P1 p.ac3.length eB) p from fun X hX=>HP.out.ac2 hX)
 obtain⟨AL,cL,rfl,-,yi,sc⟩:=HL.out w0 (ad _);unfold maxLen at yi;have Rb:=zh sc;have Hs:=zh hs;have Hn:=zh hn;have HE:=zh hsE;have HN:=zh ZM
 have t_:l.length<=40:=by rw[hs.1];exact lR
 have lM:=zh hs.1;have bu:aa w0 w0:=ad _;clear hl sc hs hr hn hsE ZM dJ hf pi
 go_enter Tryz.func43,Tryz.ntmps43
 go_upto_region 1 with(fail);rw[<- cS.out];go_wp2
 go_loopw [16] (fun i wr=>∃v:Nat,v<=l.length/\i=.int .i64 v/\(List.range v).all (CP p n l)=true/\aa w0 wr) (fun i _=>l.length-(intOf i).toNat)
 case atStart=>exact⟨0,Nat.zero_le _,rfl,rfl,bu⟩
 case round=>
  obtain⟨v,hv,rfl,bH,fd⟩:=hrel;have eV:=zh bH;clear bH bu
  by_cases aH:v<l.length
  ·obtain⟨row,GX⟩:=ay l v aH
   have U_:v<n.ends.length:=by have:=lM.out;omega
   obtain⟨es,ca⟩:=ay n.ends v U_
   have xT:row.length=es.length:=by have h9:=Hs.out.2 v;rw[ak GX,ak ca]at h9;exact h9
   have he6:es.length<=6:=(H5 Hn.out ca).1;obtain⟨bL,oL,uL,rfl,JF,ZN⟩:=Rb.out v row GX;obtain⟨AR,cR,rfl,hR1,pY,hAR⟩:=ZN;unfold maxLen at pY;have dr:=ab JF;obtain⟨bE,oE,cE,uE,nN,hkr,hcE,ZO⟩:=kd (HNe.out w0 (ad _)) ca;cases nN;obtain⟨AE,zE,rfl,dP,eO,hAE⟩:=ZO;unfold maxLen at eO;have de:=ab hcE;have HAR:=zh hAR;have HAE:=zh hAE;have ch:=zh GX;have nO:=zh ca
   have HrI:=zh (show ∀X,aa w0 X->bO X (.slice AR row.length cR) row from fun X hX=>by
    have h8:bO w0 (.slice AR row.length cR) row:=⟨AR,cR,rfl,hR1,by unfold maxLen;exact pY,hAR⟩
    exact h8.ac2 hX.below)
   have m3:IntKind.i64.wrap ((v:Int)+1)=(v:Int)+1:=aE _ (by omega) (by omega);obtain⟨cf,FZ⟩:∃z,ER p row=z:=⟨_,rfl⟩
   have Hcf:=zh FZ;have nD:row.length<=1000:=by omega
   have Ur:=zh xT;have dr0:=dr wr fd;clear GX ca JF hcE hAR hAE FZ hkr xT;go_upto_region 4 with(fail);clear dr0
   go_cut [31]from 21 to 31 (fun t wx=>t=.bool (!cf)/\aa w0 wx)
   case first=>
    have q1:=ig wr fd;have q0:=gP wr fd;have q2:=ii wr fd;have q3:=mL wr fd;have mY:=zh fd
    by_cases hd:(row.length:Int)=p.degree
    ·have g1:((row.length:Int)==p.degree)=true:=by simp[hd]
     have Hd:=zh hd;have Zw:=xI _ _ p _ row wr (f5.out wr fd) (HrI.out wr fd) HN.out zm nD
     rw[show p.nodes.contains (du row)=cf from by rw[<- Hcf.out];unfold ER;rw[beq_iff_eq.2 Hd.out];rfl]at Zw
     have Hcn:=zh Zw;clear hd Zw fd;go_wp2_with fail;refine Hcn.out.mono ?_;rintro e w2 ⟨rfl,bJ⟩;have gn:=zh (mY.out.after (show aa wr w2 from bJ));clear bJ q0 q1 q2 q3;go_wp2;go_meet
     case rel=>exact⟨by first | rfl | simp,gn.out⟩
    ·have g1:((row.length:Int)==p.degree)=false:=by simp[hd]
     have hct:cf=true:=by rw[<- Hcf.out];unfold ER;rw[beq_eq_false_iff_ne.2 hd];rfl
     subst hct;clear hd fd;go_wp2;go_meet
     case rel=>exact⟨by first | rfl | simp,mY.out⟩
   case rest=>
   obtain⟨rfl,ZP⟩:=hcut;obtain⟨w5,rfl⟩:∃z,z=wc:=⟨_,rfl⟩
   have oQ:=zh ZP;clear fd;cases cf
   ·have zN:Hid ((!ta p n l)=true):=by
     show _=_
     rw[zI aH (by unfold CP;rw[ak ch.out,Hcf.out];rfl)]
     rfl
    clear ZP;go_wp2
    go_ret3
    exact⟨⟨(v:Int),-1,Mx rfl rfl zN.out.symm⟩,aa.after bQ.out oQ.out⟩
   ·have de5:=de w5 ZP;have q10:=rJ w5 ZP;clear ZP;go_wp2;clear de5 q10
    go_loopw [39] (fun i wr=>∃j:Nat,j<=es.length/\i=.int .i64 j/\(List.range j).all (tR p n l v)=true/\aa w0 wr) (fun i _=>es.length-(intOf i).toNat)
    case atStart=>exact⟨0,Nat.zero_le _,rfl,rfl,oQ.out⟩
    case round=>
     obtain⟨i,hi,rfl,hai,Cm⟩:=hrel;have Hai:=zh hai;clear hai;obtain⟨wo,rfl⟩:∃z,z=wr:=⟨_,rfl⟩
     by_cases wg:i<es.length
     ·obtain⟨e,he⟩:=ay es i wg
      have CN:oB n v i e:=by unfold oB;rw[ak nO.out];exact he
      obtain⟨-,f1,f2,f3,vP⟩:=Gh Hn.out CN;obtain⟨x,hx⟩:=Int.eq_ofNat_of_zero_le f1;obtain⟨j,hj⟩:=Int.eq_ofNat_of_zero_le f3;obtain⟨e1,e2⟩:=e;simp only at hx hj f2
      subst hx hj;have hxn:x<n.ends.length:=by omega
      have sx:x<l.length:=by have:=lM.out;omega
      obtain⟨nC,jo⟩:=ay l x sx;simp only[Int.toNat_natCast]at vP
      have yY:j<nC.length:=by
       have h9:=Hs.out.2 x;rw[ak jo]at h9;rw[h9];exact al vP
      obtain⟨y1,JV⟩:=ay row i (by have:=Ur.out;omega)
      obtain⟨y2,U4⟩:=ay nC j yY;have Bz:i<row.length:=al JV;obtain⟨b1,o1,rfl,ZQ⟩:=HAR.out i y1 JV;obtain⟨b3,o3,u3,e3,DZ,ZR⟩:=Rb.out x nC jo;cases e3;obtain⟨A3',z3,rfl,acN,abK,ZS⟩:=ZR;obtain⟨b4,o4,rfl,ZT⟩:=ZS j y2 U4;unfold maxLen at abK;obtain⟨b5,o5,rfl,Uz,UA⟩:=HAE.out i _ he;simp only at Uz UA
      have t1:=ab Uz wo Cm;have t2:=ab UA wo Cm;obtain⟨w8,r_⟩:∃z,z=wo.alloc (.cells #[.int .i64 (x:Int),.int .i64 (j:Int)] 104):=⟨_,rfl⟩
      obtain⟨eb,qC⟩:∃z,z=wo.heap.size:=⟨_,rfl⟩
      have h8:aa wo w8:=by rw[r_];exact ae _ (ad _)
      have z0:∀W,aa w8 W->W.cell? ⟨eb,0,none⟩=some (.int .i64 (x:Int)):=ab (by rw[r_,qC];simp)
      have z1:∀W,aa w8 W->W.cell? ⟨eb,1,none⟩=some (.int .i64 (j:Int)):=ab (by rw[r_,qC];simp)
      have Ti:=zh r_;have Xo:=zh qC;have kD:=zh (Cm.after h8);have m4:IntKind.i64.wrap ((i:Int)+1)=(i:Int)+1:=aE _ (by omega) (by omega);obtain⟨fb,I5⟩:∃z,qO n v i=z:=⟨_,rfl⟩
      have My:fb=(decide ((v:Int)<(x:Int))||(decide ((v:Int)=(x:Int))&&decide ((i:Int)<=(j:Int)))):=by rw[<- I5];unfold qO;rw[ak (show(n.ends.getD v [])[i]?=some ((x:Int),(j:Int))from CN)]
      obtain⟨ez,hez⟩:∃z,edgeB p y1 y2=z:=⟨_,rfl⟩
      have Hpf:Hid (tR p n l v i = !(fb && !ez)):=by
       show _=_
       unfold tR ax dM
       rw[I5,ak (show(n.ends.getD v [])[i]?=some ((x:Int),(j:Int))from CN),ak ch.out,ak JV]
       simp only[Int.toNat_natCast];rw[ak jo,ak U4,hez]
      have HcE:=zh (show ∀X,aa w8 X->Calls Tryz.prog 94 #[.agg #[.int .i64 p.labels,.int .i64 p.degree,.slice P0 p.nodes.length eP,.slice P1 p.ac3.length eB],.int .i64 y1,.int .i64 y2] X fun e w'=>e=.returned (.bool ez)/\Below X.heap.size X w' from fun X hX=>by rw[<- hez];exact rH _ _ p y1 y2 X (f5.out X ((Cm.after h8).after hX)) HE.out iI)
      have cy1:=ab ZQ;have cy2:=ab ZT;have Ld:=ab DZ;have acO:=aj cy1 (Cm.after h8);have acP:=aj cy2 (Cm.after h8);have acQ:=aj Ld (Cm.after h8);have po0:=aj gP (Cm.after h8);have po1:=aj ig (Cm.after h8);have po2:=aj ii (Cm.after h8);have po3:=aj mL (Cm.after h8);have Hfe:=zh My;clear r_ qC h8 vP CN he jo JV U4 ZQ ZT DZ ZS Uz UA My I5 hez cy1 cy2 Ld f1 f2 f3 Cm;go_upto_region 9 with(fail);rw[<- Ti.out,<- Xo.out];clear t1 t2
      go_cut [13]from 44 to 59 (fun t wx=>t=.bool fb/\wx=w8)
      case first=>
       have z00:=z0 w8 (ad _);have WL:=z1 w8 (ad _);have My:=Hfe.out
       by_cases q1:(v:Int)<(x:Int)
       ·obtain rfl:fb=true:=by rw[My,decide_eq_true q1];rfl
        have g1:decide ((v:Int)<(x:Int))=true:=decide_eq_true q1;clear My;go_wp2;go_meet
        case rel=>exact⟨by first | rfl | simp,rfl⟩
       ·have g1:decide ((v:Int)<(x:Int))=false:=decide_eq_false q1
        by_cases q2:v=x
        ·subst q2
         by_cases q3:(i:Int)<=(j:Int)
         ·obtain rfl:fb=true:=by rw[My,decide_eq_true q3];simp
          have g3:decide ((i:Int)<=(j:Int))=true:=decide_eq_true q3;clear My;go_wp2;go_meet
          case rel=>exact⟨by first | rfl | simp,rfl⟩
         ·obtain rfl:fb=false:=by rw[My,decide_eq_false q3,g1];simp
          have g3:decide ((i:Int)<=(j:Int))=false:=decide_eq_false q3;clear My;go_wp2;go_meet
          case rel=>exact⟨by first | rfl | simp,rfl⟩
        ·have g2:((v:Int)==(x:Int))=false:=by rw[beq_eq_false_iff_ne];omega
         obtain rfl:fb=false:=by rw[My,g1,decide_eq_false (by omega)];rfl
         clear My;go_wp2;go_meet
         case rel=>exact⟨by first | rfl | simp,rfl⟩
      case rest=>
      obtain⟨dG,lK⟩:=hcut;subst dG;have DZ:=lK.symm;clear lK;subst DZ;go_upto_region 10 with(fail);refine am 19 (aa w8) (by kernel_rfl) (by kernel_rfl) (by simp) (ag (ad _)) ?_;simp only[zT]
      iterate 2 (refine bF rfl ?_;simp only[zA])
      iterate 14 (refine gT rfl rfl ?_;simp only[zA])
      refine bv (v:=?_) rfl rfl ?_ ?_;rotate_left;(intro hb;intro W hW;unfold ba;go_simp;(with_reducible refine(HcE.out W hW).mono ?_);rintro e W' ⟨rfl,aG⟩;first | (refine⟨?_,aa.trans hW aG⟩;with_reducible rfl) | (subst aG;refine⟨?_,hW⟩;with_reducible rfl))
      simp only[zA]
      refine gT rfl rfl ?_;simp only[zA]
      (first | refine eF rfl rfl ?_ | (refine bF rfl ?_));simp only[zA]
      intro W hW;have HsW:=zh (kD.out.after hW);clear hW;cases hz:(fb && !ez)
      ·have Hpt:Hid (tR p n l v i=true):=by show _=_;rw[Hpf.out,hz];rfl
       clear hz;go_wp2;go_roundw
       case rel=>exact⟨i+1,by omega,by first | rfl | go_num,pc Hai.out Hpt.out,HsW.out⟩
       case measure=>simp[intOf];omega
      ·have zN:Hid ((!ta p n l)=true):=by
        show _=_
        have h1:tR p n l v i=false:=by rw[Hpf.out,hz];rfl
        rw[zI aH (by
         unfold CP;rw[Bool.and_eq_false_iff]
         right
         rw[Bool.eq_false_iff];intro h2
         rw[List.all_eq_true.1 h2 i (List.mem_range.2 (by rw[ak nO.out];exact wg))]at h1
         cases h1)]
        rfl
       clear hz;go_wp2
       go_ret3
       exact⟨⟨(v:Int),(i:Int),Mx rfl rfl zN.out.symm⟩,aa.after bQ.out HsW.out⟩
     ·obtain rfl:i=es.length:=by omega
      have Hrf:Hid (CP p n l v=true):=by show _=_;unfold CP;rw[ak ch.out,Hcf.out,ak nO.out,Hai.out];rfl
      have U8:=zh Cm;clear Cm;go_wp2;go_roundw
      case rel=>exact⟨v+1,by omega,by first | rfl | go_num,pc eV.out Hrf.out,U8.out⟩
      case measure=>simp[intOf];omega
  ·obtain rfl:v=l.length:=by omega
   have abL:Hid ((!ta p n l)=false):=by show _=_;unfold ta;rw[eV.out];rfl
   have mY:=zh fd;clear fd;go_wp2
   go_ret3
   exact⟨⟨0,0,Mx rfl rfl abL.out.symm⟩,aa.after bQ.out mY.out⟩
theorem pd (pa pb ve vi vn vl:Value) (p:az) (n:aw) (l:List (List Int)) (w:World) (hp:di w pa pb p) (h:aU w ve vi vn n) (hl:a_ w vl l) (pi:ks p<=1048576) (wg:n.ids.length<=17592186044416):
  Calls Tryz.prog 10 #[.agg #[.int .i64 p.labels,.int .i64 p.degree,pa,pb],.agg #[ve,vi,vn],vl] w fun e w'=>e=.returned (.tuple #[.bool (mZ p n l&&ta p n l),.bool (mZ p n l)])/\Below w.heap.size w w':=by
 obtain⟨w0,ar⟩:∃w0,w0=((w).alloc (.cells #[.int .i64 p.labels,.int .i64 p.degree,pa,pb] 26)).alloc (.cells #[ve,vi,vn] 30):=⟨_,rfl⟩
 have bG:Below w.heap.size w w0:=by rw[ar];exact(((Below.refl _ _).alloc (by simp <;> omega) _).alloc (by simp <;> omega) _)
 have H:=zh (h.ac2 bG);obtain⟨h1,h2,h3⟩:=h.ac2 bG;obtain⟨A,c,rfl,f_,hm,hA⟩:=h1;obtain⟨A2,c2,rfl,_,fq,_⟩:=h2;obtain⟨A3,c3,rfl,_,fF,_⟩:=h3;unfold maxLen at hm fq fF;have cZ:=hp.ac2 bG;have HP:=zh cZ;obtain⟨P0,eP,rfl,ji,dX,bZ⟩:=id cZ.1;unfold maxLen at dX;have jj:=zh bZ;clear bZ;obtain⟨P1,eB,rfl,jk,dY,b_⟩:=id cZ.2;unfold maxLen at dY;have jl:=zh b_;clear b_;clear cZ hp
 have gP:∀W,aa w0 W->W.cell? ⟨w.heap.size,0,none⟩=some (.int .i64 p.labels):=ab (by rw[ar];simp)
 have ig:∀W,aa w0 W->W.cell? ⟨w.heap.size,1,none⟩=some (.int .i64 p.degree):=ab (by rw[ar];simp)
 have ii:∀W,aa w0 W->W.cell? ⟨w.heap.size,2,none⟩=some (.slice P0 p.nodes.length eP):=ab (by rw[ar];simp)
 have mL:∀W,aa w0 W->W.cell? ⟨w.heap.size,3,none⟩=some (.slice P1 p.ac3.length eB):=ab (by rw[ar];simp)
 have rJ:∀W,aa w0 W->W.cell? ⟨w.heap.size+1,0,none⟩=some (.slice A n.ends.length c):=ab (by rw[ar];simp)
 have tD:∀W,aa w0 W->W.cell? ⟨w.heap.size+1,1,none⟩=some (.slice A2 n.ids.length c2):=ab (by rw[ar];simp)
 have tE:∀W,aa w0 W->W.cell? ⟨w.heap.size+1,2,none⟩=some (.slice A3 n.ac1.length c3):=ab (by rw[ar];simp)
 have bQ:=zh bG;have cS:=zh ar;have HA:=zh hA;clear hA h;clear bG ar;have HL:=zh (show ∀X,aa w0 X->a_ X vl l from fun X hX=>(hl.ac2 bQ.out).ac2 hX.below)
 have iL:=zh (show ∀X,aa w0 X->aU X (.slice A n.ends.length c) (.slice A2 n.ids.length c2) (.slice A3 n.ac1.length c3) n from fun X hX=>H.out.ac2 hX.below)
 have f5:=zh (show ∀X,aa w0 X->di X (.slice P0 p.nodes.length eP) (.slice P1 p.ac3.length eB) p from fun X hX=>HP.out.ac2 hX)
 obtain⟨AL,cL,rfl,-,-,-⟩:=hl;have bu:aa w0 w0:=ad _;obtain⟨q1,iT⟩:∃z,dF p=z:=⟨_,rfl⟩
 obtain⟨q2,lX⟩:∃z,aW n=z:=⟨_,rfl⟩
 obtain⟨q3,Q5⟩:∃z,gu p n l=z:=⟨_,rfl⟩
 obtain⟨ok,dJ⟩:∃z,mZ p n l=z:=⟨_,rfl⟩
 have P3:ok=(q1&&q2&&q3):=by rw[<- dJ];unfold mZ;rw[iT,lX,Q5]
 rw[dJ];obtain⟨sz,eR⟩:∃z,ta p n l=z:=⟨_,rfl⟩
 rw[eR];have jw:=zh eR;clear eR;have Hq1:=zh iT;have Hq2:=zh lX;have VP:=zh Q5;have OW:=zh P3;clear iT lX Q5 dJ P3
 go_enter Tryz.func10,Tryz.ntmps10
 go_upto_region 1 with(fail);rw[<- cS.out];go_wp2_with fail;refine(hZ _ _ p w0 (f5.out w0 bu)).mono ?_;rw[Hq1.out];rintro e w1 ⟨rfl,aX⟩;have dw:aa w0 w1:=aX;clear aX bu;cases q1
 ·have jH:=zh dw
  have Hf:Hid (ok=false):=by show _=_;rw[OW.out];rfl
  clear dw;go_wp2
  go_ret2
  exact⟨GW (by rw[Hf.out];rfl) Hf.out.symm,aa.after bQ.out jH.out⟩
 go_wp2_with fail;refine(g8 _ _ _ n w1 (iL.out w1 dw) wg).mono ?_;rw[Hq2.out];rintro e w2 ⟨rfl,bJ⟩;have dZ:aa w0 w2:=dw.after (show aa w1 w2 from bJ);clear bJ dw;cases q2
 ·have jH:=zh dZ
  have Hf:Hid (ok=false):=by show _=_;rw[OW.out];rfl
  clear dZ;go_wp2
  go_ret2
  exact⟨GW (by rw[Hf.out];rfl) Hf.out.symm,aa.after bQ.out jH.out⟩
 go_wp2_with fail;refine(xJ _ _ _ _ _ _ p n l w2 (f5.out w2 dZ) (iL.out w2 dZ) (HL.out w2 dZ) (dE Hq1.out).1).mono ?_;rw[VP.out];rintro e w3 ⟨rfl,aG⟩;have gR:aa w0 w3:=dZ.after (show aa w2 w3 from aG);clear aG dZ;cases q3
 ·have jH:=zh gR
  have Hf:Hid (ok=false):=by show _=_;rw[OW.out];rfl
  clear gR;go_wp2
  go_ret2
  exact⟨GW (by rw[Hf.out];rfl) Hf.out.symm,aa.after bQ.out jH.out⟩
 have hlf:=xK _ _ _ _ _ _ p n l w3 (f5.out w3 gR) (iL.out w3 gR) (HL.out w3 gR) Hq1.out Hq2.out VP.out pi;rw[jw.out]at hlf;have Hlf:=zh hlf
 have Hf:Hid (ok=true):=by show _=_;rw[OW.out];rfl
 clear hlf;go_wp2_with fail;refine Hlf.out.mono ?_;rintro e w4 ⟨⟨x,y,rfl⟩,qy⟩;have qk:=zh (gR.after (show aa w3 w4 from qy));clear qy gR;go_wp2
 go_ret2
 exact⟨GW (by rw[Hf.out];simp) Hf.out.symm,aa.after bQ.out qk.out⟩
def e_ (x:Int) (b:Nat):Bool:=x.toNat.testBit b
theorem PC:∀x:Fin 256,∀b:Fin 8,IntKind.i64.wrap (((BitVec.ofInt 64 (Int.fdiv (x.1:Int) (2^b.1)) &&& BitVec.ofInt 64 1).toNat:Nat):Int)=if x.1.testBit b.1 then 1 else 0:=by decide +kernel
theorem PD {x:Int} {b:Nat} (hx:0<=x/\x<256) (hb:b<8):IntKind.i64.wrap (((BitVec.ofInt 64 (Int.fdiv x (2^b)) &&& BitVec.ofInt 64 1).toNat:Nat):Int)=if e_ x b then 1 else 0:=by
 have h:=PC ⟨x.toNat,by omega⟩ ⟨b,hb⟩
 simp only at h
 rw[show((x.toNat:Nat):Int)=x by omega]at h
 exact h
def I_ (x b:Nat):Nat:=if x.testBit b then x-2^b else x
theorem Mz:∀x:Fin 256,∀b:Fin 8,IntKind.i64.wrap (((BitVec.ofInt 64 (x.1:Int) &&& ~~~BitVec.ofInt 64 (IntKind.i64.wrap (1*2^b.1))).toNat:Nat):Int)=(I_ x.1 b.1:Int):=by decide +kernel
theorem MA:∀x:Fin 256,∀b:Fin 8,∀c:Fin 8,(I_ x.1 b.1).testBit c.1=(x.1.testBit c.1 && !decide (c.1=b.1)):=by decide +kernel
theorem UB {x b:Nat} (h:x.testBit b=true):I_ x b<x:=by
 unfold I_;rw[if_pos h]
 have:=Nat.ge_two_pow_of_testBit h
 have:=Nat.two_pow_pos b
 omega
theorem UC (x b:Nat):I_ x b<=x:=by unfold I_;split;exact Nat.sub_le _ _;exact Nat.le_refl _
theorem PE {x:Int} {b:Nat} (hx:0<=x/\x<256) (hb:b<8):∃y:Int,IntKind.i64.wrap (((BitVec.ofInt 64 x &&& ~~~BitVec.ofInt 64 (IntKind.i64.wrap (1*2^b))).toNat:Nat):Int)=y/\(0<=y/\y<256)/\(∀c,c<8->e_ y c=(e_ x c && !decide (c=b)))/\(e_ x b=true->y<x):=by
 have h1:=Mz ⟨x.toNat,by omega⟩ ⟨b,hb⟩
 simp only at h1
 rw[show((x.toNat:Nat):Int)=x by omega]at h1
 have h4:=UC x.toNat b;refine⟨_,h1,by omega,fun c hc=>?_,fun qK=>?_⟩
 ·have:=MA ⟨x.toNat,by omega⟩ ⟨b,hb⟩ ⟨c,hc⟩
  unfold e_;simpa using this
 ·have:=UB qK
  omega
theorem sk {x:Int} {b:Nat} (hx:0<=x/\x<256) (hb:b<8):∃z:Int,bits BinOp.and IntKind.i64 (x/2^b) 1=z/\(e_ x b=true->z=1)/\(e_ x b=false->z=0)/\min b 64=b:=by
 have h:=PD hx hb;rw[Int.fdiv_eq_ediv_of_nonneg _ (Int.le_of_lt (Int.pow_pos (by omega)))]at h;refine⟨_,rfl,fun hb=>?_,fun hb=>?_,by omega⟩
 ·show IntKind.i64.wrap _=1
  rw[if_pos hb]at h;exact h
 ·show IntKind.i64.wrap _=0
  rw[if_neg (by rw[hb];simp)]at h
  exact h
theorem Ja (n:Int) (w:World):Calls Tryz.prog 45 #[.int .i64 n] w fun e w'=>e=.returned (.bool (fT 0 1000000000000 n))/\w=w':=by
 go_enter Tryz.func45,Tryz.ntmps45
 go_wp2_with fail;refine(fj n 0 1000000000000 w).mono ?_;rintro e w1 ⟨rfl,rfl⟩;go_wp2;go_ret;exact⟨rfl,rfl⟩
def MB (x:Int) (b:Nat):Int:=if e_ x b then 1 else 0
theorem Jb (x:Int) (b:Nat) (w:World) (hx:0<=x/\x<256) (hb:b<8):Calls Tryz.prog 12 #[.int .i64 x,.int .i64 b] w fun e w'=>e=.returned (.tuple #[.int .i64 (MB x b),.bool true])/\w=w':=by
 obtain⟨z,hz,dP,eu,hm⟩:=sk hx hb;have uZ:=zh dP;have gh:=zh eu;clear dP eu
 go_enter Tryz.func12,Tryz.ntmps12
 go_wp2_with fail;refine(Ja x w).mono ?_;rintro e w1 ⟨rfl,rfl⟩;rw[show fT 0 1000000000000 x=true from aL.2 ⟨by omega,by omega⟩]
 go_wp2_with fail;refine(fj (b:Int) 0 63 w).mono ?_;rintro e w1 ⟨rfl,rfl⟩;rw[show fT 0 63 (b:Int)=true from aL.2 ⟨by omega,by omega⟩]
 go_wp2
 go_ret2
 have hv:MB x b=z:=by
  unfold MB;cases hb:e_ x b
  ·rw[gh.out hb];rfl
  ·rw[uZ.out hb];rfl
 exact⟨by rw[hv];rfl,rfl⟩
def PF (p:az) (pa pb va vb vc vm:Value):Array Value:=#[.int .i64 p.labels,.int .i64 p.degree,pa,pb,va,vb,vc,vm]
theorem en {W:World} {mb:Nat} {p:az} {pa pb va vb vc vm:Value} (h:cC W mb (PF p pa pb va vb vc vm)):W.cell? ⟨mb,0,none⟩=some (.int .i64 p.labels)/\W.cell? ⟨mb,1,none⟩=some (.int .i64 p.degree)/\W.cell? ⟨mb,2,none⟩=some pa/\W.cell? ⟨mb,3,none⟩=some pb/\W.cell? ⟨mb,4,none⟩=some va/\W.cell? ⟨mb,5,none⟩=some vb/\W.cell? ⟨mb,6,none⟩=some vc/\W.cell? ⟨mb,7,none⟩=some vm:=
 ⟨(h.cell 0 _ rfl).1,(h.cell 1 _ rfl).1,(h.cell 2 _ rfl).1,(h.cell 3 _ rfl).1,(h.cell 4 _ rfl).1,(h.cell 5 _ rfl).1,(h.cell 6 _ rfl).1,(h.cell 7 _ rfl).1⟩
structure FK (n:aw) (M:List (List Int)):Prop where
 shp:eG n M
 rng:∀(v:Nat) (row:List Int) (i:Nat) (x:Int),M[v]?=some row->row[i]?=some x->0<=x/\x<256
theorem FK.at {n:aw} {M:List (List Int)} (h:FK n M) {k j:Nat} {es:List (Int×Int)} (hk:n.ends[k]?=some es) (hj:j<es.length):∃row x,M[k]?=some row/\row.length=es.length/\row[j]?=some x/\ax M k j=x/\(0<=x/\x<256):=by
 obtain⟨row,aD⟩:=ay M k (by rw[h.shp.1];exact al hk)
 have hl:row.length=es.length:=by rw[gM h.shp aD,ak hk]
 obtain⟨x,hx⟩:=ay row j (by omega)
 exact⟨row,x,aD,hl,hx,by unfold ax;rw[ak aD,ak hx],h.rng k row j x aD hx⟩
def qY (p:az) (n:aw) (M:List (List Int)) (v i:Nat) (a:Int):Bool:=
 if (n.ends.getD v []).getD i (0,0)=((v:Int),(i:Int)) then edgeB p a a else (List.range p.labels.toNat).any fun b=>e_ (ax M (dM n v i).1 (dM n v i).2) b&&edgeB p a (b:Int)
theorem Du (mb:Nat) (pa pb va vb vc vm:Value) (p:az) (n:aw) (M:List (List Int)) (v i a:Nat) (w:World) (hB:cC w mb (PF p pa pb va vb vc vm)) (hp:di w pa pb p) (h:aU w va vb vc n) (hm:a_ w vm M) (nq:dF p=true) (hn:aW n=true) (hM:FK n M) (iI:p.ac3.length<=1048576) {es:List (Int×Int)} (ca:n.ends[v]?=some es) (hi:i<es.length):
  Calls Tryz.prog 144 #[.pointer (some ⟨mb,0,none⟩),.int .i64 v,.int .i64 i,.int .i64 a] w fun e w'=>e=.returned (.bool (qY p n M v i a))/\Below w.heap.size w w':=by
 obtain⟨fv,ct⟩:=dE nq;obtain⟨f,hf⟩:=ay es i hi;obtain⟨k,j,Oc,rfl,yh,hj⟩:=qA hn ca hf;obtain⟨nC,x,jo,zO,hx,sr,Bz⟩:=hM.at yh hj
 have hR:Hid (qY p n M v i a=if ((k:Int),(j:Int))=((v:Int),(i:Int)) then edgeB p a a else (List.range p.labels.toNat).any fun b=>e_ x b&&edgeB p a (b:Int)):=by
  show _=_
  have e1:(n.ends.getD v []).getD i (0,0)=((k:Int),(j:Int)):=by rw[ak ca,ak hf]
  unfold qY dM
  simp only[e1,Int.toNat_natCast,sr]
 obtain⟨A,c,rfl⟩:∃A c,va=.slice A n.ends.length c:=by obtain⟨A,c,e,-⟩:=h.es;exact⟨A,c,e⟩
 obtain⟨A2,c2,rfl⟩:∃A c,vb=.slice A n.ids.length c:=by obtain⟨A,c,e,-⟩:=h.2.1;exact⟨A,c,e⟩
 obtain⟨A3,c3,rfl⟩:∃A c,vc=.slice A n.ac1.length c:=by obtain⟨A,c,e,-⟩:=h.2.2;exact⟨A,c,e⟩
 obtain⟨AM,cM,rfl⟩:∃A c,vm=.slice A M.length c:=by obtain⟨A,c,e,-⟩:=hm;exact⟨A,c,e⟩
 obtain⟨P0,eP,rfl⟩:∃A c,pa=.slice A p.nodes.length c:=by obtain⟨A,c,e,-⟩:=hp.1;exact⟨A,c,e⟩
 obtain⟨P1,eB,rfl⟩:∃A c,pb=.slice A p.ac3.length c:=by obtain⟨A,c,e,-⟩:=hp.2;exact⟨A,c,e⟩
 have f5:=zh (show ∀X,aa w X->di X (.slice P0 p.nodes.length eP) (.slice P1 p.ac3.length eB) p from fun X hX=>hp.ac2 hX)
 obtain⟨d0,d1,d2,d3,d4,d5,d6,d7⟩:=en hB;obtain⟨b1,o1,b2,o2,z1,rfl,jn,EH,Ld⟩:=sU h.es ca hf;obtain⟨b5,o5,b6,o6,z3,rfl,Js,c7'⟩:=jt hm jo hx;have s0:=ab d0;have s1:=ab d1;have s2:=ab d2;have s3:=ab d3;have s4:=ab d4;have s7:=ab d7;have q1:=ab jn;have q2:=ab EH;have q3:=ab Ld;have q6:=ab Js;have q7:=ab c7';have U_:v<n.ends.length:=al ca;have ss:k<M.length:=al jo;have yY:j<nC.length:=al hx;have jP:=zh ct;have hx8:=Bz;clear d0 d1 d2 d3 d4 d5 d6 d7 jn EH Ld Js c7' ct Bz sr hx jo zO hf ca yh hj hM hn nq hm h hp hB
 go_enter Tryz.func144,Tryz.ntmps144
 have bu:aa w w:=ad _;go_upto_region 2 with(fail);obtain⟨bx,dj⟩:∃bx,bx=w.heap.size:=⟨_,rfl⟩
 obtain⟨W1,js⟩:∃W1,W1=w.alloc (.cells #[.int .i64 k,.int .i64 j] 104):=⟨_,rfl⟩
 have dw:aa w W1:=by rw[js];exact ae _ bu
 have g1:∀W,aa W1 W->W.cell? ⟨bx,0,none⟩=some (.int .i64 k):=ab (by rw[dj,js];simp)
 have g2:∀W,aa W1 W->W.cell? ⟨bx,1,none⟩=some (.int .i64 j):=ab (by rw[dj,js];simp)
 rw[<- js,<- dj];have jH:=zh dw;have r0:=aj s0 dw;have r1:=aj s1 dw;have r2:=aj s2 dw;have r3:=aj s3 dw;have r7:=aj s7 dw;have t6:=aj q6 dw;have t7:=aj q7 dw;clear bu js dj dw q1 q2 q3 q6 q7 s0 s1 s2 s3 s4 s7;have ZU:aa W1 W1:=ad _
 by_cases Iw:k=v/\j=i
 ·have he:yL ((k:Int),(j:Int)) ((v:Int),(i:Int))=true:=by unfold yL;simp[Iw.1,Iw.2]
  have pY:Hid (qY p n M v i a=edgeB p a a):=by
   show _=_
   rw[hR.out,if_pos (by rw[Iw.1,Iw.2])]
  clear Iw;go_wp2_with fail;refine(rH _ _ p a a W1 (f5.out W1 jH.out) jP.out iI).mono ?_;rintro e w2 ⟨rfl,bJ⟩;have hsf:aa w w2:=jH.out.after bJ;clear bJ;go_wp2;go_ret;exact⟨ce (by rw[pY.out]),hsf⟩
 ·have he:yL ((k:Int),(j:Int)) ((v:Int),(i:Int))=false:=by unfold yL;simp;omega
  obtain⟨lb,gX⟩:∃z:Nat,p.labels=(z:Int):=⟨p.labels.toNat,by omega⟩
  have FL:1<=lb/\lb<=8:=by omega
  have pY:Hid (qY p n M v i a=(List.range lb).any fun b=>e_ x b&&edgeB p a (b:Int)):=by
   show _=_
   rw[hR.out,if_neg (fun h=>Iw (by simp at h;omega)),gX]
   rfl
  have qp:=zh gX;have Vl:=r0;rw[gX]at Vl;have tH:=zh Vl;have abM:=zh r0;clear Iw r0 gX fv;have r0:=Vl;clear Vl;go_upto_region 5 with(fail);clear r0
  go_loopw [39] (fun i wr=>∃b:Nat,b<=lb/\i=.int .i64 b/\((List.range b).any fun b=>e_ x b&&edgeB p a (b:Int))=false/\aa W1 wr) (fun i _=>lb-(intOf i).toNat)
  case atStart=>exact⟨0,Nat.zero_le _,rfl,rfl,ZU⟩
  case round=>
   obtain⟨b,hb,rfl,l_,fd⟩:=hrel;have pL:=zh l_;have mY:=zh fd;clear l_ ZU
   by_cases aH:b<lb
   ·obtain⟨z,hz,dP,eu,hm⟩:=sk hx8 (show b<8 by omega)
    have uZ:=zh dP;have gh:=zh eu;have m1:IntKind.i64.wrap ((b:Int)+1)=(b:Int)+1:=aE _ (by omega) (by omega)
    have pO:(List.range (b+1)).any (fun b=>e_ x b&&edgeB p a (b:Int))=(e_ x b&&edgeB p a (b:Int)):=by
     rw[List.range_succ,List.any_append,pL.out];simp
    have Jp:=zh pO;have r0:=fun W (hW:aa wr W)=>abM.out W (mY.out.after hW)
    have r1':=aj r1 fd;have r2':=aj r2 fd;have r3':=aj r3 fd;have r7':=aj r7 fd;have t6':=aj t6 fd;have t7':=aj t7 fd;have g1':=aj g1 fd;have g2':=aj g2 fd;obtain⟨wo,rfl⟩:∃z,z=wr:=⟨_,rfl⟩
    clear dP eu pO fd;go_upto_region 7 with(fail);cases qK:e_ x b
    ·have GD:z=0:=gh.out qK;subst GD;refine am 25 (aa wo) (by kernel_rfl) (by kernel_rfl) (by simp) (ag (ad _)) ?_;simp only[zT]
     iterate 17 (refine bF rfl ?_;simp only[zA])
     iterate 7 (refine mg rfl rfl (by simp[*]) ?_;simp only[zA])
     (first | refine eF rfl rfl ?_ | (refine bF rfl ?_));simp only[zA]
     intro W hW;have Hf:Hid (aa W1 W):=mY.out.after hW;clear hW r0 r1' r2' r3' r7' t6' t7' g1' g2' hz hm;go_wp2;go_roundw
     case rel=>exact⟨b+1,by omega,by first | rfl | go_num,by rw[Jp.out,qK];rfl,Hf.out⟩
     case measure=>simp[intOf];omega
    ·have GD:z=1:=uZ.out qK;subst GD;refine am 25 (aa wo) (by kernel_rfl) (by kernel_rfl) (by simp) (ag (ad _)) ?_;simp only[zT]
     iterate 17 (refine bF rfl ?_;simp only[zA])
     iterate 6 (refine gT rfl rfl ?_;simp only[zA])
     refine bv (v:=?_) rfl rfl ?_ ?_;rotate_left;(intro hb;intro W hW;unfold ba;go_simp;(with_reducible refine(rH _ _ p a b W (f5.out W ((jH.out.after mY.out).after hW)) jP.out iI).mono ?_);rintro e W' ⟨rfl,aG⟩;first | (refine⟨?_,aa.trans hW aG⟩;with_reducible rfl) | (subst aG;refine⟨?_,hW⟩;with_reducible rfl))
     simp only[zA]
     (first | refine eF rfl rfl ?_ | (refine bF rfl ?_));simp only[zA]
     intro W hW;have Hf:Hid (aa W1 W):=mY.out.after hW;clear hW r0 r1' r2' r3' r7' t6' t7' g1' g2' hz hm;cases qC:edgeB p a b
     ·go_wp2;go_roundw
      case rel=>exact⟨b+1,by omega,by first | rfl | go_num,by rw[Jp.out,qK,qC];rfl,Hf.out⟩
      case measure=>simp[intOf];omega
     ·go_wp2;go_ret;refine⟨ce ?_,jH.out.after Hf.out⟩;rw[pY.out]
      symm
      rw[List.any_eq_true]
      exact⟨b,List.mem_range.2 aH,by rw[qK,qC];rfl⟩
   ·obtain rfl:b=lb:=by omega
    go_wp2;go_ret;exact⟨ce (by rw[pY.out,pL.out]),jH.out.after mY.out⟩
def jf (p:az) (row:List Int) (i:Nat) (a:Int) (L:Nat):Nat->List Int->Bool
 | 0,xs=>p.nodes.contains (du xs)
 | r+1,xs=>if xs.length=i then jf p row i a L r (xs++[a]) else (List.range L).any fun b=>e_ (row.getD xs.length 0) b&&jf p row i a L r (xs++[(b:Int)])
structure FlC (wL:World) (mb b4 b9 b6 qF b5 gl cl d bm om br ob zb lm cm lb:Nat) (p:az) (pa pb:Value) (row:List Int) (v i:Nat) (a:Int):Prop where
 q4:∀W,aa wL W->W.cell? ⟨b4,0,none⟩=some (.pointer (some ⟨mb,0,none⟩))
 q6:∀W,aa wL W->W.cell? ⟨b6,0,none⟩=some (.int .i64 i)
 q5:∀W,aa wL W->W.cell? ⟨b5,0,none⟩=some (.int .i64 v)
 m0:∀W,aa wL W->W.cell? ⟨mb,0,none⟩=some (.int .i64 lb)
 m1:∀W,aa wL W->W.cell? ⟨mb,1,none⟩=some (.int .i64 d)
 m2:∀W,aa wL W->W.cell? ⟨mb,2,none⟩=some pa
 m3:∀W,aa wL W->W.cell? ⟨mb,3,none⟩=some pb
 m7:∀W,aa wL W->W.cell? ⟨mb,7,none⟩=some (.slice (some ⟨bm,om,none⟩) lm cm)
 rw:∀W,aa wL W->W.cell? ⟨bm,om+v,none⟩=some (.slice (some ⟨br,ob,none⟩) d zb)
 rr:∀(k:Nat) (x:Int),row[k]?=some x->∀W,aa wL W->W.cell? ⟨br,ob+k,none⟩=some (.int .i64 x)
 pr:∀W,aa wL W->di W pa pb p
 st:dR p.nodes
 nl:p.nodes.length<=1048576
 rl:row.length=d
 rb:∀(k:Nat) (x:Int),row[k]?=some x->0<=x/\x<256
 lab:p.labels=(lb:Int)
 deg:p.degree=(d:Int)
 lb8:1<=lb/\lb<=8
 d4:d<=4
 id:i<d
 vm:v<lm
 n9:b9≠gl
 n10:qF≠gl
 g9:wL.heap.size<=gl
 f9:wL.heap.size<=b9
 f10:wL.heap.size<=qF
structure DM (wL:World) (b4 b9 b6 qF b5 gl cl d:Nat) (i:Nat) (a:Int) (k:Nat) (xs L:List Int) (w:World):Prop where
 sn:aa wL w
 c9:w.cell? ⟨b9,0,none⟩=some (.slice (some ⟨gl,0,none⟩) d cl)
 c10:w.cell? ⟨qF,0,none⟩=some (.func (.func 184) #[] #[.pointer (some ⟨b4,0,none⟩),.pointer (some ⟨b9,0,none⟩),.pointer (some ⟨b6,0,none⟩),.pointer (some ⟨qF,0,none⟩),.pointer (some ⟨b5,0,none⟩)])
 ow:Own w wL.heap.size (.slice (some ⟨gl,0,none⟩) d cl) L
 ln:L.length=d
 tk:L.take k=xs
 ai:L[i]?=some a
theorem DM.ac2 {wL w w':World} {b4 b9 b6 qF b5 gl cl d i k:Nat} {a:Int} {xs L:List Int} (h:DM wL b4 b9 b6 qF b5 gl cl d i a k xs L w) (hs:aa w w'):DM wL b4 b9 b6 qF b5 gl cl d i a k xs L w':=
 ⟨h.sn.after hs,(ab h.c9) w' hs,(ab h.c10) w' hs,h.ow.since hs,h.ln,h.tk,h.ai⟩
theorem DM.put {wL w:World} {b4 b9 b6 qF b5 gl cl d i k:Nat} {a:Int} {xs L:List Int} (h:DM wL b4 b9 b6 qF b5 gl cl d i a k xs L w) (hk:k<d) (P2:k≠i) (sx:xs.length=k) (h9:b9≠gl) (h10:qF≠gl) (hg:wL.heap.size<=gl) (y:Int):
  DM wL b4 b9 b6 qF b5 gl cl d i a (k+1) (xs++[y]) (L.set k y) (w.setCell ⟨gl,k,none⟩ (.int .i64 y)):=by
 refine⟨h.sn.setCell hg _,?_,?_,by have:=h.ow.set (k:=k) y;simpa using this,by rw[List.length_set];exact h.ln,?_,by rw[List.getElem?_set_ne P2];exact h.ai⟩
 ·rw[World.cell?_of_block (Below.heap_setCell _ _ _ b9 (by exact h9))];exact h.c9
 ·rw[World.cell?_of_block (Below.heap_setCell _ _ _ qF (by exact h10))];exact h.c10
 ·rw[<- h.tk,List.take_set,List.take_add_one]
  rw[List.set_append_right _ _ (by simp;rw[h.ln];omega)]
  have hl:(L.take k).length=k:=by simp;rw[h.ln];omega
  obtain⟨z,hz⟩:=ay L k (by rw[h.ln];exact hk)
  rw[hl,Nat.sub_self,hz];simp
theorem DM.one {wL w:World} {b4 b9 b6 qF b5 gl cl d i:Nat} {a:Int} {xs L:List Int} (h:DM wL b4 b9 b6 qF b5 gl cl d i a i xs L w):DM wL b4 b9 b6 qF b5 gl cl d i a (i+1) (xs++[a]) L w:=
 ⟨h.sn,h.c9,h.c10,h.ow,h.ln,by rw[List.take_add_one,h.tk,h.ai];rfl,h.ai⟩
theorem DM.back {wL w:World} {b4 b9 b6 qF b5 gl cl d i k:Nat} {a y:Int} {xs L:List Int} (h:DM wL b4 b9 b6 qF b5 gl cl d i a (k+1) (xs++[y]) L w) (sx:xs.length=k):DM wL b4 b9 b6 qF b5 gl cl d i a k xs L w:=
 ⟨h.sn,h.c9,h.c10,h.ow,h.ln,by
  have h1:=congrArg (List.take k) h.tk;rw[List.take_take,Nat.min_eq_left (by omega)]at h1
  rw[h1,List.take_append_of_le_length (by omega),List.take_of_length_le (by omega)],h.ai⟩
theorem MC {wL:World} {mb b4 b9 b6 qF b5 gl cl d bm om br ob zb lm cm lb:Nat} {p:az} {pa pb:Value} {row:List Int} {v i:Nat} {a:Int} (hC:FlC wL mb b4 b9 b6 qF b5 gl cl d bm om br ob zb lm cm lb p pa pb row v i a):
  ∀(r k:Nat) (xs L:List Int) (w:World),r+k=d->xs.length=k->DM wL b4 b9 b6 qF b5 gl cl d i a k xs L w ->
  Calls Tryz.prog 184 #[.int .i64 k,.pointer (some ⟨b4,0,none⟩),.pointer (some ⟨b9,0,none⟩),.pointer (some ⟨b6,0,none⟩),.pointer (some ⟨qF,0,none⟩),.pointer (some ⟨b5,0,none⟩)] w fun e w'=>e=.returned (.bool (jf p row i a lb r xs))/\∃L',DM wL b4 b9 b6 qF b5 gl cl d i a k xs L' w':=by
 intro r
 induction r with
 | zero=>
  intro k xs L w hk sx hS;obtain rfl:k=d:=by omega
  have HC:=zh hC;have HS:=zh hS;have c4:=hC.q4 w hS.sn;have e1:=hC.m1 w hS.sn;have e0:=hC.m0 w hS.sn;have e2:=hC.m2 w hS.sn;have e3:=hC.m3 w hS.sn;have c9:=hS.c9;have p4:=fun W (hW:aa w W)=>hC.q4 W (hS.sn.after hW)
  have p0:=fun W (hW:aa w W)=>hC.m0 W (hS.sn.after hW)
  have p1:=fun W (hW:aa w W)=>hC.m1 W (hS.sn.after hW)
  have p2:=fun W (hW:aa w W)=>hC.m2 W (hS.sn.after hW)
  have p3:=fun W (hW:aa w W)=>hC.m3 W (hS.sn.after hW)
  have p9:=ab hS.c9
  have hLx:L=xs:=by rw[<- hS.tk,List.take_of_length_le (by rw[hS.ln];exact Nat.le_refl _)]
  have HL:=zh hLx;have hd4:=hC.d4;have mw:=zh sx;clear hC hS hLx hk sx
  go_enter Tryz.func184,Tryz.ntmps184
  have HcN:=zh (show ∀W,aa w W->Calls Tryz.prog 93 #[.agg #[.int .i64 lb,.int .i64 k,pa,pb],.slice (some ⟨gl,0,none⟩) k cl] W fun e w'=>e=.returned (.bool (p.nodes.contains (du xs)))/\Below W.heap.size W w' from fun W hW=>by
   have h1:=xI pa pb p (.slice (some ⟨gl,0,none⟩) k cl) L W (HC.out.pr W (HS.out.sn.after hW)) (HS.out.ow.since hW).ints HC.out.st HC.out.nl (by rw[HS.out.ln];omega)
   rw[HC.out.lab,HC.out.deg,HL.out]at h1
   exact h1)
  go_upto_region 2 with(fail);refine am 7 (aa w) (by kernel_rfl) (by kernel_rfl) (by simp) (ag (ad _)) ?_;simp only[zT]
  iterate 5 (refine bF rfl ?_;simp only[zA])
  refine cH ?_ rfl ?_ ?_;rotate_left;(intro W hW;unfold ba;go_simp;(with_reducible refine(HcN.out W hW).mono ?_);rintro e W' ⟨rfl,aG⟩;first | (refine⟨?_,aa.trans hW aG⟩;with_reducible rfl) | (subst aG;refine⟨?_,hW⟩;with_reducible rfl))
  simp only[zA]
  refine bF rfl ?_;simp only[zA]
  intro W hW;have HW:Hid (aa w W):=hW;clear hW c4 e0 e1 e2 e3 c9 p4 p0 p1 p2 p3 p9;go_wp2;go_ret;exact⟨ce (by simp[jf]),L,HS.out.ac2 HW.out⟩
 | succ r ih=>
  intro k xs L w hk sx hS;have HC:=zh hC;have HS:=zh hS;have c4:=hC.q4 w hS.sn;have c6:=hC.q6 w hS.sn;have e1:=hC.m1 w hS.sn;have e0:=hC.m0 w hS.sn;have c10:=hS.c10;have hd4:=hC.d4;have FL:=hC.lb8;have mw:=zh sx;have Hk:Hid (k<d/\r+(k+1)=d):=⟨by omega,by omega⟩
  have hkd:((k:Int)=(d:Int))=False:=by simp;omega
  have acR:(k=d)=False:=by simp;omega
  have Uk:((k:Int)==(d:Int))=false:=by simp;omega
  have acS:(k==d)=false:=by simp;omega
  have acT:k<4:=by omega
  have m1:IntKind.i64.wrap ((k:Int)+1)=((k+1:Nat):Int):=by rw[aE _ (by omega) (by omega)];omega
  have Hih:=zh ih;clear hC hS sx hk ih
  go_enter Tryz.func184,Tryz.ntmps184
  by_cases P2:k=i
  ·have eki:((k:Int)=(i:Int))=True:=by simp;omega
   have abN:(k=i)=True:=by simp;omega
   have ekb:((k:Int)==(i:Int))=true:=by simp;omega
   have Hki:=zh P2;clear P2;go_wp2_with fail
   refine(Hih.out (k+1) (xs++[a]) L w Hk.out.2 (by rw[List.length_append,mw.out];rfl) (by have h:=HS.out;rw[Hki.out]at h ⊢;exact h.one)).mono ?_
   rintro e w1 ⟨rfl,L1,kh⟩;have Mw:=zh kh;clear kh c4 c6 e1 e0 c10;go_wp2;go_ret;refine⟨ce ?_,L1,Mw.out.back mw.out⟩
   have h9:jf p row i a lb (r+1) xs=jf p row i a lb r (xs++[a]):=by rw[jf,if_pos (by rw[mw.out];exact Hki.out)]
   exact h9.symm
  ·have eki:((k:Int)=(i:Int))=False:=by simp;omega
   have abN:(k=i)=False:=by simp;omega
   have ekb:((k:Int)==(i:Int))=false:=by simp;omega
   obtain⟨x,hx⟩:=ay row k (by rw[HC.out.rl];exact Hk.out.1)
   have uQ:=HC.out.rb k x hx;have Hx:=zh hx
   have hrd:row.getD xs.length 0=x:=by rw[mw.out];exact ak hx
   have Rk:Hid (jf p row i a lb (r+1) xs=(List.range lb).any fun b=>e_ x b&&jf p row i a lb r (xs++[(b:Int)])):=by
    show _=_
    rw[jf,if_neg (by rw[mw.out];exact P2),hrd]
   clear hx hrd;go_upto_region 6 with(fail);clear c4 c6 e1 e0 c10
   go_loopw [36] (fun j wr=>∃(b:Nat) (L:List Int),b<=lb/\j=.int .i64 b/\((List.range b).any fun b=>e_ x b&&jf p row i a lb r (xs++[(b:Int)]))=false/\DM wL b4 b9 b6 qF b5 gl cl d i a k xs L wr) (fun j _=>lb-(intOf j).toNat)
   case atStart=>exact⟨0,L,Nat.zero_le _,rfl,rfl,HS.out⟩
   case round=>
    clear HS;obtain⟨b,L,hb,rfl,l_,hS⟩:=hrel;have pL:=zh l_;have HS:=zh hS;clear l_ hS
    by_cases aH:b<lb
    ·obtain⟨z,hz,dP,eu,hm⟩:=sk uQ (show b<8 by omega)
     have uZ:=zh dP;have gh:=zh eu;have m2:IntKind.i64.wrap ((b:Int)+1)=(b:Int)+1:=aE _ (by omega) (by omega)
     have pO:(List.range (b+1)).any (fun b=>e_ x b&&jf p row i a lb r (xs++[(b:Int)]))=(e_ x b&&jf p row i a lb r (xs++[(b:Int)])):=by
      rw[List.range_succ,List.any_append,pL.out];simp
     have Jp:=zh pO;have p4:=fun W (hW:aa wr W)=>HC.out.q4 W (HS.out.sn.after hW)
     have p5:=fun W (hW:aa wr W)=>HC.out.q5 W (HS.out.sn.after hW)
     have p7:=fun W (hW:aa wr W)=>HC.out.m7 W (HS.out.sn.after hW)
     have pw:=fun W (hW:aa wr W)=>HC.out.rw W (HS.out.sn.after hW)
     have px:=fun W (hW:aa wr W)=>HC.out.rr k x Hx.out W (HS.out.sn.after hW)
     have hvm:=HC.out.vm;have ZV:=Hk.out.1;obtain⟨wo,rfl⟩:∃z,z=wr:=⟨_,rfl⟩
     clear dP eu pO;go_upto_region 8 with(fail);refine am 14 (aa wo) (by kernel_rfl) (by kernel_rfl) (by simp) (ag (ad _)) ?_;simp only[zT]
     iterate 14 (refine bF rfl ?_;simp only[zA])
     intro W hW;have HW:Hid (aa wo W):=hW;have Nh:=zh (HS.out.ac2 hW);clear hW p4 p5 p7 pw px hvm;cases qK:e_ x b
     ·have GD:(z=1)=False:=by rw[gh.out qK];simp
      have NC:(z==1)=false:=by rw[gh.out qK];rfl
      go_wp2;go_roundw
      case rel=>exact⟨b+1,L,by omega,by first | rfl | go_num,by rw[Jp.out,qK];rfl,Nh.out⟩
      case measure=>simp[intOf];omega
     ·have GD:(z=1)=True:=by rw[uZ.out qK];simp
      have NC:(z==1)=true:=by rw[uZ.out qK];rfl
      have c9:=Nh.out.c9
      obtain⟨yk,VA⟩:=ay L k (by rw[Nh.out.ln];exact ZV)
      have ck:=Nh.out.ow.cell VA;have fk:=Nh.out.ow.free k;have hSp:=Nh.out.put ZV P2 mw.out HC.out.n9 HC.out.n10 HC.out.g9 (b:Int);have HSp:=zh hSp;have c10:=hSp.c10;clear VA hSp;go_wp2_with fail
      refine(Hih.out (k+1) (xs++[(b:Int)]) _ _ Hk.out.2 (by rw[List.length_append,mw.out];rfl) HSp.out).mono ?_
      rintro e w1 ⟨rfl,L1,kh⟩;have Mw:=zh (kh.back mw.out);clear kh c9 ck fk c10;cases I5:jf p row i a lb r (xs++[(b:Int)])
      ·go_wp2;go_roundw
       case rel=>exact⟨b+1,L1,by omega,by first | rfl | go_num,by rw[Jp.out,qK,I5];rfl,Mw.out⟩
       case measure=>simp[intOf];omega
      ·go_wp2;go_ret;refine⟨ce ?_,L1,Mw.out⟩;rw[Rk.out]
       symm
       rw[List.any_eq_true]
       exact⟨b,List.mem_range.2 aH,by rw[qK,I5];rfl⟩
    ·obtain rfl:b=lb:=by omega
     go_wp2;go_ret;exact⟨ce (by rw[Rk.out,pL.out]),L,HS.out⟩
def supN (p:az) (M:List (List Int)) (v i:Nat) (a:Int):Bool:=jf p (M.getD v []) i a p.labels.toNat p.degree.toNat []
theorem FM (X:World) (u:Value) (t:TypeId) (N:Nat) (h:X.heap.size=N):(X.alloc (.cells #[u] t)).cell? ⟨N,0,none⟩=some u:=by
 subst h;simp
theorem Jc {w0 w2:World} {b4 b9 b6 b5 gl cl d i:Nat} {a:Int} (t:TypeId) (hs:aa w0 w2) (c9:w2.cell? ⟨b9,0,none⟩=some (.slice (some ⟨gl,0,none⟩) d cl)) (ho:Own w2 w0.heap.size (.slice (some ⟨gl,0,none⟩) d cl) (List.replicate d (-1))) (h9:b9≠gl) (hg:w0.heap.size<=gl) (hi:i<d):
  DM w0 b4 b9 b6 w2.heap.size b5 gl cl d i a 0 [] ((List.replicate d (-1)).set i a) ((w2.setCell ⟨gl,i,none⟩ (.int .i64 a)).alloc (.cells #[.func (.func 184) #[] #[.pointer (some ⟨b4,0,none⟩),.pointer (some ⟨b9,0,none⟩),.pointer (some ⟨b6,0,none⟩),.pointer (some ⟨w2.heap.size,0,none⟩),.pointer (some ⟨b5,0,none⟩)]] t)):=by
 have ik:=ae (W:=w2.setCell ⟨gl,i,none⟩ (.int .i64 a)) (.cells #[.func (.func 184) #[] #[.pointer (some ⟨b4,0,none⟩),.pointer (some ⟨b9,0,none⟩),.pointer (some ⟨b6,0,none⟩),.pointer (some ⟨w2.heap.size,0,none⟩),.pointer (some ⟨b5,0,none⟩)]] t) (ad _)
 refine⟨(show aa w0 (w2.setCell ⟨gl,i,none⟩ (.int .i64 a))from hs.setCell (p:=⟨gl,i,none⟩) hg _).after ik,(ab ?_) _ ik,?_,?_,by simp,by simp,by rw[List.getElem?_set_self (by simpa using hi)]⟩
 ·rw[World.cell?_of_block (Below.heap_setCell _ _ _ b9 (by exact h9))];exact c9
 ·exact FM _ _ _ _ (by rw[gt])
 ·have h1:=ho.set (k:=i) a;have h2:Own (w2.setCell ⟨gl,i,none⟩ (.int .i64 a)) w0.heap.size (.slice (some ⟨gl,0,none⟩) d cl) ((List.replicate d (-1)).set i a):=by simpa using h1
  exact h2.since ik
theorem Dv (mb:Nat) (pa pb va vb vc vm:Value) (p:az) (n:aw) (M:List (List Int)) (v i a:Nat) (w:World) (hB:cC w mb (PF p pa pb va vb vc vm)) (hp:di w pa pb p) (hm:a_ w vm M) (nq:dF p=true) (hM:FK n M) (ct:dR p.nodes) (zm:p.nodes.length<=1048576) {es:List (Int×Int)} (ca:n.ends[v]?=some es) (hi:i<es.length) (hd:(es.length:Int)=p.degree) (hd4:es.length<=4):
  Calls Tryz.prog 145 #[.pointer (some ⟨mb,0,none⟩),.int .i64 v,.int .i64 i,.int .i64 a] w fun e w'=>e=.returned (.bool (supN p M v i a))/\Below w.heap.size w w':=by
 obtain⟨fv,-⟩:=dE nq;obtain⟨row,x,aD,zO,hx,-,Bz⟩:=hM.at ca hi;obtain⟨d,hdd⟩:∃z,z=es.length:=⟨_,rfl⟩
 obtain⟨lb,gX⟩:∃z:Nat,p.labels=(z:Int):=⟨p.labels.toNat,by omega⟩
 have hpd:p.degree=(d:Int):=by rw[hdd,hd]
 have abO:Hid (supN p M v i a=jf p row i a lb d []):=by
  show _=_
  unfold supN;rw[ak aD,gX,hpd];rfl
 obtain⟨AM,cM,rfl⟩:∃A c,vm=.slice A M.length c:=by obtain⟨A,c,e,-⟩:=hm;exact⟨A,c,e⟩
 obtain⟨bm,om,br,ob,zb,rfl,Js,-⟩:=jt hm aD hx
 have Qr:∀(k:Nat) (y:Int),row[k]?=some y->w.cell? ⟨br,ob+k,none⟩=some (.int .i64 y):=fun k y hk=>by
  obtain⟨b1,o1,b2,o2,z1,e,c1,c2⟩:=jt hm aD hk;cases e;rw[c1]at Js;cases Js;exact c2
 obtain⟨d0,d1,d2,d3,-,-,-,d7⟩:=en hB;rw[gX]at d0;rw[hpd]at d1;rw[zO,<- hdd]at Js;obtain⟨b4,qy⟩:∃z,z=w.heap.size:=⟨_,rfl⟩
 obtain⟨ZW,MD⟩:∃z,z=w.alloc (.cells #[.pointer (some ⟨mb,0,none⟩)] 114):=⟨_,rfl⟩
 have ZX:ZW.heap.size=b4+1:=by rw[MD,qy];simp
 have sj:aa w ZW:=by rw[MD];exact ae _ (ad _)
 have k4':ZW.cell? ⟨b4,0,none⟩=some (.pointer (some ⟨mb,0,none⟩)):=by rw[MD,qy];simp
 obtain⟨ZY,ME⟩:∃z,z=ZW.alloc (.cells #[.int .i64 v] 3):=⟨_,rfl⟩
 have ZZ:ZY.heap.size=b4+1+1:=by rw[ME];simp;omega
 have yy:aa ZW ZY:=by rw[ME];exact ae _ (ad _)
 have k5':ZY.cell? ⟨b4+1,0,none⟩=some (.int .i64 v):=by rw[ME,<- ZX];simp
 obtain⟨w0,ar⟩:∃z,z=ZY.alloc (.cells #[.int .i64 i] 3):=⟨_,rfl⟩
 have eu:w0.heap.size=b4+3:=by rw[ar];simp;omega
 have PG:aa ZY w0:=by rw[ar];exact ae _ (ad _)
 have k6:w0.cell? ⟨b4+1+1,0,none⟩=some (.int .i64 i):=by rw[ar,<- ZZ];simp
 have k4:=(ab k4') w0 (yy.after PG);have k5:=(ab k5') w0 PG;have bu:aa w w0:=(sj.after yy).after PG;have P4:=ab k4;have P5:=ab k5;have P6:=ab k6;have f6:=zh bu;have D0:=fun W (hW:aa w0 W)=>(ab d0) W (bu.after hW)
 have D1:=fun W (hW:aa w0 W)=>(ab d1) W (bu.after hW)
 have D2:=fun W (hW:aa w0 W)=>(ab d2) W (bu.after hW)
 have D3:=fun W (hW:aa w0 W)=>(ab d3) W (bu.after hW)
 have D7:=fun W (hW:aa w0 W)=>(ab d7) W (bu.after hW)
 have DW:=fun W (hW:aa w0 W)=>(ab Js) W (bu.after hW)
 have DR:Hid (∀(k:Nat) (y:Int),row[k]?=some y->∀W,aa w0 W->W.cell? ⟨br,ob+k,none⟩=some (.int .i64 y)):=fun k y hk W hW=>(ab (Qr k y hk)) W (bu.after hW)
 have DP:Hid (∀W,aa w0 W->di W pa pb p):=fun W hW=>hp.ac2 (bu.after hW)
 have cS:Hid (((w.alloc (.cells #[.pointer (some ⟨mb,0,none⟩)] 114)).alloc (.cells #[.int .i64 v] 3)).alloc (.cells #[.int .i64 i] 3)=w0):=by show _=_;rw[ar,ME,MD]
 have iu:=zh qy;have gh:=zh eu;have qp:=zh gX;have Hpd:=zh hpd
 have Cn:Hid (row.length=d):=by show _=_;rw[zO,hdd]
 have ch:=zh aD;have HM:=zh hM;have jP:=zh ct;have hid:i<d:=by omega
 have hd5:d<=4:=by omega
 have FL:1<=lb/\lb<=8:=by omega
 have Hvl:Hid (v<M.length):=al aD;clear k4' k5' k4 k5 k6 sj yy PG MD ME ar ZX ZZ eu qy bu d0 d1 d2 d3 d7 Js Qr hB hp hm nq hM ct ca hi hd hd4 fv aD zO hx Bz gX hpd hdd
 go_enter Tryz.func145,Tryz.ntmps145
 go_upto_region 1 with(fail);rw[cS.out,<- iu.out];have ZU:aa w0 w0:=ad _;go_wp2_with fail;refine(v_ w0.heap.size 1 (-1) d _ (by omega) (by simp)).mono ?_;rintro e w1 ⟨u,rfl,ij,aX⟩;have ik:aa w0 (w0.alloc (.cells #[.int .i64 (-1)] 3)):=ae _ ZU;rcases ij.cases with⟨rfl,h0⟩ | ⟨gl,cl,rfl,FV,Ec⟩
 ·exfalso
  have:=congrArg List.length h0
  simp at this
  omega
 simp only[List.length_replicate]at ij ⊢
 have dw:aa w0 w1:=ik.after aX;obtain⟨w2,eH⟩:∃z,z=w1.alloc (.cells #[.slice (some ⟨gl,0,none⟩) d cl] 28):=⟨_,rfl⟩
 obtain⟨b9,ka⟩:∃z,z=w1.heap.size:=⟨_,rfl⟩
 have ko:aa w1 w2:=by rw[eH];exact ae _ (ad _)
 have c9:w2.cell? ⟨b9,0,none⟩=some (.slice (some ⟨gl,0,none⟩) d cl):=by rw[eH,ka];simp
 have py:=zh eH;have q8:=zh ka;have acU:w0.heap.size<gl:=Nat.lt_of_lt_of_le (by simp) FV
 have acV:gl<b9:=by rw[ka];exact Ec
 have dW:=Own.mono (ij.since ko) (show w0.heap.size<=(w0.alloc (.cells #[.int .i64 (-1)] 3)).heap.size from ik.below.size);have Yy:(List.replicate d (-1:Int))[i]?=some (-1):=by rw[List.getElem?_replicate,if_pos hid]
 have ci:=dW.cell Yy;have fi:=dW.free i;have dZ:aa w0 w2:=dw.after ko;have nW:=zh dW;have gn:=zh dZ;have p6:=P6 w2 dZ;clear ij aX ik ZU dw ko eH ka Yy dW FV Ec;go_upto_region 2 with(fail);rw[<- py.out,<- q8.out];go_wp2_with fail
 have hC:FlC w0 mb b4 b9 (b4+1+1) w2.heap.size (b4+1) gl cl d bm om br ob zb M.length cM lb p pa pb row v i (a:Int):=
  ⟨P4,P6,P5,D0,D1,D2,D3,D7,DW,DR.out,DP.out,jP.out,zm,Cn.out,fun k y hk=>HM.out.rng v row k y ch.out hk,qp.out,Hpd.out,FL,hd5,hid,Hvl.out,by omega,by have:=(World.ownsRow.lt nW.out gl (by simp[Value.ownBlock])).2;omega,by omega,by omega,gn.out.below.size⟩
 have kU:=MC hC d 0 [] ((List.replicate d (-1)).set i (a:Int)) _ (by omega) rfl (Jc 78 gn.out c9 nW.out (by omega) (by omega) hid);rw[show(((0:Nat):Int))=0 from rfl]at kU;refine kU.mono ?_;rintro e w3 ⟨rfl,L1,kh⟩;have Jp:=zh (f6.out.after kh.sn);clear hC kU kh c9 ci fi p6;go_wp2;go_ret;exact⟨ce (by rw[abO.out]),Jp.out⟩
end Go.Proofs.YtnioemnkfojmkaaGreat
