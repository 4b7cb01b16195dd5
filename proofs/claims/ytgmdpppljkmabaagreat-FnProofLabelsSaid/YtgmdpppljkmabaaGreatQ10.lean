/- Parts of the proof: walks of functions and plain laws. -/
import Derived.Test.YtgmdpppljkmabaaGreatQ0
import Derived.Test.YtgmdpppljkmabaaGreatQ1
import Derived.Test.YtgmdpppljkmabaaGreatQ9
import Derived.Test.YtgmdpppljkmabaaGreatQ4
import Derived.Test.YtgmdpppljkmabaaGreatQ3
import Derived.Test.YtgmdpppljkmabaaGreatQ6
import Derived.Test.YtgmdpppljkmabaaGreatQ5
import Derived.ArgAppend
set_option maxRecDepth 100000
set_option maxHeartbeats 16000000
namespace Go.Proofs.YtgmdpppljkmabaaGreat
open Go Go.RowKit
def sB (n:ak) (s:Int) (ls:List Int):List Int:=fc (fun v=>fR n s ls v.toNat) (gK ls.length)
theorem QZ (n:ak) (s:Int) (ls:List Int):(sB n s ls).length<=ls.length:=by
 have:=vM (fun v=>fR n s ls v.toNat) (gK ls.length)
 rw[fM]at this;exact this
theorem nJ (p:Int->Bool) (k:Nat):fc p (gK (k+1))=fc p (gK k)++if p k then [] else [(k:Int)]:=by
 rw[JP];unfold fc;rw[List.filter_append];congr 1
 cases h:p (k:Int) <;> simp[h]
theorem qO (ve vi vn vl:Value) (n:ak) (s:Int) (ls:List Int) (w:World) (h:aQ w ve vi vn n) (hl:aY w vl ls) (gP:dY n s ls=true):
  Calls Tryz.prog 113 #[.agg #[ve,vi,vn],.int .i64 s,vl] w fun e w'=>∃u,e=.returned u/\Own w' w.heap.size u (sB n s ls)/\Below w.heap.size w w':=by
 obtain⟨w0,A,c,A2,c2,A3,c3,rfl,rfl,rfl,eV,hm,fJ,fB,HA,bK,aT,H,dL,dR,dU⟩:=zB h;clear h
 have HL:=zh (hl.keep aT.out);obtain⟨AL,cL,rfl,yX,nz,_⟩:=hl;unfold maxLen at nz;have nq:=zh gP
 have rK:ls.length<=40:=by have:=mL gP;omega
 have bB:aa w0 w0:=ad _;clear gP
 go_enter Tryz.func113,Tryz.ntmps113
 go_upto_region 1 with(fail);rw[<- bK.out];go_wp2
 go_loopw [7,11] (fun u i wr=>∃k:Nat,k<=ls.length/\i=.int .i64 k/\Own wr w0.heap.size u (fc (fun v=>fR n s ls v.toNat) (gK k))/\aa w0 wr) (fun _ i _=>ls.length-(intOf i).toNat)
 case atStart=>exact⟨0,Nat.zero_le _,rfl,by simpa[fc,gK]using bH _ w0.heap.size,bB⟩
 case round=>
  obtain⟨k,hk,rfl,ho,hs⟩:=hrel;have Ho:=zh ho;clear ho bB
  by_cases hlt:k<ls.length
  ·obtain⟨es,l,gV,jI,a1,a2,a3,a4,a5,a6,a7,a8,a9,SX⟩:=Gj nq.out (k:=k) (by have:=mL nq.out;omega)
   have HA:=zh (And.intro a3 (And.intro a5 (And.intro a6 (And.intro a7 (And.intro a8 (And.intro a9 SX))))))
   have cJ:Hid ((fc (fun v=>fR n s ls v.toNat) (gK k)).length+1<=17592186044416):=by
    have:=vM (fun v=>fR n s ls v.toNat) (gK k)
    rw[fM]at this;show _<=_
    omega
   clear a3 a5 a6 a7 a8 a9 SX;go_wp2_with fail;refine(Nw _ _ _ _ n s ls k es l gV jI _ (H.out.keep hs.below) (HL.out.keep hs.below) a1 a2 HA.out.1 a4 HA.out.2.1 HA.out.2.2.1 HA.out.2.2.2.1 HA.out.2.2.2.2.1 HA.out.2.2.2.2.2.1).mono ?_;rw[<- HA.out.2.2.2.2.2.2];rintro e W2 ⟨rfl,bj⟩;have d_:=aa.trans hs bj;have eX:=zh (Ho.out.keep bj);cases hp:fR n s ls k
   ·have Hp:=zh (show(fun v:Int=>fR n s ls v.toNat) (k:Int)=false by simpa using hp)
    clear hs bj hp
    go_wp2_with (at_builtin;refine dy rfl _ _ rfl rfl (eX.out.since (ag _ (ad _))) W2.heap.size k rfl (by simp[go_sem]) cJ.out (ag _ d_) ?_;intro g cc w2 dl hZ)
    have i8:=zh dl;have ew:=zh hZ;clear dl hZ d_;go_wp2;go_roundw
    case rel=>exact⟨k+1,by omega,by go_num,by rw[nJ,Hp.out];exact i8.out,ew.out⟩
    case measure=>simp[intOf];omega
   ·have Hp:=zh (show(fun v:Int=>fR n s ls v.toNat) (k:Int)=true by simpa using hp)
    clear hs bj hp;go_wp2;go_roundw
    case rel=>exact⟨k+1,by omega,by go_num,by rw[nJ,Hp.out];simpa using eX.out,d_⟩
    case measure=>simp[intOf];omega
  ·obtain rfl:k=ls.length:=by omega
   go_wp2;go_ret;exact⟨_,rfl,Ho.out.mono aT.out.size,aa.after aT.out hs⟩
theorem NC:∀args w,(callFunc 135 args).run Tryz.prog w=.ok (.enter 135 args) w:=enters_of Tryz.func135 (by kernel_rfl) rfl
theorem ND (ve vi vn vl:Value) (n:ak) (s:Int) (ls:List Int) (k b:Nat) (w:World) (h:aQ w ve vi vn n) (hl:aY w vl ls) (gP:dY n s ls=true) (hk:k<n.ends.length)
  (c0:w.cell? ⟨b,0,none⟩=some ve) (c1:w.cell? ⟨b,1,none⟩=some vi) (c2:w.cell? ⟨b,2,none⟩=some vn) (c3:w.cell? ⟨b+1,0,none⟩=some (.int .i64 s)) (c4:w.cell? ⟨b+1+1,0,none⟩=some vl):
  Calls Tryz.prog 135 #[.int .i64 k,.pointer (some ⟨b,0,none⟩),.pointer (some ⟨b+1,0,none⟩),.pointer (some ⟨b+1+1,0,none⟩)] w fun e w'=>e=.returned (.bool (fR n s ls k))/\Below w.heap.size w w':=by
 obtain⟨es,l,gV,jI,a1,a2,a3,a4,a5,a6,a7,a8,a9,SX⟩:=Gj gP hk;have hc:=uG ve vi vn vl n s ls k es l gV jI w h hl a1 a2 a3 a4 a5 a6 a7 a8 a9;rw[<- SX]at hc;have Hc:=zh hc;obtain⟨AL,cL,rfl,yX,nz,_⟩:=hl;obtain⟨⟨A,c,rfl,eV,hm,_⟩,⟨A2,Bj,rfl,_,adI,_⟩,⟨A3,Dy,rfl,_,adJ,_⟩⟩:=h;clear hc gP a3 a5 a6 a7 a8 a9 SX
 go_enter Tryz.func135,Tryz.ntmps135
 go_wp2_with fail;refine Hc.out.mono ?_;rintro e w2 ⟨rfl,hb⟩;have Hb:=zh hb;clear hb;go_wp2;go_ret;exact⟨rfl,Hb.out⟩
theorem qP (ve vi vn vl:Value) (n:ak) (s:Int) (ls:List Int) (w:World) (h:aQ w ve vi vn n) (hl:aY w vl ls) (gP:dY n s ls=true):
  Calls Tryz.prog 61 #[.agg #[ve,vi,vn],.int .i64 s,vl] w fun e w'=>∃u,e=.returned u/\Own w' w.heap.size u (sB n s ls)/\Below w.heap.size w w':=by
 have HL0:=zh hl;obtain⟨AL,cL,rfl,yX,nz,_⟩:=hl;unfold maxLen at nz;obtain⟨w0,cG⟩:∃w0,w0=(((w).alloc (.cells #[ve,vi,vn] 27)).alloc (.cells #[.int .i64 s] 3)).alloc (.cells #[.slice AL ls.length cL] 25):=⟨_,rfl⟩
 have nu:Below w.heap.size w w0:=by rw[cG];exact((((Below.refl _ _).alloc (by simp <;> omega) _).alloc (by simp <;> omega) _).alloc (by simp <;> omega) _)
 have H:=zh (h.keep nu);obtain⟨h1,h2,h3⟩:=h.keep nu;obtain⟨A,c,rfl,eV,hm,hA⟩:=h1;obtain⟨A2,c2,rfl,_,fJ,_⟩:=h2;obtain⟨A3,c3,rfl,_,fB,_⟩:=h3;unfold maxLen at hm fJ fB
 have dL:∀W,aa w0 W->W.cell? ⟨w.heap.size,0,none⟩=some (.slice A n.ends.length c):=ae (by rw[cG];simp[go_sem])
 have dR:∀W,aa w0 W->W.cell? ⟨w.heap.size,1,none⟩=some (.slice A2 n.ids.length c2):=ae (by rw[cG];simp[go_sem])
 have dU:∀W,aa w0 W->W.cell? ⟨w.heap.size,2,none⟩=some (.slice A3 n.aea.length c3):=ae (by rw[cG];simp[go_sem])
 have p10:∀W,aa w0 W->W.cell? ⟨w.heap.size+1,0,none⟩=some (.int .i64 s):=ae (by rw[cG];simp[go_sem])
 have p20:∀W,aa w0 W->W.cell? ⟨w.heap.size+1+1,0,none⟩=some (.slice AL ls.length cL):=ae (by rw[cG];simp[go_sem])
 have aT:=zh nu;have bK:=zh cG;have HA:=zh hA;clear hA h;clear nu cG;have HL:=zh (HL0.out.keep aT.out)
 have rK:n.ends.length<=1000000:=by have:=mL gP;omega
 have NE:=zh (mL gP).2.1
 have HP:Hid (oS w0 135 #[.pointer (some ⟨w.heap.size,0,none⟩),.pointer (some ⟨w.heap.size+1,0,none⟩),.pointer (some ⟨w.heap.size+1+1,0,none⟩)] (fun v=>fR n s ls v.toNat) (gK n.ends.length)):=by
  intro x hx X hX;obtain⟨k,hk,rfl⟩:=List.mem_map.1 hx;have tC:=List.mem_range.1 hk;exact ND (.slice A n.ends.length c) (.slice A2 n.ids.length c2) (.slice A3 n.aea.length c3) (.slice AL ls.length cL) n s ls k w.heap.size X (H.out.keep hX) (HL.out.keep hX) gP tC (dL X hX) (dR X hX) (dU X hX) (p10 X hX) (p20 X hX)
 have bB:aa w0 w0:=ad _;clear gP
 go_enter Tryz.func61,Tryz.ntmps61
 go_upto_region 1 with(fail);rw[<- bK.out];go_wp2_with fail;refine(qz n.ends.length rK w0).mono ?_;rintro e W3 ⟨u3,rfl,eH,bN⟩;have i8:=zh eH;have ew:Hid (aa w0 W3):=bN;clear eH bN bB;go_wp2_with fail
 refine(wZ _ (gK n.ends.length) _ _ (fun v=>fR n s ls v.toNat) _ w0 i8.out ew.out (by rw[fM];omega) NC HP.out).mono ?_
 rintro e W4 ⟨u4,rfl,oH,nj⟩;have ut:=zh oH;have mG:=zh nj;clear oH nj;go_wp2;go_ret
 exact⟨_,rfl,by unfold sB;rw[NE.out];exact ut.out.mono aT.out.size,aa.after aT.out mG.out⟩
def aX (n:ak) (s:Int) (ls:List Int):Bool:=dY n s ls
def aI (n:ak) (s:Int) (ls:List Int):List Int:=if dY n s ls then sB n s ls else []
def cD (n:ak) (s:Int) (ls:List Int):Bool:=dY n s ls
def aG (n:ak) (s:Int) (ls:List Int):Bool:=dY n s ls&&(sB n s ls).length==0
theorem lu (ve vi vn:Value) (n:ak) (s:Int) (vl:Value) (ls:List Int) (w:World) (h:aQ w ve vi vn n) (_ : -9223372036854775808<=s/\s<=9223372036854775807) (hl:aY w vl ls) (eP:iK n<=1048576) (aet:ls.length<=1048576):
  Calls Tryz.prog 43 #[.agg #[ve,vi,vn],.int .i64 s,vl] w fun e w'=>∃u,e=.returned (.tuple #[u,.bool (aX n s ls)])/\Own w' w.heap.size u (aI n s ls)/\Below w.heap.size w w':=by
 obtain⟨w0,A,c,A2,c2,A3,c3,rfl,rfl,rfl,eV,hm,fJ,fB,HA,bK,aT,H,dL,dR,dU⟩:=zB h;clear h
 have HL:=zh (hl.keep aT.out);obtain⟨AL,cL,rfl,yX,nz,_⟩:=hl;unfold maxLen at nz;have bB:aa w0 w0:=ad _;cases gP:dY n s ls
 ·have nq:=zh gP;clear gP
  go_enter Tryz.func43,Tryz.ntmps43
  go_upto_region 1 with(fail);rw[<- bK.out];go_wp2_with fail;refine(kU _ _ _ _ n s ls _ H.out HL.out).mono ?_;rw[nq.out];rintro e W1 ⟨rfl,ay⟩;have dC:Hid (aa w0 W1):=ay;clear ay bB;go_wp2
  go_ret2
  exact⟨_,congrArg (fun b=>Ending.returned (.tuple #[_,.bool b])) (show false=aX n s ls from nq.out.symm),by rw[show aI n s ls=[]by simp[aI,nq.out]];exact bH _ _,aa.after aT.out dC.out⟩
 ·have nq:=zh gP;clear gP
  go_enter Tryz.func43,Tryz.ntmps43
  go_upto_region 1 with(fail);rw[<- bK.out];go_wp2_with fail;refine(kU _ _ _ _ n s ls _ H.out HL.out).mono ?_;rw[nq.out];rintro e W1 ⟨rfl,ay⟩;have cY:aa w0 W1:=ay;clear ay bB;go_wp2_with fail;refine(qO _ _ _ _ n s ls _ (H.out.keep cY.below) (HL.out.keep cY.below) nq.out).mono ?_;rintro e W2 ⟨u,rfl,ho,hb⟩;have Ho:=zh ho;have b_:=zh (cY.trans hb);have jF:=zh (aa.below cY).size;clear ho hb cY;go_wp2
  go_ret2
  exact⟨_,congrArg (fun b=>Ending.returned (.tuple #[_,.bool b])) (show true=aX n s ls from nq.out.symm),by rw[show aI n s ls=sB n s ls by simp[aI,nq.out]];exact Ho.out.mono (Nat.le_trans aT.out.size jF.out),aa.after aT.out b_.out⟩
theorem lv (ve vi vn:Value) (n:ak) (s:Int) (vl:Value) (ls:List Int) (w:World) (h:aQ w ve vi vn n) (_ : -9223372036854775808<=s/\s<=9223372036854775807) (hl:aY w vl ls) (eP:iK n<=1048576) (aet:ls.length<=1048576):
  Calls Tryz.prog 15 #[.agg #[ve,vi,vn],.int .i64 s,vl] w fun e w'=>∃u,e=.returned (.tuple #[u,.bool (aX n s ls)])/\Own w' w.heap.size u (aI n s ls)/\Below w.heap.size w w':=by
 obtain⟨w0,A,c,A2,c2,A3,c3,rfl,rfl,rfl,eV,hm,fJ,fB,HA,bK,aT,H,dL,dR,dU⟩:=zB h;clear h
 have HL:=zh (hl.keep aT.out);obtain⟨AL,cL,rfl,yX,nz,_⟩:=hl;unfold maxLen at nz;have bB:aa w0 w0:=ad _;cases gP:dY n s ls
 ·have nq:=zh gP;clear gP
  go_enter Tryz.func15,Tryz.ntmps15
  go_upto_region 1 with(fail);rw[<- bK.out];go_wp2_with fail;refine(jx _ _ _ _ n s ls _ H.out HL.out eP).mono ?_;rw[nq.out];rintro e W1 ⟨rfl,ay⟩;have dC:Hid (aa w0 W1):=ay;clear ay bB;go_wp2
  go_ret2
  exact⟨_,congrArg (fun b=>Ending.returned (.tuple #[_,.bool b])) (show false=aX n s ls from nq.out.symm),by rw[show aI n s ls=[]by simp[aI,nq.out]];exact bH _ _,aa.after aT.out dC.out⟩
 ·have nq:=zh gP;clear gP
  go_enter Tryz.func15,Tryz.ntmps15
  go_upto_region 1 with(fail);rw[<- bK.out];go_wp2_with fail;refine(jx _ _ _ _ n s ls _ H.out HL.out eP).mono ?_;rw[nq.out];rintro e W1 ⟨rfl,ay⟩;have cY:aa w0 W1:=ay;clear ay bB;go_wp2_with fail;refine(qP _ _ _ _ n s ls _ (H.out.keep cY.below) (HL.out.keep cY.below) nq.out).mono ?_;rintro e W2 ⟨u,rfl,ho,hb⟩;have Ho:=zh ho;have b_:=zh (cY.trans hb);have jF:=zh (aa.below cY).size;clear ho hb cY;go_wp2
  go_ret2
  exact⟨_,congrArg (fun b=>Ending.returned (.tuple #[_,.bool b])) (show true=aX n s ls from nq.out.symm),by rw[show aI n s ls=sB n s ls by simp[aI,nq.out]];exact Ho.out.mono (Nat.le_trans aT.out.size jF.out),aa.after aT.out b_.out⟩
theorem nK (ve vi vn:Value) (n:ak) (s:Int) (vl:Value) (ls:List Int) (w:World) (h:aQ w ve vi vn n) (_ : -9223372036854775808<=s/\s<=9223372036854775807) (hl:aY w vl ls) (eP:iK n<=1048576) (aet:ls.length<=1048576):
  Calls Tryz.prog 42 #[.agg #[ve,vi,vn],.int .i64 s,vl] w fun e w'=>e=.returned (.tuple #[.bool (aG n s ls),.bool (cD n s ls)])/\Below w.heap.size w w':=by
 obtain⟨w0,A,c,A2,c2,A3,c3,rfl,rfl,rfl,eV,hm,fJ,fB,HA,bK,aT,H,dL,dR,dU⟩:=zB h;clear h
 have HL:=zh (hl.keep aT.out);obtain⟨AL,cL,rfl,yX,nz,_⟩:=hl;unfold maxLen at nz;have bB:aa w0 w0:=ad _;cases gP:dY n s ls
 ·have nq:=zh gP;clear gP
  go_enter Tryz.func42,Tryz.ntmps42
  go_upto_region 1 with(fail);rw[<- bK.out];go_wp2_with fail;refine(kU _ _ _ _ n s ls _ H.out HL.out).mono ?_;rw[nq.out];rintro e W1 ⟨rfl,ay⟩;have dC:Hid (aa w0 W1):=ay;clear ay bB;go_wp2
  go_ret2
  exact⟨QU (show false=aG n s ls by simp[aG,nq.out]) (show false=cD n s ls from nq.out.symm),aa.after aT.out dC.out⟩
 ·have nq:=zh gP;clear gP
  go_enter Tryz.func42,Tryz.ntmps42
  go_upto_region 1 with(fail);rw[<- bK.out];go_wp2_with fail;refine(kU _ _ _ _ n s ls _ H.out HL.out).mono ?_;rw[nq.out];rintro e W1 ⟨rfl,ay⟩;have cY:aa w0 W1:=ay;clear ay bB;go_wp2_with fail;refine(qO _ _ _ _ n s ls _ (H.out.keep cY.below) (HL.out.keep cY.below) nq.out).mono ?_;rintro e W2 ⟨u,rfl,ho,hb⟩;have Ho:=zh ho;have b_:=zh (cY.trans hb);have jF:=zh (aa.below cY).size;obtain⟨Bu,du,rfl,_⟩:=id ho.ints;clear ho hb cY;go_wp2
  go_ret2
  exact⟨QU (show _=aG n s ls by rw[aG,nq.out,Bool.true_and];first | rfl | (rw[Bool.eq_iff_iff];simp)) (show true=cD n s ls from nq.out.symm),aa.after aT.out b_.out⟩
theorem jA (ve vi vn:Value) (n:ak) (s:Int) (vl:Value) (ls:List Int) (w:World) (h:aQ w ve vi vn n) (_ : -9223372036854775808<=s/\s<=9223372036854775807) (hl:aY w vl ls) (eP:iK n<=1048576) (aet:ls.length<=1048576):
  Calls Tryz.prog 24 #[.agg #[ve,vi,vn],.int .i64 s,vl] w fun e w'=>e=.returned (.tuple #[.bool (aG n s ls),.bool (cD n s ls)])/\Below w.heap.size w w':=by
 obtain⟨w0,A,c,A2,c2,A3,c3,rfl,rfl,rfl,eV,hm,fJ,fB,HA,bK,aT,H,dL,dR,dU⟩:=zB h;clear h
 have HL:=zh (hl.keep aT.out);obtain⟨AL,cL,rfl,yX,nz,_⟩:=hl;unfold maxLen at nz;have bB:aa w0 w0:=ad _;cases gP:dY n s ls
 ·have nq:=zh gP;clear gP
  go_enter Tryz.func24,Tryz.ntmps24
  go_upto_region 1 with(fail);rw[<- bK.out];go_wp2_with fail;refine(jx _ _ _ _ n s ls _ H.out HL.out eP).mono ?_;rw[nq.out];rintro e W1 ⟨rfl,ay⟩;have dC:Hid (aa w0 W1):=ay;clear ay bB;go_wp2
  go_ret2
  exact⟨QU (show false=aG n s ls by simp[aG,nq.out]) (show false=cD n s ls from nq.out.symm),aa.after aT.out dC.out⟩
 ·have nq:=zh gP;clear gP
  go_enter Tryz.func24,Tryz.ntmps24
  go_upto_region 1 with(fail);rw[<- bK.out];go_wp2_with fail;refine(jx _ _ _ _ n s ls _ H.out HL.out eP).mono ?_;rw[nq.out];rintro e W1 ⟨rfl,ay⟩;have cY:aa w0 W1:=ay;clear ay bB;go_wp2_with fail;refine(qP _ _ _ _ n s ls _ (H.out.keep cY.below) (HL.out.keep cY.below) nq.out).mono ?_;rintro e W2 ⟨u,rfl,ho,hb⟩;have Ho:=zh ho;have b_:=zh (cY.trans hb);have jF:=zh (aa.below cY).size;obtain⟨Bu,du,rfl,_⟩:=id ho.ints;clear ho hb cY;go_wp2
  go_ret2
  exact⟨QU (show _=aG n s ls by rw[aG,nq.out,Bool.true_and];first | rfl | (rw[Bool.eq_iff_iff];simp)) (show true=cD n s ls from nq.out.symm),aa.after aT.out b_.out⟩
def YG (B:Nat):Nat->Nat->List Nat
 | 0,_=>[]
 | n+1,k=>k%B::YG B n (k/B)
def abV (ds:List Nat):List Int:=(ds.map fun (x:Nat)=>(x:Int)).reverse
def I5 (B n k:Nat):List Int:=abV (YG B n k)
def Gp (aU:Int):Nat->Option Int
 | 0=>some 1
 | n+1=>match Gp aU n with
  | none=>none
  | some c=>if 20000<=aU\/20000<c*(aU+1) then none else some (c*(aU+1))
theorem bg.since {S:List Nat} {w0 W W':World} (h:aa w0 W) (ho:bg S W W') (hs:∀k∈S,w0.heap.size<=k):aa w0 W':=Below.trans h (ho.below _ h.below.size hs)
def abW (n:ak) (s aU:Int):Bool:=al n&&ey 1 5 s&&ey 0 999999999999 aU
def Gq (aU:Int) (n:Nat):Int:=(Gp aU n).getD (-1)
def NF (n:ak) (s:Int) (B:Nat):Nat->Nat
 | 0=>0
 | k+1=>NF n s B k+if (sB n s (I5 B n.ends.length k)).length=0 then 1 else 0
def fS (n:ak) (s aU:Int):Bool:=abW n s aU&&(Gp aU n.ends.length).isSome
def fT (n:ak) (s aU:Int):Int:=if fS n s aU then (NF n s (aU.toNat+1) (Gq aU n.ends.length).toNat:Int) else 0
def BV (n:ak) (s:Int) (B:Nat):Nat->Nat×List Int
 | 0=>(n.ends.length+1,[])
 | k+1=>if (sB n s (I5 B n.ends.length k)).length<(BV n s B k).1 then ((sB n s (I5 B n.ends.length k)).length,I5 B n.ends.length k) else BV n s B k
def fC (n:ak) (s aU:Int):Int:=if fS n s aU then ((BV n s (aU.toNat+1) (Gq aU n.ends.length).toNat).1:Int) else 0
def fU (n:ak) (s aU:Int):List Int:=if fS n s aU then (BV n s (aU.toNat+1) (Gq aU n.ends.length).toNat).2 else []
def U1 (W:World) (b:Nat) (u:Value):Prop:=W.heap[b]?=some (.cells #[u] 25)
theorem ma {w:World} {base:Nat} {u:Value} {xs:List Int} {k:Nat} {x:Int} (h:Own w base u xs) (hx:xs[k]?=some x):∃g c,u=.slice (some ⟨g,0,none⟩) xs.length c/\w.cell? ⟨g,k,none⟩=some (.int .i64 x)/\base<=g:=by
 rcases h.cases with⟨-,e1⟩ | ⟨g,c,rfl,iH,lh⟩
 ·rw[e1]at hx;simp at hx
 ·exact⟨g,c,rfl,h.cell hx,iH⟩
theorem Ak {n:ak} (hn:al n=true) {v:Nat} (hv:v<n.ends.length):(bS n v).length=n.ends.length:=kQ hn _ _ _ (BI.start hv)
theorem DJ {w:World} {base:Nat} {u:Value} {n:ak} (hn:al n=true) {v k:Nat} (hv:v<n.ends.length) (hk:k<n.ends.length) (h:Own w base u (bS n v)):∃g c d,u=.slice (some ⟨g,0,none⟩) n.ends.length c/\(bS n v)[k]?=some d/\w.cell? ⟨g,k,none⟩=some (.int .i64 d)/\base<=g:=by
 obtain⟨d,hd⟩:=aM (bS n v) k (by rw[Ak hn hv];exact hk)
 obtain⟨g,c,h1,h2,h3⟩:=ma h hd;exact⟨g,c,d,by rw[h1,Ak hn hv],hd,h2,h3⟩
def n9 (n:ak) (k:Nat):List Int:=(List.range n.ends.length).map fun v=>if v<k then f_ n v else 0
theorem KA (n:ak) (k:Nat):(n9 n k).length=n.ends.length:=by simp[n9]
theorem Gr (n:ak):n9 n 0=List.replicate n.ends.length 0:=by
 unfold n9;apply List.ext_getElem?
 intro i;rw[List.getElem?_map,List.getElem?_replicate]
 by_cases h:i<n.ends.length
 ·rw[List.getElem?_range h,if_pos h];rfl
 ·rw[List.getElem?_eq_none (by simpa using h),if_neg h];rfl
theorem KB (n:ak):n9 n n.ends.length=ml n:=by
 unfold n9 ml
 apply List.map_congr_left
 intro v hv;rw[if_pos (List.mem_range.1 hv)]
theorem KC {n:ak} {k:Nat} (hk:k<n.ends.length):(n9 n k).set k (f_ n k)=n9 n (k+1):=by
 apply List.ext_getElem?
 intro i;unfold n9;rw[List.getElem?_set]
 by_cases h:k=i
 ·subst h;rw[if_pos rfl,List.length_map,List.length_range,if_pos hk,List.getElem?_map,List.getElem?_range hk];simp
 ·rw[if_neg h,List.getElem?_map,List.getElem?_map]
  by_cases h2:i<n.ends.length
  ·rw[List.getElem?_range h2];simp only[Option.map_some,Option.some.injEq]
   by_cases h3:i<k
   ·rw[if_pos h3,if_pos (by omega)]
   ·rw[if_neg h3,if_neg (by omega)]
  ·rw[List.getElem?_eq_none (by simpa using h2)];rfl
def NG (n:ak) (k:Nat):Prop:=∀v,v<k->(eh n (v:Int)).any (lk n v)=false
theorem KD {n:ak} (hn:al n=true) (h:NG n n.ends.length):ll n=true:=by
 rw[pW hn,List.all_eq_true];intro v hv
 rw[h v (List.mem_range.1 hv)];rfl
theorem KE {n:ak} (hn:al n=true) {v:Nat} (hv:v<n.ends.length) {x:Int} (hx:x∈eh n (v:Int)) (hc:lk n v x=true):ll n=false:=by
 rw[pW hn,Bool.eq_false_iff];intro h
 have:=List.all_eq_true.1 h v (List.mem_range.2 hv)
 rw[List.any_eq_true.2 ⟨x,hx,hc⟩]at this;cases this
theorem Al (ve vi vn:Value) (n:ak) (w:World) (h:aQ w ve vi vn n) (hn:al n=true):
  Calls Tryz.prog 162 #[.agg #[ve,vi,vn]] w fun e w'=>∃u,e=.returned (.tuple #[u,.bool (ll n)])/\Own w' w.heap.size u (if ll n=true then ml n else [])/\Below w.heap.size w w':=by
 have eS:=aE hn;have rg:=eS.1;have rh:=eS.2;have Hn:=zh hn
 obtain⟨w0,A,c,A2,c2,A3,c3,rfl,rfl,rfl,eV,hm,fJ,fB,HA,bK,aT,H,dL,dR,dU⟩:=zB h;clear h
 have bB:aa w0 w0:=ad _;obtain⟨rb,gY⟩:∃rb,ll n=rb:=⟨_,rfl⟩
 have iF:=zh gY;rw[gY];clear hn eS gY
 go_enter Tryz.func162,Tryz.ntmps162
 go_upto_region 1 with(fail);rw[<- bK.out]
 go_wp2_with (at_make;refine jp _ rfl _ _ rfl _ _ n.ends.length rfl rfl rfl rfl (by omega) ?_;intro w1 dT ay dV;have cY:aa w0 w1:=ay)
 obtain⟨g,hg⟩:∃g,g=w0.heap.size:=⟨_,rfl⟩
 rw[<- hg]at dT dV ⊢;have dC:=zh cY
 have CJ:Hid (w0.heap.size<=g):=by rw[hg];exact Nat.le_refl _
 have hgw:Hid (g<w1.heap.size):=by show _<_;omega
 have rP:Hid (Own w1 w0.heap.size (.slice (some ⟨g,0,none⟩) n.ends.length n.ends.length) (n9 n 0)):=by rw[Gr];exact dT.mono CJ.out
 clear dT ay dV bB hg;go_wp2_with fail;refine(jh _ _ _ n w1 (H.out.keep dC.out.below) Hn.out).mono ?_;rintro e w2 ⟨u2,rfl,dl,bj⟩
 obtain⟨gc,cc,rfl⟩:∃gc cc,u2=.slice (some ⟨gc,0,none⟩) n.ends.length cc:=by
  obtain⟨x,hx⟩:=aM (bn n) 0 (by simp[bn];omega)
  obtain⟨g,c,h1,-⟩:=ma dl hx
  exact⟨g,c,by rw[h1];simp[bn]⟩
 have DK:Hid (g≠gc):=by
  obtain⟨x,hx⟩:=aM (bn n) 0 (by simp[bn];omega)
  obtain⟨g',c,h1,-,h3⟩:=ma dl hx;simp only[Value.slice.injEq,Option.some.injEq,Addr.mk.injEq]at h1
  have:=hgw.out
  show _≠_
  omega
 have eX:=zh dl;have b_:=zh (dC.out.after bj);have abX:=zh (rP.out.since bj);clear dl bj cY;go_wp2
 go_loopw [18] (fun i wr=>∃k:Nat,k<=n.ends.length/\i=.int .i64 k/\Own wr w0.heap.size (.slice (some ⟨g,0,none⟩) n.ends.length n.ends.length) (n9 n k)/\Own wr w1.heap.size (.slice (some ⟨gc,0,none⟩) n.ends.length cc) (bn n)/\aa w0 wr) (fun i _=>n.ends.length-(intOf i).toNat)
 case atStart=>exact⟨0,Nat.zero_le _,rfl,abX.out,eX.out,b_.out⟩
 case round=>
  obtain⟨k,hk,rfl,ho,hc,bA⟩:=hrel;have Ho:=zh ho;have Hc:=zh hc;have Hs:=zh bA;clear ho hc bA
  by_cases hlt:k<n.ends.length
  ·have m3:IntKind.i64.wrap ((k:Int)+1)=(k:Int)+1:=aF _ (by omega) (by omega);obtain⟨p,hp⟩:∃p,p=ai n k:=⟨_,rfl⟩
   have qH:p<n.ends.length:=by rw[hp];exact cM Hn.out hlt
   have c1:=ae (Hc.out.cell (show(bn n)[k]?=some (p:Int)by rw[hp];unfold bn;rw[List.getElem?_map,List.getElem?_range hlt];rfl))
   have Hp:=zh hp;have LN:=ah dL Hs.out;have LO:=ah dR Hs.out;have LP:=ah dU Hs.out;obtain⟨y,hy⟩:∃y,y=f_ n k:=⟨_,rfl⟩
   have Hy:=zh hy;clear hp hy;go_upto_region 6 with(fail);refine cH (w0:=wr) 12 [false,false,false,false,false,false,false,true,false,true,true,true] (by kernel_rfl) (by kernel_rfl) (ad _) ?_;simp only[eE,ea,zT]
   iterate 8 (apply aR rfl;(intro W hW;go_simp;with_reducible rfl);simp only[zA])
   intro W hW;refine Or.inl ⟨rfl,?_⟩
   go_simp
   (with_reducible refine(i9 _ _ _ n p W (H.out.keep (Hs.out.after hW).below) Hn.out qH).mono ?_)
   rintro e W' ⟨u3,rfl,eH,bN⟩;refine⟨_,rfl,hW.trans bN,?_⟩
   replace hW:=hW.trans bN
   obtain⟨gd,cd,d,rfl,hd,Nb,iY⟩:=DJ Hn.out qH hlt eH
   have UI:Int.tmod d 2=y:=by rw[Hy.out];exact IV Hn.out hlt (by rw[<- Hp.out];exact hd)
   have KF:0<=d:=by have h9:=(xm Hn.out hlt).1;rw[<- Hp.out,au hd]at h9;exact h9
   have YH:d%2=y:=by rw[<- UI];exact(Int.tmod_eq_emod_of_nonneg KF).symm
   clear eH bN hd KF iY
   (try simp only[zA])
   refine dG (v:=?_) rfl ?_ hW ?_;rotate_left;(go_simp;with_reducible rfl)
   simp only[zA]
   refine dG (v:=?_) rfl ?_ hW ?_;rotate_left;(go_simp;with_reducible rfl)
   simp only[zA]
   refine dG (v:=?_) rfl ?_ hW ?_;rotate_left;(go_simp;with_reducible rfl)
   simp only[zA];simp only[bz];have HW:=zh hW;have LY:=zh (Ho.out.since hW);have HcW:=zh (Hc.out.since hW)
   obtain⟨z,hz⟩:=aM (n9 n k) k (by rw[KA];exact hlt)
   have cz:=LY.out.cell hz;have fz:=LY.out.free k;clear hW c1 LN LO LP Nb hz;go_wp2;go_roundw
   case rel=>exact⟨k+1,by omega,by first | rfl | go_num,by rw[<- KC hlt,<- Hy.out];exact LY.out.set (k:=k) y,pU HcW.out (by simp[Value.ownBlock];exact fun e=>DK.out e.symm) _,Below.setCell (Hs.out.after HW.out) CJ.out _⟩
   case measure=>simp[intOf];omega
  ·obtain rfl:k=n.ends.length:=by omega
   have HT:Hid (Own wr w0.heap.size (.slice (some ⟨g,0,none⟩) n.ends.length n.ends.length) (ml n)):=by rw[<- KB];exact Ho.out
   clear hk hlt Ho Hc;go_wp2
   go_loopw [37] (fun i wq=>∃j:Nat,j<=n.ends.length/\i=.int .i64 j/\NG n j/\aa wr wq) (fun i _=>n.ends.length-(intOf i).toNat)
   case atStart=>exact⟨0,Nat.zero_le _,rfl,fun v hv=>by omega,ad _⟩
   case round=>
    obtain⟨j,hj,rfl,vG,po⟩:=hrel;have YI:=zh vG;have jJ:=zh po;clear vG po
    by_cases mH:j<n.ends.length
    ·obtain⟨es,bW⟩:=aM n.ends j mH;have dB:=bX Hn.out bW;have vj:=dB.1;have Mw:=zh dB.2;have sC:=zh (Hs.out.after jJ.out);have KG:=sC.out;have kw:=zh bW
     have CE:Hid (eh n (j:Int)=es.map fun e=>e.1):=by show _=_;unfold eh;rw[Int.toNat_natCast,au bW]
     clear bW dB;go_wp2_with fail;refine(iZ _ _ _ n j es wr (H.out.keep sC.out.below) kw.out (by omega)).mono ?_;rintro e w5 ⟨u5,rfl,yK,kT⟩
     obtain⟨A5,c5,rfl⟩:∃A c,u5=.slice A es.length c:=by
      rcases yK.cases with⟨rfl,e1⟩ | ⟨gd,cd,rfl,iH,lh⟩
      ·have:=congrArg List.length e1;rw[List.length_map]at this;exact⟨none,0,by rw[this];rfl⟩
      ·exact⟨_,cd,by rw[List.length_map]⟩
     have FR:=zh yK;have nl:=zh (jJ.out.after kT);clear yK kT KG;go_wp2
     go_loopw [44] (fun i wx=>∃t:Nat,t<=es.length/\i=.int .i64 t/\((es.take t).map fun e=>e.1).any (lk n j)=false/\aa w5 wx) (fun i _=>es.length-(intOf i).toNat)
     case atStart=>exact⟨0,Nat.zero_le _,rfl,rfl,ad _⟩
     case round=>
      obtain⟨t,ht,rfl,hnt,jd⟩:=hrel;have Hnt:=zh hnt;have mn:=zh jd;clear hnt jd
      by_cases jG:t<es.length
      ·obtain⟨x,hx⟩:=aM es t jG;have sk:=Mw.out x (List.mem_of_getElem? hx);obtain⟨k,hk⟩:=Int.eq_ofNat_of_zero_le sk.1;have mh:k<n.ends.length:=by omega
       have Hx:=zh hx
       have hb:(es.map fun e=>e.1)[t]?=some (k:Int):=by rw[List.getElem?_map,hx,<- hk];rfl
       obtain⟨gz,cz,dV,d8,xy⟩:=ma FR.out hb;rw[List.length_map]at dV;simp only[Value.slice.injEq,true_and]at dV;obtain⟨rfl,rfl⟩:=dV;have r0:=ae (bc mn.out d8);have YJ:=zh (HT.out.since (nl.out.after mn.out));obtain⟨a1,DL⟩:∃a,f_ n j=a:=⟨_,rfl⟩
       obtain⟨a2,SY⟩:∃a,f_ n k=a:=⟨_,rfl⟩
       have t1:=ae (YJ.out.cell (pi mH));have t2:=ae (YJ.out.cell (pi mh))
       have Q5:Hid (lk n j x.1=(a1==a2)):=by show _=_;unfold lk;rw[hk,DL];show(a1==(ml n).getD ((k:Int)).toNat 0)=_;rw[Int.toNat_natCast,fP mh,SY]
       rw[DL]at t1;rw[SY]at t2;have m2:IntKind.i64.wrap ((t:Int)+1)=(t:Int)+1:=aF _ (by omega) (by omega);have r1:=r0 wr (ad _);have Hk:=zh hk;clear hx sk hk hb d8 DL SY;go_upto_region 14 with(fail);refine ar 9 (aa wr) (by kernel_rfl) (by kernel_rfl) (by simp) (aj (ad _)) ?_;simp only[zT]
       iterate 9 (refine bU rfl ?_;simp only[zA])
       intro W hW;have HW:=zh (mn.out.after hW);clear hW t1 t2 r0 r1;cases hg:(a1==a2)
       ·have q9:Hid (((es.take (t+1)).map fun e=>e.1).any (lk n j)=false):=by
         show _=_
         rw[bh Hx.out,List.map_append,List.any_append,Hnt.out];simp only[List.map_cons,List.map_nil,List.any_cons,List.any_nil,Q5.out,hg,Bool.or_false]
        go_wp2;go_roundw
        case rel=>exact⟨t+1,by omega,by first | rfl | go_num,q9.out,HW.out⟩
        case measure=>simp[intOf];omega
       ·have YK:=KE Hn.out mH (x:=x.1) (by rw[CE.out];exact List.mem_map_of_mem (List.mem_of_getElem? Hx.out)) (by rw[Q5.out];exact hg)
        rw[iF.out]at YK;subst YK;go_wp2
        go_ret2
        exact⟨.slice none 0 0,rfl,by simpa using bH _ _,aa.after aT.out (Hs.out.after (nl.out.after HW.out))⟩
      ·obtain rfl:t=es.length:=by omega
       have m2:IntKind.i64.wrap ((j:Int)+1)=(j:Int)+1:=aF _ (by omega) (by omega)
       have q9:Hid (NG n (j+1)):=fun v hv=>by
        rcases Nat.lt_or_ge v j with h1 | h1
        ·exact YI.out v h1
        ·rw[show v=j by omega,CE.out]
         have:=Hnt.out
         rwa [List.take_length]at this
       go_wp2;go_roundw
       case rel=>exact⟨j+1,by omega,by first | rfl | go_num,q9.out,nl.out.after mn.out⟩
       case measure=>simp[intOf];omega
    ·obtain rfl:j=n.ends.length:=by omega
     have NH:=KD Hn.out YI.out;rw[iF.out]at NH;subst NH;go_wp2
     go_ret2
     refine⟨.slice (some ⟨g,0,none⟩) n.ends.length n.ends.length,rfl,?_,aa.after aT.out (Hs.out.after jJ.out)⟩;exact(HT.out.since jJ.out).mono aT.out.size
def sD (n:ak) (v k:Nat):Bool:=(List.range k).any fun i=>decide (gj n v i=((v:Int),(i:Int)))
def BW (n:ak) (k:Nat):Bool:=(List.range k).any fun v=>sD n v (n.ends.getD v []).length
theorem I6 {k v:Nat} {f:Nat->Bool} (hv:v<k) (h:f v=true):(List.range k).any f=true:=List.any_eq_true.2 ⟨v,List.mem_range.2 hv,h⟩
theorem Gs (ve vi vn:Value) (n:ak) (w:World) (h:aQ w ve vi vn n) (hn:al n=true):
  Calls Tryz.prog 212 #[.agg #[ve,vi,vn]] w fun e w'=>e=.returned (.bool (uI n))/\Below w.heap.size w w':=by
 have eS:=aE hn;have rg:=eS.1;have rh:=eS.2;have Hn:=zh hn
 obtain⟨w0,A,c,A2,c2,A3,c3,rfl,rfl,rfl,eV,hm,fJ,fB,HA,bK,aT,H,dL,dR,dU⟩:=zB h;clear h
 have bB:aa w0 w0:=ad _;obtain⟨rb,gY⟩:∃rb,uI n=rb:=⟨_,rfl⟩
 have iF:Hid (BW n n.ends.length=rb):=gY;rw[gY];clear hn eS gY
 go_enter Tryz.func212,Tryz.ntmps212
 go_upto_region 1 with(fail);rw[<- bK.out];go_wp2
 go_loopw [9] (fun i wr=>∃k:Nat,k<=n.ends.length/\i=.int .i64 k/\BW n k=false/\aa w0 wr) (fun i _=>n.ends.length-(intOf i).toNat)
 case atStart=>exact⟨0,Nat.zero_le _,rfl,rfl,bB⟩
 case round=>
  obtain⟨k,hk,rfl,iA,bA⟩:=hrel;have q9:=zh iA;have Hs:=zh bA;clear bB iA
  by_cases hlt:k<n.ends.length
  ·obtain⟨es,bW⟩:=aM n.ends k hlt;have dB:=bX Hn.out bW;have vj:=dB.1;have iY:n.ends.getD k []=es:=au bW;obtain⟨b,y4,cr,ur,g_,Bk,dS,yH⟩:=gy H.out.es bW;cases g_;obtain⟨A1,z1,rfl,dV,d8,g_⟩:=yH;unfold maxLen at d8;have r9:=zh g_;have r1:=ah (ae dS) Hs.out;have q5:=r1 wr (ad _);have iL:=zh iY;have m4:IntKind.i64.wrap ((k:Int)+1)=(k:Int)+1:=aF _ (by omega) (by omega);clear bW dB dS g_ iY;go_wp2
   go_loopw [18] (fun i wq=>∃j:Nat,j<=es.length/\i=.int .i64 j/\sD n k j=false/\aa w0 wq) (fun i _=>es.length-(intOf i).toNat)
   case atStart=>exact⟨0,Nat.zero_le _,rfl,rfl,Hs.out⟩
   case round=>
    obtain⟨j,hj,rfl,YL,po⟩:=hrel;have YM:=zh YL;have jJ:=zh po;clear YL
    by_cases mH:j<es.length
    ·obtain⟨⟨x1,x2⟩,hx⟩:=aM es j mH;obtain⟨b1,oZ,rfl,j6,iq⟩:=r9.out j _ hx;have t1:=ae j6 wr jJ.out;have t2:=ae iq wr jJ.out
     have I7:gj n k j=(x1,x2):=by unfold gj;rw[iL.out];exact au hx
     have m3:IntKind.i64.wrap ((j:Int)+1)=(j:Int)+1:=aF _ (by omega) (by omega);obtain⟨w8,kH⟩:∃w8,w8=wr.alloc (.cells #[.int .i64 x1,.int .i64 x2] 83):=⟨_,rfl⟩
     have mc:aa w0 w8:=by rw[kH];exact ag _ jJ.out
     have Kc:=zh kH
     have d0:∀W,aa w8 W->W.cell? ⟨wr.heap.size,0,none⟩=some (.int .i64 x1):=ae (by rw[kH];simp)
     have d1:∀W,aa w8 W->W.cell? ⟨wr.heap.size,1,none⟩=some (.int .i64 x2):=ae (by rw[kH];simp)
     have d00:=d0 w8 (ad _);have I8:=d1 w8 (ad _);have kt:=zh mc;have YN:=zh I7;clear hx j6 iq kH I7 d0 d1;go_upto_region 7 with(fail);rw[<- Kc.out];clear t1 t2;cases hg:yB (x1,x2) ((k:Int),(j:Int))
     ·have YO:Hid (sD n k (j+1)=false):=by
       show _=_
       unfold sD;rw[List.range_succ,List.any_append,show(List.range j).any (fun i=>decide (gj n k i=((k:Int),(i:Int))))=false from YM.out]
       simp only[List.any_cons,List.any_nil,Bool.or_false,Bool.false_or,YN.out];exact hg
      go_wp2;go_roundw
      case rel=>exact⟨j+1,by omega,by first | rfl | go_num,YO.out,kt.out⟩
      case measure=>simp[intOf];omega
     ·have hb:rb=true:=by
       rw[<- iF.out]
       refine I6 hlt (I6 (v:=j) (by rw[iL.out];exact mH) ?_)
       rw[YN.out];exact hg
      subst hb;go_wp2;go_ret;exact⟨rfl,aa.after aT.out kt.out⟩
    ·obtain rfl:j=es.length:=by omega
     have Hn3:Hid (BW n (k+1)=false):=by
      show _=_
      unfold BW;rw[List.range_succ,List.any_append,show(List.range k).any (fun v=>sD n v (n.ends.getD v []).length)=false from q9.out]
      simp only[List.any_cons,List.any_nil,Bool.or_false,Bool.false_or];rw[iL.out];exact YM.out
     go_wp2;go_roundw
     case rel=>exact⟨k+1,by omega,by first | rfl | go_num,Hn3.out,jJ.out⟩
     case measure=>simp[intOf];omega
  ·obtain rfl:k=n.ends.length:=by omega
   have hb:rb=false:=by rw[<- iF.out];exact q9.out
   subst hb;go_wp2;go_ret;exact⟨rfl,aa.after aT.out Hs.out⟩
def fa (xs:List Int) (x:Int) (k:Nat):List Int:=((List.range k).filter fun i=>decide (xs.getD i 0=x)).map Int.ofNat
theorem ze (xs:List Int) (x:Int) (k:Nat):fa xs x (k+1)=fa xs x k++(if xs.getD k 0=x then [(k:Int)] else []):=by
 unfold fa;rw[List.range_succ,List.filter_append,List.map_append];congr 1
 by_cases h:xs.getD k 0=x
 ·rw[if_pos h,List.filter_cons_of_pos (by simpa using h)];rfl
 ·rw[if_neg h,List.filter_cons_of_neg (by simpa using h)];rfl
theorem sE (xs:List Int) (x:Int) (k:Nat):(fa xs x k).length<=k:=by
 unfold fa;rw[List.length_map];exact Nat.le_trans (List.length_filter_le _ _) (by simp)
theorem uJ (v:Value) (xs:List Int) (x:Int) (w:World) (h:aY w v xs) (hl:xs.length<=1000000):
  Calls Tryz.prog 171 #[v,.int .i64 x] w fun e w'=>∃u,e=.returned u/\Own w' w.heap.size u (fa xs x xs.length)/\Below w.heap.size w w':=by
 have HX:=zh h;obtain⟨A,c,rfl,eV,hm,hA⟩:=h;unfold maxLen at hm;have HA:=zh hA;clear hA
 go_enter Tryz.func171,Tryz.ntmps171
 go_wp2
 go_loopw [5,10] (fun u i wr=>∃k:Nat,k<=xs.length/\i=.int .i64 k/\Own wr w.heap.size u (fa xs x k)/\aa w wr) (fun _ i _=>xs.length-(intOf i).toNat)
 case atStart=>exact⟨0,Nat.zero_le _,rfl,bH _ _,ad _⟩
 case round=>
  obtain⟨k,hk,rfl,ho,bA⟩:=hrel;have Ho:=zh ho;have Hs:=zh bA;clear ho bA
  by_cases hlt:k<xs.length
  ·obtain⟨y,hy⟩:=aM xs k hlt;obtain⟨b,off,rfl,hc⟩:=HA.out k y hy;have d0:=Hs.out.cell hc;have m3:IntKind.i64.wrap ((k:Int)+1)=(k:Int)+1:=aF _ (by omega) (by omega);have kz:=ze xs x k;rw[au hy]at kz
   have cJ:Hid ((fa xs x k).length+1<=17592186044416):=by show _<=_;have:=sE xs x k;omega
   clear hy hc
   by_cases he:y=x
   ·subst he;rw[if_pos rfl]at kz;have jm:=zh kz;clear kz
    go_wp2_with (at_builtin;refine dy rfl _ _ rfl rfl (Ho.out.since (ag _ (ad _))) wr.heap.size k rfl (by simp[go_sem]) cJ.out (ag _ Hs.out) ?_;intro g cc w3 eH hZ)
    have i8:=zh eH;have ew:=zh hZ;clear eH hZ;go_wp2;go_roundw
    case rel=>exact⟨k+1,by omega,by first | rfl | go_num,by rw[jm.out];have:=i8.out;simpa using this,ew.out⟩
    case measure=>simp[intOf];omega
   ·have lW:(y==x)=false:=by simpa using he
    rw[if_neg he,List.append_nil]at kz;have jm:=zh kz;clear kz he;go_wp2;go_roundw
    case rel=>exact⟨k+1,by omega,by first | rfl | go_num,by rw[jm.out];exact Ho.out,Hs.out⟩
    case measure=>simp[intOf];omega
  ·obtain rfl:k=xs.length:=by omega
   clear hk hlt;go_wp2;go_ret;exact⟨_,rfl,Ho.out,Hs.out⟩
theorem tG {n:ak} (h:al n=true):n.aea.length=n.ends.length/\∀x∈n.aea,0<=x/\x<=9:=by
 unfold al js at h
 simp only[Bool.and_eq_true,List.all_eq_true,beq_iff_eq]at h;exact⟨by omega,fun x hx=>ap.1 (h.1.2.2 x hx)⟩
def Gt (n:ak) (k:Nat):Prop:=∀v,v<k->jy n v=true
theorem xz {n:ak} (h:Gt n n.ends.length):eL n=true:=by
 unfold eL;rw[List.all_eq_true];exact fun v hv=>h v (List.mem_range.1 hv)
theorem xA (ve vi vn:Value) (n:ak) (w:World) (h:aQ w ve vi vn n) (hn:al n=true):
  Calls Tryz.prog 165 #[.agg #[ve,vi,vn]] w fun e w'=>∃u,e=.returned (.tuple #[u,.bool (eL n)])/\Own w' w.heap.size u (if eL n=true then pk n n.ends.length else [])/\Below w.heap.size w w':=by
 have eS:=aE hn;have rg:=eS.1;have rh:=eS.2;have eU:=tG hn;have si:=zh eU.1;have Hn:=zh hn
 obtain⟨w0,A,c,A2,c2,A3,c3,rfl,rfl,rfl,eV,hm,fJ,fB,HA,bK,aT,H,dL,dR,dU⟩:=zB h;clear h
 have bB:aa w0 w0:=ad _;obtain⟨rb,gY⟩:∃rb,eL n=rb:=⟨_,rfl⟩
 have iF:=zh gY;rw[gY];clear hn eS gY eU
 go_enter Tryz.func165,Tryz.ntmps165
 go_upto_region 1 with(fail);rw[<- bK.out];go_wp2_with fail;refine(jh _ _ _ n w0 H.out Hn.out).mono ?_;rintro e w2 ⟨u2,rfl,dl,bj⟩
 obtain⟨gc,cc,rfl⟩:∃gc cc,u2=.slice (some ⟨gc,0,none⟩) n.ends.length cc:=by
  obtain⟨x,hx⟩:=aM (bn n) 0 (by simp[bn];omega)
  obtain⟨g,c,h1,-⟩:=ma dl hx
  exact⟨g,c,by rw[h1];simp[bn]⟩
 have eX:=zh dl;have b_:Hid (aa w0 w2):=bj;clear dl bj bB;go_wp2
 go_loopw [5,15] (fun u i wr=>∃k:Nat,k<=n.ends.length/\i=.int .i64 k/\Own wr w2.heap.size u (pk n k)/\Gt n k/\aa w2 wr) (fun _ i _=>n.ends.length-(intOf i).toNat)
 case atStart=>exact⟨0,Nat.zero_le _,rfl,bH _ _,fun v hv=>by omega,ad _⟩
 case round=>
  obtain⟨k,hk,rfl,ho,Q6,bA⟩:=hrel;have Ho:=zh ho;have SZ:=zh Q6;have Hs:=zh bA;clear ho Q6 bA
  by_cases hlt:k<n.ends.length
  ·have m3:IntKind.i64.wrap ((k:Int)+1)=(k:Int)+1:=aF _ (by omega) (by omega);obtain⟨p,hp⟩:∃p,ai n k=p:=⟨_,rfl⟩
   have c1:=ae ((eX.out.since Hs.out).cell (show(bn n)[k]?=some (p:Int)by rw[<- hp];unfold bn;rw[List.getElem?_map,List.getElem?_range hlt];rfl))
   have kB:=c1 wr (ad _);have Hp:=zh hp
   have cJ:Hid ((pk n k).length+1<=17592186044416):=by show _<=_;rw[Ag];omega
   have jm:=zh (Gl n k);clear hp;go_wp2
   go_loopw [8,21] (fun o i wq=>∃j:Nat,j<=n.ends.length/\i=.int .i64 j/\o=.int .i64 (jN n p j)/\(cS n p j).length<=1/\aa wr wq) (fun _ i _=>n.ends.length-(intOf i).toNat)
   case atStart=>exact⟨0,Nat.zero_le _,rfl,rfl,by simp[cS],ad _⟩
   case round=>
    obtain⟨j,hj,rfl,rfl,YP,po⟩:=hrel;have YQ:=zh YP;have jJ:=zh po;clear YP po;have vJ:=DG n p j
    by_cases mH:j<n.ends.length
    ·have m2:IntKind.i64.wrap ((j:Int)+1)=(j:Int)+1:=aF _ (by omega) (by omega);obtain⟨q,hq⟩:∃q,ai n j=q:=⟨_,rfl⟩
     have NI:=zh (Hs.out.after jJ.out)
     have e1:=ae ((eX.out.since NI.out).cell (show(bn n)[j]?=some (q:Int)by rw[<- hq];unfold bn;rw[List.getElem?_map,List.getElem?_range mH];rfl))
     have Gu:=e1 wr (ad _);have sC:=zh (b_.out.after NI.out)
     obtain⟨x,hx⟩:=aM n.aea j (by rw[si.out];omega)
     obtain⟨A9,c9,e9,-,-,BX⟩:=H.out.ns;cases e9;obtain⟨b9,abY,e8,WT⟩:=BX j x hx;subst e8;have i1:=ae (bc sC.out WT)
     have oo:j<n.aea.length:=by rw[si.out];exact mH
     have q2:=ah dU sC.out
     have gM:jM n p j=(decide (q=p)&&decide (x=1)):=by unfold jM;rw[hq,au hx]
     have Hq:=zh hq;have DK:=zh gM;obtain⟨ow,UJ⟩:∃ow,jN n p j=ow:=⟨_,rfl⟩
     have YR:=zh UJ;rw[UJ]at vJ ⊢;clear hq hx BX WT gM UJ;go_upto_region 10 with(fail);refine aS 11 (aa wr) (ad _) ?_;simp only[zT]
     iterate 4 (refine bU rfl ?_;simp only[zA])
     iterate 6 (refine im rfl rfl ?_;simp only[zA])
     (first | refine dO rfl rfl ?_ | (refine bU rfl ?_));simp only[zA]
     intro W hW;have HW:=zh (jJ.out.after hW);clear hW c1 e1 i1 q2 kB Gu
     cases hg:((q:Int) != (p:Int)||x != 1)
     ·have Gv:jM n p j=true:=by
       rw[DK.out];simp only[Bool.or_eq_false_iff,bne_eq_false_iff_eq]at hg
       rw[decide_eq_true (by omega),decide_eq_true hg.2];rfl
      by_cases h0:0<=ow
      ·have nk:(0<=ow)=True:=by simp[h0]
       have iA:=rp hlt (by rw[Hp.out];exact Kw Gv (by rw[YR.out];omega) mH)
       rw[iF.out]at iA;subst iA;clear Gv;go_wp2
       go_ret2
       exact⟨.slice none 0 0,rfl,by simpa using bH _ _,aa.after aT.out (b_.out.after (Hs.out.after HW.out))⟩
      ·have nk:(0<=ow)=False:=by simp[h0]
       have h02:ow<0:=by omega
       obtain⟨f1,f2⟩:=DH Gv (by rw[YR.out];omega)
       have F1:=zh f1;have F2:=zh f2;clear Gv f1 f2 h0;go_wp2;go_roundw
       case rel=>exact⟨j+1,by omega,by first | rfl | go_num,by rw[F2.out],by rw[F1.out];exact Nat.le_refl _,HW.out⟩
       case measure=>simp[intOf];omega
     ·have Gv:jM n p j=false:=by
       rw[DK.out,Bool.eq_false_iff];intro hc;simp only[Bool.and_eq_true,decide_eq_true_eq]at hc;simp only[Bool.or_eq_true,bne_iff_ne,ne_eq]at hg;omega
      obtain⟨f1,f2⟩:=ro Gv;have F1:=zh f1;have F2:=zh f2;clear Gv f1 f2;go_wp2;go_roundw
      case rel=>exact⟨j+1,by omega,by first | rfl | go_num,by rw[F2.out,YR.out],by rw[F1.out];exact YQ.out,HW.out⟩
      case measure=>simp[intOf];omega
    ·obtain rfl:j=n.ends.length:=by omega
     have NI:=zh (Hs.out.after jJ.out);obtain⟨ow,UJ⟩:∃ow,jN n p n.ends.length=ow:=⟨_,rfl⟩
     have UK:=zh (tE n p n.ends.length);rw[UJ]at vJ UK ⊢
     have YR:Hid (gE n k=ow):=by show _=_;unfold gE;rw[Hp.out];exact UJ
     clear UJ hj mH
     by_cases h0:ow<0
     ·have nk:(ow<0)=True:=by simp[h0]
      have iA:=rp hlt (by rw[Hp.out];unfold jT;rw[UK.out.1 h0];omega)
      rw[iF.out]at iA;subst iA;go_wp2
      go_ret2
      exact⟨.slice none 0 0,rfl,by simpa using bH _ _,aa.after aT.out (b_.out.after NI.out)⟩
     ·have nk:(ow<0)=False:=by simp[h0]
      have h02:0<=ow:=by omega
      have tH:Hid (Gt n (k+1)):=fun v hv=>by
       rcases Nat.lt_or_ge v k with h1 | h1
       ·exact SZ.out v h1
       ·rw[show v=k by omega]
        unfold jy jT
        rw[Hp.out,beq_iff_eq];have h5:=YQ.out;have h6:(cS n p n.ends.length).length≠0:=fun e=>h0 (UK.out.2 e)
        omega
      have Hox:=zh (Ho.out.since jJ.out);clear h0
      go_wp2_with (at_builtin;refine dy rfl _ _ rfl rfl (Hox.out.since (ag _ (ad _))) wr.heap.size ow rfl (by simp[go_sem]) cJ.out (ag _ NI.out) ?_;intro g cx w4 oH nj)
      have ut:=zh oH;have mG:=zh nj;clear oH nj;go_wp2;go_roundw
      case rel=>exact⟨k+1,by omega,by first | rfl | go_num,by rw[jm.out,YR.out];have:=ut.out;simpa using this,tH.out,mG.out⟩
      case measure=>simp[intOf];omega
  ·obtain rfl:k=n.ends.length:=by omega
   have NH:=xz SZ.out;rw[iF.out]at NH;subst NH;go_wp2
   go_ret2
   exact⟨_,rfl,Ho.out.mono (Nat.le_trans aT.out.size b_.out.below.size),aa.after aT.out (b_.out.after Hs.out)⟩
def QA (W:World) (base g off cap:Nat) (xs:List Int):Prop:=
 base<=g/\xs.length<=cap/\cap<=maxLen/\∃cur:Array Value,W.heap[g]?=some (.cells cur 3 (0,0))/\off+cap<=cur.size/\∀j x,xs[j]?=some x->cur[off+j]?=some (.int .i64 x)
theorem QA.cell {W:World} {base g off cap:Nat} {xs:List Int} (h:QA W base g off cap xs) {j:Nat} {x:Int} (hx:xs[j]?=some x):W.cell? ⟨g,off+j,none⟩=some (.int .i64 x):=by
 obtain⟨-,-,-,cur,h1,-,h3⟩:=h;simp[World.cell?,h1,h3 j x hx]
theorem QA.lt {W:World} {base g off cap:Nat} {xs:List Int} (h:QA W base g off cap xs):g<W.heap.size:=by
 obtain⟨-,-,-,cur,h1,-⟩:=h;exact(Array.getElem?_eq_some_iff.1 h1).1
theorem QA.aeb {W W':World} {base g off cap:Nat} {xs:List Int} (h:QA W base g off cap xs) (hs:W'.heap[g]?=W.heap[g]?):QA W' base g off cap xs:=by
 obtain⟨h1,h2,h3,cur,h4,h5⟩:=h;exact⟨h1,h2,h3,cur,hs.trans h4,h5⟩
theorem QA.since {W W':World} {base g off cap:Nat} {xs:List Int} (h:QA W base g off cap xs) (hs:aa W W'):QA W' base g off cap xs:=h.aeb (hs.below.block g h.lt)
theorem QA.other {W:World} {base g off cap:Nat} {xs:List Int} (h:QA W base g off cap xs) {b:Nat} (hb:g≠b) (k:Nat) (v:Value):QA (W.setCell ⟨b,k,none⟩ v) base g off cap xs:=h.aeb (Below.heap_setCell W _ v g hb)
theorem QA.tail {W:World} {base g off cap:Nat} {x:Int} {xs:List Int} (h:QA W base g off cap (x::xs)):QA W base g (off+1) (cap-1) xs:=by
 obtain⟨h1,h2,h3,cur,h4,h5,h6⟩:=h;rw[List.length_cons]at h2
 exact⟨h1,by omega,by omega,cur,h4,by omega,fun j y hy=>by
  have:=h6 (j+1) y (by simpa using hy)
  rwa [show off+(j+1)=off+1+j by omega]at this⟩
theorem QA.nil {W:World} {base g off cap:Nat} {xs:List Int} (h:QA W base g off cap xs):QA W base g off 0 []:=by
 obtain⟨h1,h2,h3,cur,h4,h5,h6⟩:=h;exact⟨h1,Nat.le_refl _,Nat.zero_le _,cur,h4,by omega,fun j y hy=>by simp at hy⟩
theorem QA.one (W:World) (base:Nat) (x:Int) (h:base<=W.heap.size):QA (W.alloc (.cells #[.int .i64 x] 3)) base W.heap.size 0 1 [x]:=by
 refine⟨h,Nat.le_refl _,by simp[maxLen],#[.int .i64 x],?_,by simp,fun j y hy=>?_⟩
 ·show(W.heap.push _)[W.heap.size]?=_
  rw[Array.getElem?_push_size]
 ·have:=an hy
  simp at this
  subst this;simpa using hy
theorem YS {w w0:World} {ops:Array Oper} {rest:List Oper} {o:Oper} {a:Act} {Q:Exit->Act->World->Prop} (iY:o.guard=none) (s x:Operand)
  (ho:o.op=.call { callee:=.builtin .append,args:=#[s,x],argTypes:=#[25,25] }) {g off cap:Nat} {xs:List Int} (hs:a.eval s=.slice (some ⟨g,off,none⟩) xs.length cap) (h:QA w w0.heap.size g off cap xs) (b:Nat) (y:Int)
  (hx:a.eval x=.slice (some ⟨b,0,none⟩) 1 1) (hc:w.cell? ⟨b,0,none⟩=some (.int .i64 y)) (hl:xs.length+1<=1000000) (yD:aa w0 w)
  (k:∀g' oY yP w',QA w' w0.heap.size g' oY yP (xs++[y])->bg [g] w w'->(g'=g\/w.heap.size<=g')->aa w0 w'->wpList Tryz.prog ops Q rest (a.put o.dst (.slice (some ⟨g',oY,none⟩) (xs.length+1) yP)) w'):wpList Tryz.prog ops Q (o::rest) a w:=by
 obtain⟨i0,hi,il,dV,d8⟩:=info_parts kZ;have hq:=h;obtain⟨h1,h2,h3,cur,h4,h5,h6⟩:=h
 refine wpList_append_arg w iY s x 25 ho 3 i0 (.int .i64 0) 1 8 Tryz.underlying25 hi il dV d8 rfl (by decide) g off xs.length cap (xs.map (Value.int .i64)) hs (by simp)
  (fun j u hj=>by
   rw[List.getElem?_map]at hj
   cases hxj:xs[j]? with
   | none=>rw[hxj]at hj;cases hj
   | some z=>rw[hxj]at hj;cases hj;exact hq.cell hxj)
  ⟨b,0,none⟩ 1 1 [.int .i64 y] hx rfl
  (fun j u hj=>by
   have:=an hj
   simp at this
   subst this;simp at hj
   subst hj;rw[Go.Addr.add_lit]
   exact hc)
  (by simp[Value.oneCell'])
  (fun hr j hj=>by
   simp at hj
   subst hj;have hlt:off+xs.length*1+0<cur.size:=by omega
   constructor
   ·simp[World.cell?,h4]
    omega
   ·simp[World.frozen?,h4])
  (by unfold maxLen;omega) (by omega) ?_ ?_
 ·intro hr;have hlt:off+xs.length<cur.size:=by omega
  have e:w.setCells g (off+xs.length*1) [.int .i64 y]=w.setCell ⟨g,off+xs.length,none⟩ (.int .i64 y):=by rw[Nat.mul_one];rfl
  rw[e]
  refine k g off cap _ ⟨h1,by simp;omega,h3,cur.setIfInBounds (off+xs.length) (.int .i64 y),?_,by simpa using h5,fun j z hj=>?_⟩ ((bg.refl _ _).setCell (.inl (by simp)) _) (.inl rfl) (Below.setCell yD h1 _)
  ·simp[World.setCell,Array.getElem?_modify,h4]
  ·by_cases e2:j=xs.length
   ·subst e2;simp at hj
    subst hj;simp[hlt]
   ·have yQ:xs[j]?=some z:=by
     have yF:=an hj;rw[List.length_append,List.length_singleton]at yF
     rwa [List.getElem?_append_left (by omega)]at hj
    rw[Array.getElem?_setIfInBounds_ne (by omega)];exact h6 j z yQ
 ·intro hr v' w' aP sa;rcases aP.2 with⟨rfl,hn⟩ | ⟨g',yP,XT,rfl,hb',hg',SJ,MN,adK,LW⟩
  ·omega
  ·refine k g' 0 yP w' ⟨by have:=yD.below.size;omega,by simpa using SJ,MN,XT,hg',by omega,fun j z hj=>?_⟩ ((bg.aee sa).mono (fun _ h=>by simp at h)) (.inr hb') (Below.trans yD ((bg.aee sa).below _ yD.below.size (fun _ h=>by simp at h)))
   have e3:(xs.map (Value.int .i64)++[.int .i64 y])[j]?=some (.int .i64 z):=by
    have:(xs.map (Value.int .i64)++[.int .i64 y])=(xs++[y]).map (Value.int .i64):=by simp
    rw[this,List.getElem?_map,hj];rfl
   rw[<- LW]at e3;have hj3:=an e3;rw[List.getElem?_take]at e3
   split at e3
   ·rw[Nat.zero_add];simpa using e3
   ·cases e3
theorem Own.aeR {W W':World} {base g:Nat} {u:Value} {xs:List Int} (h:Own W base u xs) (ho:bg [g] W W') (hd:u.ownBlock≠some g):Own W' base u xs:=
 aK h fun j hj=>ho.block j (World.ownsRow.lt h j (by simpa using hj)).2 (fun hs=>hd (by simp at hs;subst hs;simpa using hj))
theorem fq (ve vi vn:Value) (n:ak) (v:Nat) (w:World) (h:aQ w ve vi vn n) (hn:al n=true) (hv:v<n.ends.length):
  Calls Tryz.prog 123 #[.agg #[ve,vi,vn],.int .i64 v] w fun e w'=>∃u,e=.returned u/\Own w' w.heap.size u (bS n v)/\Below w.heap.size w w':=by
 have eS:=aE hn;have Hn:=zh hn
 obtain⟨w0,A,c,A2,c2,A3,c3,rfl,rfl,rfl,eV,hm,fJ,fB,HA,bK,aT,H,dL,dR,dU⟩:=zB h;clear h
 obtain⟨R,hR⟩:∃R,R=bS n v:=⟨_,rfl⟩
 have HR:=zh hR;rw[<- hR];clear hn hR
 go_enter Tryz.func123,Tryz.ntmps123
 go_upto_region 1 with(fail);rw[<- bK.out];go_wp2_with fail;refine(l_ w0.heap.size 1 (-1) n.ends.length _ eS.1 (by omega) (by simp)).mono ?_;rintro e w1 ⟨u1,rfl,dT,ay⟩;rcases dT.cases with⟨-,e1⟩ | ⟨g,c1,rfl,iH,lh⟩
 ·have:=congrArg List.length e1;rw[List.length_replicate,List.length_nil]at this;omega
 rw[List.length_replicate]at dT ⊢;have dC:Hid (aa w0 w1):=aa.after (ag _ (ad _)) ay
 have P_:Hid (w0.heap.size<=g):=by show _<=_;have:=iH;simp at this;omega
 have rP:Hid (Own w1 w0.heap.size (.slice (some ⟨g,0,none⟩) n.ends.length c1) (List.replicate n.ends.length (-1))):=dT.mono (by simp);have cz:=rP.out.cell (iQ (show v<(List.replicate n.ends.length (-1:Int)).length by simpa using hv))
 have fz:=rP.out.free v;obtain⟨w3,iR⟩:∃w3,w3=w1.setCell ⟨g,v,none⟩ (.int .i64 0):=⟨_,rfl⟩
 have e3:w3.heap.size=w1.heap.size:=by rw[iR];simp
 have i8:Hid (Own w3 w0.heap.size (.slice (some ⟨g,0,none⟩) n.ends.length c1) (bG n v).1):=by rw[iR];exact rP.out.set (k:=v) 0
 have ew:Hid (aa w0 w3):=by rw[iR];exact Below.setCell dC.out P_.out _
 obtain⟨g2,UL⟩:∃g2,g2=w1.heap.size:=⟨_,rfl⟩
 obtain⟨w4,iC⟩:∃w4,w4=w3.alloc (.cells #[.int .i64 v] 3):=⟨_,rfl⟩
 have ut:Hid (Own w4 w0.heap.size (.slice (some ⟨g,0,none⟩) n.ends.length c1) (bG n v).1):=by rw[iC];exact i8.out.since (ag _ (ad _))
 have Hq4:Hid (QA w4 w0.heap.size g2 0 1 ((bG n v).2.drop 0)):=by
  rw[iC,UL,<- e3];exact QA.one w3 _ v ew.out.below.size
 have mG:Hid (aa w0 w4):=by rw[iC];exact ag _ ew.out
 have zJ:g2≠g:=by have:=(World.ownsRow.lt i8.out g rfl).2;omega
 have xc:=zh iR;have J7:=zh iC;have Bq:=zh UL;clear iR iC UL e3 dT ay iH lh;go_upto_region 4 with(fail);rw[<- xc.out,<- Bq.out,<- J7.out];clear cz fz;go_wp2
 go_loopg [6] (n.ends.length+1) (fun f u wr=>∃(k:Nat) (st:List Int×List Int) (gu off cu:Nat),u=.slice (some ⟨gu,off,none⟩) (st.2.drop k).length cu/\gu≠g/\BI n.ends.length st/\sj n f st k=R/\n.ends.length+1<=f+k/\k<=st.2.length/\Own wr w0.heap.size (.slice (some ⟨g,0,none⟩) n.ends.length c1) st.1/\QA wr w0.heap.size gu off cu (st.2.drop k)/\aa w0 wr)
 case atStart=>exact⟨0,bG n v,g2,0,1,rfl,zJ,BI.start hv,HR.out.symm,by omega,Nat.zero_le _,ut.out,Hq4.out,mG.out⟩
 case round=>
  obtain⟨k,st,gu,off,cu,rfl,LQ,Do,zQ,hf,hk,ho,hq,hs⟩:=hrel;have SO:=zh Do;have yT:=zh zQ;have Ho:=zh ho;have Hq:=zh hq;have Hs:=zh hs;have s_:=Do.bd;clear Do zQ ho hq hs zJ
  by_cases hlt:k<st.2.length
  ·obtain⟨f,rfl⟩:∃f',gk=f'+1:=⟨gk-1,by omega⟩
   obtain⟨x,hx⟩:=aM st.2 k hlt;have Bt:=SO.out.walk x (List.mem_of_getElem? hx);obtain⟨c',rfl⟩:=Int.eq_ofNat_of_zero_le Bt.1;have hc:c'<n.ends.length:=by omega
   have IJ:st.2.drop k=(c':Int)::st.2.drop (k+1):=by
    rw[List.drop_eq_getElem_cons hlt];congr 1
    exact(List.getElem?_eq_some_iff.1 hx).2
   have yL:Hid (QA wr w0.heap.size gu off cu ((c':Int)::st.2.drop (k+1))):=by rw[<- IJ];exact Hq.out
   obtain⟨ql,DM⟩:∃ql,ql=(st.2.drop (k+1)).length:=⟨_,rfl⟩
   have e0:(st.2.drop k).length=ql+1:=by rw[IJ,DM];rfl
   rw[e0];have cx:=yL.out.cell (j:=0) rfl;rw[Nat.add_zero]at cx
   have fh:ql+1<=cu:=by have:=yL.out.2.1;rw[List.length_cons,<- DM]at this;exact this
   have Yc:Hid (st.2.getD k 0=(c':Int)):=by show _=_;rw[zDd,hx];rfl
   have Hx:=zh hx;have Hql:=zh DM
   obtain⟨of2,eo,UA⟩:∃of2:Nat,(if cu=1 then some (⟨gu,off,none⟩:Addr) else some ⟨gu,off+1,none⟩)=some ⟨gu,of2,none⟩/\QA wr w0.heap.size gu of2 (cu-1) (st.2.drop (k+1)):=by
    by_cases h1:cu=1
    ·refine⟨off,by rw[if_pos h1],?_⟩
     have hz:st.2.drop (k+1)=[]:=List.eq_nil_of_length_eq_zero (by omega);rw[hz,h1];exact yL.out.nil
    ·exact⟨off+1,by rw[if_neg h1],yL.out.tail⟩
   have Hq3:=zh UA;obtain⟨es,bW⟩:=aM n.ends c' hc;obtain⟨vj,S_⟩:=bX Hn.out bW;have kw:=zh bW;have YT:=zh S_;obtain⟨jH,tA⟩:∃s,s=eh n c':=⟨_,rfl⟩
   have qh:Hid (es.map (fun e=>e.1)=jH):=by show _=_;rw[tA,eh,Int.toNat_natCast,zDd,bW];rfl
   have MW:=zh tA;have SQ:Hid (∀j,∃ys,((jH.take j).foldl (ba c') st).2=st.2++ys):=fun j=>jQ _ _ _
   obtain⟨b,y4,cr,ur,g_,Bk,dS,dB⟩:=gy H.out.es bW;cases g_;obtain⟨A1,z1,rfl,dV,d8,g_⟩:=dB;unfold maxLen at d8;have r9:=zh g_;have r1:=ah (ae dS) Hs.out;have q0:=dL wr Hs.out;have q5:=r1 wr (ad _);clear hx IJ DM e0 Hq UA bW S_ tA dS g_;go_upto_region 7 with(fail)
   (try rw[eo])
   clear cx eo;clear fh;go_wp2
   go_loopw [6,34] (fun u i wr=>∃(j gv ov cv:Nat) (dP:List Int×List Int),j<=es.length/\i=.int .i64 j/\dP=(jH.take j).foldl (ba c') st/\u=.slice (some ⟨gv,ov,none⟩) (dP.2.drop (k+1)).length cv/\gv≠g/\BI n.ends.length dP/\Own wr w0.heap.size (.slice (some ⟨g,0,none⟩) n.ends.length c1) dP.1/\QA wr w0.heap.size gv ov cv (dP.2.drop (k+1))/\aa w0 wr) (fun _ i _=>es.length-(intOf i).toNat)
   case atStart=>exact⟨0,gu,of2,cu-1,st,Nat.zero_le _,rfl,rfl,by rw[Hql.out],LQ,SO.out,Ho.out,Hq3.out,Hs.out⟩
   case round=>
    obtain⟨j,gv,ov,cv,dP,hj,rfl,xe,rfl,mE,xf,lU,Tc,MZ⟩:=hrel;have pg:=zh xf;have Dp:=zh lU;have Hq':=zh Tc;have LU:=zh MZ;have qj:=zh xe;have Ye:=xf.bd;clear xe xf lU Tc MZ LQ
    by_cases mH:j<es.length
    ·obtain⟨⟨x1,x2⟩,hx⟩:=aM es j mH;obtain⟨b1,oZ,rfl,j6,iq⟩:=r9.out j _ hx;obtain⟨i1,i2⟩:=YT.out _ (List.mem_of_getElem? hx);simp only at i1 i2
     obtain⟨d,rfl⟩:=Int.eq_ofNat_of_zero_le i1;have hd:d<n.ends.length:=by omega
     have hy:jH[j]?=some (d:Int):=by rw[<- qh.out,List.getElem?_map,hx];rfl
     have rN:dP.1.length=n.ends.length:=pg.out.len;have t1:=ae j6 wr LU.out;have t2:=ae iq wr LU.out;obtain⟨w8,kH⟩:∃w8,w8=wr.alloc (.cells #[.int .i64 d,.int .i64 x2] 83):=⟨_,rfl⟩
     obtain⟨be,lW⟩:∃be,be=wr.heap.size:=⟨_,rfl⟩
     have uw:Hid (Own w8 w0.heap.size (.slice (some ⟨g,0,none⟩) n.ends.length c1) dP.1):=by rw[kH];exact Dp.out.since (ag _ (ad _))
     have Hq8:Hid (QA w8 w0.heap.size gv ov cv (dP.2.drop (k+1))):=by rw[kH];exact Hq'.out.since (ag _ (ad _))
     have kt:Hid (aa w0 w8):=by rw[kH];exact ag _ LU.out
     have d0:∀W,aa w8 W->W.cell? ⟨be,0,none⟩=some (.int .i64 d):=ae (by rw[kH,lW];simp)
     have dd:=ae (uw.out.cell (iQ (show d<dP.1.length by omega)))
     have dc:=ae (uw.out.cell (iQ (show c'<dP.1.length by omega)))
     obtain⟨z,hz⟩:∃z,z=dP.1.getD d 0:=⟨_,rfl⟩
     obtain⟨q,hq⟩:∃q,q=dP.1.getD c' 0:=⟨_,rfl⟩
     rw[<- hz]at dd;rw[<- hq]at dc
     have hqb : -1<=q/\q<dP.2.length:=by rw[hq];exact pg.out.val _ (List.mem_of_getElem? (iQ (show c'<dP.1.length by omega)))
     have cd:=dd w8 (ad _);have ce:=d0 w8 (ad _);have Hz:=zh hz;have Hqd:=zh hq
     have oy:Hid ((jH.take (j+1)).foldl (ba c') st=ba c' dP d):=by show _=_;rw[tu hy,<- qj.out]
     have LV:=zh rN;have Kc:=zh kH;have WN:=zh lW;have m3:IntKind.i64.wrap ((j:Int)+1)=(j:Int)+1:=aF _ (by omega) (by omega);clear hz hq hy hx rN kH lW j6 iq i1;go_upto_region 10 with(fail);rw[<- Kc.out,<- WN.out];clear t1 t2
     by_cases lP:z<0
     ·have m4:IntKind.i64.wrap (q+1)=q+1:=aF _ (by omega) (by omega)
      have xg:Hid (ba c' dP d=(dP.1.set d (q+1),dP.2++[(d:Int)])):=by show _=_;unfold ba;rw[Int.toNat_natCast,Int.toNat_natCast,<- Hz.out,if_pos lP,<- Hqd.out]
      have Yf:Hid (BI n.ends.length (ba c' dP d)):=pg.out.step (by omega) (by omega);obtain⟨ys,w_⟩:=SQ.out j
      have mh:k+1<=dP.2.length:=by rw[qj.out,w_,List.length_append];omega
      have Td:Hid ((dP.2++[(d:Int)]).drop (k+1)=dP.2.drop (k+1)++[(d:Int)]):=List.drop_append_of_le_length mh
      have cJ:Hid ((dP.2.drop (k+1)).length+1<=1000000):=by show _<=_;rw[List.length_drop];omega
      have IS:=zh mE;clear w_ mh;go_upto_region 11 with(fail);refine ar 9 (aa w8) (by kernel_rfl) (by kernel_rfl) (by simp) (aj (ad _)) ?_;simp only[zT]
      iterate 9 (refine bU rfl ?_;simp only[zA])
      intro W hW;have LY:=zh (uw.out.since hW);have HqW:=zh (Hq8.out.since hW);have HsW:=zh (kt.out.after hW);have eW:=d0 W hW;have fd:=LY.out.free d;have cdW:=dd W hW;obtain⟨w9,zf⟩:∃w9,w9=W.setCell ⟨g,d,none⟩ (.int .i64 (q+1)):=⟨_,rfl⟩
      have vP:Hid (Own w9 w0.heap.size (.slice (some ⟨g,0,none⟩) n.ends.length c1) (dP.1.set d (q+1))):=by rw[zf];exact LY.out.set (k:=d) (q+1)
      have Hq9:Hid (QA w9 w0.heap.size gv ov cv (dP.2.drop (k+1))):=by rw[zf];exact HqW.out.other mE _ _
      have z7:Hid (aa w0 w9):=by rw[zf];exact Below.setCell HsW.out P_.out _
      have hbg:be≠g:=by have:=(World.ownsRow.lt Dp.out g rfl).2;rw[WN.out];omega
      have e9:w9.cell? ⟨be,0,none⟩=some (.int .i64 d):=by
       rw[zf]
       have:=Below.heap_setCell W ⟨g,d,none⟩ (.int .i64 (q+1)) be (by simpa using hbg)
       unfold World.cell? at eW ⊢
       rw[this];exact eW
      have Hw9:=zh zf;clear hW zf d0 dd dc cd ce hbg;go_upto_region 12 with(fail);rw[<- Hw9.out];clear eW fd cdW m4
      go_wp2_with (at_builtin;refine YS rfl _ _ rfl rfl (Hq9.out.since (ag _ (ad _))) w9.heap.size d rfl (by simp[go_sem]) cJ.out (ag _ z7.out) ?_;intro g7 o7 c7 w7 hq7 YU vm Q7)
      have J8:Hid (Own w7 w0.heap.size (.slice (some ⟨g,0,none⟩) n.ends.length c1) (dP.1.set d (q+1))):=Own.aeR (vP.out.keep (am w9 _)) YU (by simpa[Value.ownBlock]using Ne.symm IS.out);have Hq7:=zh hq7;have FT:=zh Q7;have M2:=zh (World.ownsRow.lt vP.out g rfl).2
      have Yh:Hid (g7≠g):=by
       rcases vm with e | e
       ·rw[e];exact IS.out
       ·simp at e;exact fun e2=>by have:=M2.out;omega
      clear hq7 YU vm Q7 e9;go_wp2;go_roundw
      case rel=>exact⟨j+1,g7,o7,c7,ba c' dP d,by omega,by go_num,oy.out.symm,by rw[xg.out,Td.out];simp,Yh.out,Yf.out,by rw[xg.out];exact J8.out,by rw[xg.out,Td.out];exact Hq7.out,FT.out⟩
      case measure=>simp[intOf];omega
     ·have Ds:Hid (ba c' dP d=dP):=by show _=_;unfold ba;rw[Int.toNat_natCast,<- Hz.out,if_neg lP]
      clear d0 dd dc;go_wp2;go_roundw
      case rel=>exact⟨j+1,gv,ov,cv,dP,by omega,by go_num,by rw[oy.out,Ds.out],rfl,mE,pg.out,uw.out,Hq8.out,kt.out⟩
      case measure=>simp[intOf];omega
    ·obtain rfl:j=es.length:=by omega
     have YV:jH.length=es.length:=by rw[<- qh.out,List.length_map]
     have rc:Hid (dP=jH.foldl (ba c') st):=by show _=_;rw[qj.out,<- YV,List.take_length]
     have Yi:Hid (sj n f dP (k+1)=R):=by
      show _=_
      rw[<- yT.out,sj,if_pos hlt,Yc.out,<- MW.out,<- rc.out]
     have Uv:Hid (k+1<=dP.2.length):=by
      obtain⟨ys,w_⟩:=SQ.out es.length;show _<=_
      rw[qj.out,w_,List.length_append];omega
     clear YV;go_wp2
     go_roundg f
     case rel=>exact⟨k+1,dP,gv,ov,cv,rfl,mE,pg.out,Yi.out,by omega,Uv.out,Dp.out,Hq'.out,LU.out⟩
     case measure=>omega
  ·have KF:st.2.drop k=[]:=List.drop_eq_nil_of_le (by omega)
   have Yj:Hid (R=st.1):=by
    rw[<- yT.out]
    obtain⟨f,rfl⟩ | h0:(∃f',gk=f'+1)\/gk=0:=by
     rcases Nat.eq_zero_or_pos gk with h | h
     ·exact .inr h
     ·exact .inl ⟨gk-1,by omega⟩
    ·show sj _ _ _ _=_
     rw[sj,if_neg hlt]
    ·subst h0;exact rfl
   rw[KF];go_wp2;go_ret
   exact⟨_,rfl,by rw[Yj.out];exact Ho.out.mono aT.out.size,aa.after aT.out Hs.out⟩
end Go.Proofs.YtgmdpppljkmabaaGreat
