/- Parts of the proof: walks of functions and plain laws. -/
import Derived.Test.YtgmdpppljkmabaaGreatP0
import Derived.Test.YtgmdpppljkmabaaGreatP11
import Derived.Test.YtgmdpppljkmabaaGreatP4
import Derived.Test.YtgmdpppljkmabaaGreatP2
import Derived.Test.YtgmdpppljkmabaaGreatP3
import Derived.Test.YtgmdpppljkmabaaGreatP5
import Derived.Test.YtgmdpppljkmabaaGreatP12
import Derived.Test.YtgmdpppljkmabaaGreatP9
import Derived.Test.YtgmdpppljkmabaaGreatP8
import Derived.Test.YtgmdpppljkmabaaGreatP1
import Derived.Test.YtgmdpppljkmabaaGreatP19
import Derived.OpenShut
import Derived.Test.YtgmdpppljkmabaaGreatP18
import Derived.Test.YtgmdpppljkmabaaGreatP24
import Derived.Test.YtgmdpppljkmabaaGreatP13
import Derived.Deep.CutBlock
set_option maxRecDepth 100000
set_option maxHeartbeats 16000000
namespace Go.Proofs.YtgmdpppljkmabaaGreat
open Go Go.RowKit
theorem zy (v u:Value) (xs ys:List Int) (w:World) (h:aO w v xs) (h':aO w u ys):
  Calls Tryz.prog 16 #[v,u] w fun e w'=>e=.returned (.bool (decide (xs=ys)))/\∃m,w'=w.drewN m:=by
 obtain⟨A,c,rfl,fg,hm,hA⟩:=h;obtain⟨B,d,rfl,Pa,zC,hB⟩:=h';unfold maxLen at hm zC;have HA:=zh hA;have HB:=zh hB;clear hA hB
 by_cases hl:xs.length=ys.length
 ·have Hl:=zh hl;have vP:xs.length<=ys.length:=by omega
  have El:ys.length<=xs.length:=by omega
  have hb:((xs.length:Int) != (ys.length:Int))=false:=by simp[hl]
  clear hl
  go_enter Tryz.func16,Tryz.ntmps16
  go_wp2
  go_loopw [13] (fun i wr=>∃k n:Nat,k<=xs.length/\i=.int .i64 k/\xs.take k=ys.take k/\wr=w.drewN n) (fun i _=>xs.length-(intOf i).toNat)
  case atStart=>exact⟨0,0,Nat.zero_le _,rfl,by simp,rfl⟩
  case round=>
   obtain⟨k,n,hk,rfl,heq,rfl⟩:=hrel;have Heq:=zh heq;clear heq
   by_cases az:k<xs.length
   ·obtain⟨x,hx⟩:=aA xs k az;obtain⟨y,hy⟩:=aA ys k (by omega);obtain⟨b,off,rfl,gy⟩:=HA.out k x hx;obtain⟨b',n7,rfl,P8⟩:=HB.out k y hy;have Hx:=zh hx;have Hy:=zh hy;clear hx hy;cases CH:(x != y)
    all_goals
     have SD:=zh CH;go_wp2
     go_quiet (fail)
     go_wp2
    ·go_roundw
     case rel=>exact⟨k+1,_,by omega,by go_num,by rw[aV Hx.out,aV Hy.out,Heq.out,show x=y by simpa using SD.out],rfl⟩
     case measure=>simp[intOf];omega
    ·go_ret;refine⟨aW (decide_eq_false fun e=>?_),dr1 _ _ _⟩
     have h1:=Hx.out;rw[e,Hy.out]at h1;have h2:=SD.out;simp at h1 h2
     exact h2 h1.symm
   ·go_wp2;go_ret;exact⟨j7 (decide_eq_true (zU Hl.out Heq.out az)),_,rfl⟩
 ·have hb:((xs.length:Int) != (ys.length:Int))=true:=by simp;omega
  have Hl:=zh hl;clear hl
  go_enter Tryz.func16,Tryz.ntmps16
  go_wp2;go_ret;exact⟨aW (decide_eq_false fun e=>Hl.out (by rw[e])),0,rfl⟩
theorem E_ (v u:Value) (xs ys:List Int) (w:World) (h:aO w v xs) (h':aO w u ys):
  Calls Tryz.prog 16 #[v,u] w fun e w'=>e=.returned (.bool (TB xs ys))/\Below w.heap.size w w':=(zy v u xs ys w h h').mono fun _ _ ⟨he,m,hm⟩=>⟨he,by rw[hm];exact below_drewN (Below.refl _ _) m⟩
theorem xj (v u:Value) (xs:List Int) (w:World) (h:aO w v xs) (h':aO w u xs):
  Calls Tryz.prog 16 #[v,u] w fun e w'=>e=.returned (.bool true)/\Below w.heap.size w w':=
 (E_ v u xs xs w h h').mono fun e w' ⟨he,hb⟩=>⟨by rw[he];simp[TB],hb⟩
def IB (a b:Nat):Bool:=decide (1048576<a)||decide (1048576<a+b)
theorem OI (A B:Option Addr) (a c b d:Nat) (w:World) (hc:a<=9223372036854775807) (hd:b<=9223372036854775807):
  Calls Tryz.prog 7 #[.slice A a c,.slice B b d] w fun e w'=>e=.returned (.bool (IB a b))/\w=w':=by
 go_enter Tryz.func7,Tryz.ntmps7
 by_cases h:1048576<a
 ·have e1:((1048576:Int)<(a:Int))=True:=by simp;omega
  go_wp2;go_ret
  exact⟨by unfold IB;simp[h],rfl⟩
 ·have e1:((1048576:Int)<(a:Int))=False:=by simp;omega
  have m1:IntKind.i64.wrap (1048576-(a:Int))=1048576-(a:Int):=aH _ (by omega) (by omega)
  by_cases h2:1048576<a+b
  ·have e2:(1048576-(a:Int)<(b:Int))=True:=by simp;omega
   go_wp2;go_ret
   exact⟨by unfold IB;simp[h2],rfl⟩
  ·have e2:(1048576-(a:Int)<(b:Int))=False:=by simp;omega
   go_wp2;go_ret
   exact⟨by unfold IB;simp[h,h2],rfl⟩
abbrev Q4:=Int×Int×Int×Int
section
variable {β : Type} {len : Nat → Nat} {c : Nat × Nat → Nat × Nat → Bool} {f : Nat × Nat → Nat × Nat → β}
end
section
variable {α : Type} {p : α → Bool} {xs : List α}
end
def cE (n:aj) (ls:List Int) (p q:Nat×Nat):Bool:=ZE n.ends ls ((p.1:Int),(p.2:Int)) ((q.1:Int),(q.2:Int))
theorem L5 {n:aj} (h:ak n=true) (uI:n.ids.length<=200):iO n<=1048576:=by
 have hi:=gW.1 h
 have lD:n.acn.length=n.ends.length:=by
  have h3:=hi.2.2.1;unfold fe at h3;simp only[Bool.and_eq_true,beq_iff_eq]at h3;omega
 refine(Bd.small ⟨by omega,fun k es he=>?_,by omega,by omega⟩).sz
 have:=hi.2.2.2.1 k (al he)
 rw[ao he]at this;omega
open Go.ChangeShapes Go.WideShapes Go.ChangeAt Go.RowKit
theorem open_bytes {H:Type} {enc:TypeId×Value->H} {W:World} {r:Reach} {b0:Nat} {v:Value} {d:DataW H} {p:List MemPlace}
  (hv:Value.okWide Tryz.prog W r b0 22 v) (h:DataW.Trod enc Tryz.prog W 0 (fun _=>true) true 22 v d p):∃L,Lp W v L:=by
 obtain⟨a0,abt,XN,rfl⟩:=okWide_slice Tryz.underlying22 hv;obtain⟨iK,hf⟩:=h;rcases open_ints Tryz.underlying22 Tryz.underlying5 (by kernel_rfl) hf with⟨pX,_⟩ | ⟨x,l,c,zs,pX,_,hl,hm,hz,_,gy,QZ⟩
 ·simp[Value.cells]at pX
  obtain⟨rfl,rfl,rfl⟩:=pX
  exact⟨0,none,0,rfl,Nat.le_refl _,by unfold maxLen;omega,fun k hk=>by omega⟩
 ·simp[Value.cells]at pX
  obtain⟨rfl,rfl,rfl⟩:=pX;have hz':zs.length=XN:=by simpa using hz
  refine⟨abt,some x,XN,rfl,hl,hm,fun k hk=>?_⟩
  have nO:k<zs.length:=by omega
  have hc:=gy k nO
  have hb:=bounds_u8 (QZ (zs.getD k 0) (by rw[zDd,List.getElem?_eq_getElem nO];exact List.getElem_mem nO))
  have h0:=gy 0 (by omega);obtain⟨bl,off,abu⟩:=x
  cases abu with
  | none=>
   refine⟨bl,off,zs.getD k 0,rfl,?_,hb.1,by omega⟩
   by_cases Fc:k=0
   ·subst Fc;simpa[Addr.add]using hc
   ·simpa[Addr.add,Fc]using hc
  | some q=>simp[World.cell?,Addr.add]at h0;split at h0 <;> simp at h0
def I3 (K k:Nat):List Int:=if k=0 then [] else if k=1 then fQ K else mh K
theorem L6 {K k:Nat} (hk:k<2):I3 K k++fQ K=I3 K (k+1):=by
 rcases(by omega:k=0\/k=1)with rfl | rfl
 ·simp[I3]
 ·simp[I3,mh]
theorem OJ {K k:Nat} (hk:k<=2):(I3 K k).length=k*K:=by
 rcases(by omega:k=0\/k=1\/k=2)with rfl | rfl | rfl
 ·simp[I3]
 ·simp[I3,fR]
 ·simp only[I3,if_neg (show ¬(2:Nat)=0 by decide),if_neg (show ¬(2:Nat)=1 by decide),lJ];omega
theorem L7 {K v:Nat} (h:v<K):(v:Int)∈mh K:=by
 unfold mh;exact List.mem_append_left _ (List.mem_iff_getElem?.2 ⟨v,qo h⟩)
theorem fnProofCovers_walk (w:World) (v1:Value) (L1:Nat) (h1:Lp w v1 L1) (v2:Value) (L2:Nat) (h2:Lp w v2 L2):
  Calls Tryz.prog 6 #[v1,v2] w fun e w'=>e=.returned (.bool true)/\Below w.heap.size w w':=by
 obtain⟨A1,a1,Sp,vP,ru,-⟩:=id h1;obtain⟨A2,a2,Vs,El,f8,-⟩:=id h2;subst Sp Vs;unfold maxLen at ru f8;have H1:=zh h1;have H2:=zh h2;clear h1 h2
 go_enter Tryz.func6,Tryz.ntmps6
 go_wp2_with fail;refine(OI A1 A2 L1 a1 L2 a2 w (by omega) (by omega)).mono ?_;rintro e wz ⟨rfl,rfl⟩;cases hb:IB L1 L2
 rotate_left
 ·go_wp2;go_ret;exact⟨rfl,Below.refl _ _⟩
 have hL:L1<=1048576/\L2<=1048576:=by
  unfold IB at hb;simp at hb
  omega
 go_wp2_with fail;refine(iX _ L1 w H1.out hL.1).mono ?_;rintro e w1 ⟨ve,vi,vn,N,S,um,ls,sx,rfl,ho,vO,Pl,sY,FH,aN⟩;obtain⟨D0,d0,rfl,-,acj,-⟩:=id ho.read.1;obtain⟨D1,d1,rfl,-,-,-⟩:=id ho.read.2.1;obtain⟨D2,d2,rfl,-,-,-⟩:=id ho.read.2.2;obtain⟨AU,cU,rfl,-,hmU,-⟩:=id sY.ints;have hU1:=sY.ints;obtain⟨w2,iY⟩:∃z,z=w1.alloc (.cells #[.slice D0 N.ends.length d0,.slice D1 N.ids.length d1,.slice D2 N.acn.length d2] 27):=⟨_,rfl⟩
 obtain⟨pb,fb⟩:∃z,z=w1.heap.size:=⟨_,rfl⟩
 have kb:ab w1 w2:=by rw[iY];exact ad _ (aa _)
 have dT:aY w2 pb (.slice D0 N.ends.length d0) (.slice D1 N.ids.length d1) (.slice D2 N.acn.length d2):=by rw[iY,fb];exact aY.new _ _ _ _ _
 have hN:=ho.read.keep kb.below;have hU2:=hU1.keep kb.below;have HN:=zh (show ∀W,ab w2 W->aC W (.slice D0 N.ends.length d0) (.slice D1 N.ids.length d1) (.slice D2 N.acn.length d2) N from fun W hW=>hN.keep hW.below)
 have HU:=zh (show ∀W,ab w2 W->aO W (.slice AU ls.length cU) ls from fun W hW=>hU2.keep hW.below)
 have Mr:=zh (ae dT.cells.1);have NW:=zh (ae dT.cells.2.1);have XO:=zh (ae dT.cells.2.2.1);have Hww:Hid (Below w.heap.size w w2):=Below.trans aN (kb.below.mono aN.size);have xQ:=zh iY;have eO:=zh fb;have lm:=zh vO.small.sz;have sk:=zh (xJ vO.small.sz);have IL:N.ends.length<=1000:=vO.small.ends;have Sy:=zh IL;have hls:ls.length<=1048576:=by omega
 obtain⟨RJ,XP⟩:∃z,z=aw N sx ls:=⟨_,rfl⟩
 obtain⟨la,Fp⟩:∃z,z=ed N sx ls:=⟨_,rfl⟩
 have HrI:Hid (∀W,ab w2 W->Calls Tryz.prog 15 #[.agg #[.slice D0 N.ends.length d0,.slice D1 N.ids.length d1,.slice D2 N.acn.length d2],.int .i64 sx,.slice AU ls.length cU] W fun e w'=>∃u,e=.returned (.tuple #[u,.bool la])/\Own w' W.heap.size u RJ/\Below W.heap.size W w'):=fun W hW=>by
  have pX:=gM _ _ _ N sx _ ls W (HN.out W hW) (by omega) (HU.out W hW) lm.out hls;rw[<- XP,show aM N sx ls=la from Fp.symm]at pX;exact pX
 have HrS:Hid (∀W,ab w2 W->Calls Tryz.prog 43 #[.agg #[.slice D0 N.ends.length d0,.slice D1 N.ids.length d1,.slice D2 N.acn.length d2],.int .i64 sx,.slice AU ls.length cU] W fun e w'=>∃u,e=.returned (.tuple #[u,.bool la])/\Own w' W.heap.size u RJ/\Below W.heap.size W w'):=fun W hW=>by
  have pX:=ku _ _ _ N sx _ ls W (HN.out W hW) (by omega) (HU.out W hW) lm.out hls;rw[<- XP,show aM N sx ls=la from Fp.symm]at pX;exact pX
 have C6:RJ.length<=1048576:=by
  rw[XP];unfold aw
  split
  ·exact Nat.le_trans (Nh _ _ _) hls
  ·exact Nat.zero_le _
 have fM:ab w2 w2:=aa _;obtain⟨rl,q8⟩:∃z,RJ.length=z:=⟨_,rfl⟩
 have Wq:=zh q8;rw[q8]at C6;have HRJ:=zh XP;have YQ:=zh Fp;clear ho vO aN iY fb kb dT hN hU1 hU2 sY XP Fp IL q8;unfold maxLen at hmU;go_upto_region 4 with(fail);rw[<- xQ.out,<- eO.out];have p0:=Mr.out w2 fM;have p1:=NW.out w2 fM;have p2:=XO.out w2 fM;go_wp2_with fail;refine(HrI.out w2 fM).mono ?_;rintro e w3 ⟨u3,rfl,ex,bB⟩;obtain⟨Q3,q3,rfl,-,abv,-⟩:=id ex.ints;have gZ:=zh (show ab w2 w3 from bB);have HI:=zh (show ∀W,ab w3 W->aO W (.slice Q3 RJ.length q3) RJ from fun W hW=>ex.ints.keep hW.below)
 clear p0 p1 p2 ex bB fM;rw[Wq.out]at HI ⊢;have p0:=Mr.out w3 gZ.out;have p1:=NW.out w3 gZ.out;have p2:=XO.out w3 gZ.out;go_wp2_with fail;refine(HrS.out w3 gZ.out).mono ?_;rintro e w4 ⟨u4,rfl,mW,vL⟩;obtain⟨Q4,q4,rfl,-,abw,-⟩:=id mW.ints;have XQ:=zh (show ab w3 w4 from vL);have te:=zh (gZ.out.after (show ab w3 w4 from vL));have HI4:=zh (show ∀W,ab w4 W->aO W (.slice Q4 RJ.length q4) RJ from fun W hW=>mW.ints.keep hW.below)
 clear p0 p1 p2 mW vL;rw[Wq.out]at HI4 ⊢;unfold maxLen at abv abw;go_upto_region 6 with(fail)
 go_cut [66]from 58 to 66 (fun t wx=>t=.bool false/\ab w4 wx)
 case first=>
  have hsi:=xj _ _ RJ w4 (HI.out w4 XQ.out) (HI4.out w4 (aa _));have Hsi:=zh hsi;clear hsi;cases la
  ·go_wp2_with fail;refine Hsi.out.mono ?_;rintro e w7 ⟨rfl,sA⟩;have Gp:=zh (show ab w4 w7 from sA);clear sA;go_wp2;go_meet
   case rel=>exact⟨by first | rfl | simp,Gp.out⟩
  ·go_wp2_with fail;refine Hsi.out.mono ?_;rintro e w7 ⟨rfl,sA⟩;have Gp:=zh (show ab w4 w7 from sA);clear sA;go_wp2;go_meet
   case rel=>exact⟨by first | rfl | simp,Gp.out⟩
 case rest=>
 obtain⟨rfl,XR⟩:=hcut;obtain⟨w5,rfl⟩:∃z,z=wc:=⟨_,rfl⟩
 have XS:=zh (XQ.out.after XR);have tf:=zh (gZ.out.after XS.out);clear XR;have p0:=Mr.out w5 tf.out;have p1:=NW.out w5 tf.out;have p2:=XO.out w5 tf.out;go_wp2_with fail;refine(sV _ _ _ N w5 (HN.out w5 tf.out) sk.out).mono ?_;rintro e Zg ⟨ce,ci,cn,Zh,rfl,Ac,hT,hF,EF⟩
 obtain⟨E0,m0,z0,E1,m1,z1,E2,m2,z2,rfl,rfl,rfl⟩:∃E0 m0 z0 E1 m1 z1 E2 m2 z2,ce=.slice E0 m0 z0/\ci=.slice E1 m1 z1/\cn=.slice E2 m2 z2:=by
  cases Zh
  ·obtain⟨rfl,rfl,rfl⟩:=hF rfl;exact⟨_,_,_,_,_,_,_,_,_,rfl,rfl,rfl⟩
  ·obtain⟨S,hS⟩:=hT rfl;obtain⟨⟨X0,x0,h0,-⟩,⟨X1,x1,h1,-⟩,⟨X2,x2,h2,-⟩⟩:=hS.read;exact⟨_,_,_,_,_,_,_,_,_,h0,h1,h2⟩
 obtain⟨w6,zQ⟩:∃z,z=Zg.alloc (.cells #[.slice E0 m0 z0,.slice E1 m1 z1,.slice E2 m2 z2] 27):=⟨_,rfl⟩
 obtain⟨pd,hpd⟩:∃z,z=Zg.heap.size:=⟨_,rfl⟩
 have h66:ab Zg w6:=by rw[zQ];exact ad _ (aa _)
 have OK:aY w6 pd (.slice E0 m0 z0) (.slice E1 m1 z1) (.slice E2 m2 z2):=by rw[zQ,hpd];exact aY.new _ _ _ _ _
 have Zi:=zh (ae OK.cells.1);have Zj:=zh (ae OK.cells.2.1);have Zk:=zh (ae OK.cells.2.2.1);have XT:=zh (XS.out.after ((show ab w5 Zg from EF).after h66));have NE:=zh (gZ.out.after XT.out)
 have HDN:Hid (Zh=true->∀W,ab w6 W->aC W (.slice E0 m0 z0) (.slice E1 m1 z1) (.slice E2 m2 z2) (fL N)):=fun hq W hW=>by
  obtain⟨S,hS⟩:=hT hq;exact hS.read.keep (h66.after hW).below
 have P9:=zh Ac;have Hw6:=zh zQ;have Hpd:=zh hpd;clear Ac hT hF EF zQ hpd h66 OK p0 p1 p2;go_upto_region 9 with(fail);rw[<- Hw6.out,<- Hpd.out];obtain⟨gg,mE⟩:∃z,z=((la&&Zh)&&decide (sx<=3)):=⟨_,rfl⟩
 have Hgg:=zh mE;clear mE
 go_cut [79]from 72 to 79 (fun t wx=>t=.bool gg/\wx=w6)
 case first=>
  have mE:=Hgg.out;cases la
  ·obtain rfl:gg=false:=by simpa using mE
   clear mE;go_wp2;go_meet
   case rel=>exact⟨by first | rfl | simp,rfl⟩
  ·cases Zh
   ·obtain rfl:gg=false:=by simpa using mE
    clear mE;go_wp2;go_meet
    case rel=>exact⟨by first | rfl | simp,rfl⟩
   ·by_cases h3:sx<=3
    ·obtain rfl:gg=true:=by simpa[h3]using mE
     clear mE;go_wp2;go_meet
     case rel=>exact⟨by first | rfl | simp,rfl⟩
    ·obtain rfl:gg=false:=by simpa[h3]using mE
     clear mE;go_wp2;go_meet
     case rel=>exact⟨by first | rfl | simp,rfl⟩
 case rest=>
 obtain⟨eD,rg⟩:=hcut;subst eD;have CE:=rg.symm;clear rg;subst CE
 go_upto_if 79 with(fail)
 go_cut []from 14 to 169 (fun wx=>ab w2 wx)
 case first=>
  cases kF:gg
  ·have hgw:=kF;subst hgw;clear kF;go_wp2;go_meet
   case rel=>exact NE.out
  have mE:=Hgg.out;rw[kF]at mE;have XU:=mE.symm;simp only[Bool.and_eq_true,decide_eq_true_eq]at XU;obtain⟨⟨az,CU⟩,jJ⟩:=XU;subst kF;have rf:ed N sx ls=true:=YQ.out.symm.trans az;obtain⟨IC,bG,XV,-⟩:=iB.1 rf
  have L8:ak (fL N)=true:=by
   have h9:=P9.out;rw[CU]at h9;have h8:=h9.symm;rw[Bool.and_eq_true]at h8;exact h8.2
  have HD:=zh (HDN.out CU);have P3:=Nl L8 rf
  have Se:RJ=kt N sx ls:=by rw[HRJ.out];unfold aw;rw[if_pos rf]
  have kJ:=(aB IC).1;have nO:=(aB IC).2;obtain⟨K,hK⟩:∃K,K=N.ends.length:=⟨_,rfl⟩
  obtain⟨DR,Zl⟩:∃z,z=kt (fL N) sx (ls++ls):=⟨_,rfl⟩
  have hDl:DR.length=2*rl:=by rw[Zl,BE rf jJ,<- Se,Wq.out]
  have abx:Hid (∀x∈DR,0<=x/\x<2*(K:Int)/\x%(K:Int)∈RJ):=fun x hx=>by rw[hK,Se];exact D5 rf jJ (by rw[<- Zl];exact hx)
  have zF:(fL N).ends.length=2*K:=by rw[nR,hK];omega
  have uf:m0=2*K:=by
   obtain⟨X,x,hx,-⟩:=(HD.out w6 (aa _)).1
   cases hx;exact zF
  have XW:=Nn IC L8;have XX:iO (fL N)<=1048576:=L5 L8 (Nat.zero_le _);have XY:=zh IC;have Sf:=zh L8;have aby:=zh XX;have hPM:=QS IC;rw[<- hK]at hPM;have HPM:=zh hPM;have HDR:=zh Zl;have HK:=zh hK;have XZ:=zh XV;have P4:=zh P3;have abz:=zh XW;have HDl:=zh hDl;have Qt:=zh zF;have abA:=az;subst abA;have abB:=CU;subst abB;have X3:ab w6 w6:=aa _;have ack:=P9
  have m2K:IntKind.i64.wrap (2*(K:Int))=((2*K:Nat):Int):=by rw[aH _ (by omega) (by omega)];omega
  have m2r:IntKind.i64.wrap (2*(rl:Int))=((2*rl:Nat):Int):=by rw[aH _ (by omega) (by omega)];omega
  rw[<- hK]at kJ nO
  have Sg:Hid (∀W,ab w2 W->W.cell? ⟨pb,0,none⟩=some (.slice D0 K d0)):=by rw[HK.out];exact Mr.out
  clear mE rf IC L8 P3 Se hK Zl hDl zF XW XX hPM XV CU az uf;go_upto_region 12 with(fail)
  go_loopw [14,15] (fun u i wr=>∃k:Nat,k<=2/\i=.int .i64 k/\Own wr w6.heap.size u (I3 K k)/\ab w6 wr) (fun _ i _=>2-(intOf i).toNat)
  case atStart=>exact⟨0,by omega,by first | rfl | go_num,bU _ _,X3⟩
  case round=>
   obtain⟨k,hk,rfl,OZ,hsu⟩:=hrel;obtain⟨wo,rfl⟩:∃z,z=wr:=⟨_,rfl⟩
   have Jv:=zh OZ;have Ml:=zh hsu;clear OZ hsu X3
   by_cases rp:k<2
   ·obtain⟨AF,cF,rfl,-,-,-⟩:=id Jv.out.ints;have p0:=Sg.out wo (NE.out.after Ml.out);have m3:IntKind.i64.wrap ((k:Int)+1)=(k:Int)+1:=aH _ (by omega) (by omega);have gC:((k:Int)<2)=True:=eq_true (by omega);go_upto_region 15 with(fail)
    go_loopw [14,87] (fun u i wr=>∃j:Nat,j<=K/\i=.int .i64 j/\Own wr w6.heap.size u (I3 K k++fQ j)/\ab w6 wr) (fun _ i _=>K-(intOf i).toNat)
    case atStart=>exact⟨0,by omega,by first | rfl | go_num,by have h9:=Jv.out;simpa[fQ]using h9,Ml.out⟩
    case round=>
     obtain⟨j,hj,rfl,ez,hsj⟩:=hrel;obtain⟨P,hP⟩:∃P,P=I3 K k++fQ j:=⟨_,rfl⟩
     rw[<- hP]at ez;obtain⟨AJ,cJ,rfl,-,-,-⟩:=id ez.ints;have HP9:=zh hP;have SK:=zh ez;have Hsj:=zh hsj;clear ez hsj hP
     by_cases sH:j<K
     ·have m4:IntKind.i64.wrap ((j:Int)+1)=(j:Int)+1:=aH _ (by omega) (by omega);have hP:=HP9.out
      have dz:Hid (P.length+1<=17592186044416):=by show _<=_;rw[hP,List.length_append,OJ hk,fR];have:k*K<=2*K:=Nat.mul_le_mul_right _ hk;omega
      have HPn:Hid (I3 K k++fQ (j+1)=P++[(j:Int)]):=by show _=_;rw[hP,xx,List.append_assoc]
      clear hP
      go_wp2_with (at_builtin;refine c_ (w0:=w6) rfl _ _ rfl rfl (SK.out.since (ad _ (aa _))) wr.heap.size (j:Int) rfl (by simp[go_sem]) dz.out (ad _ Hsj.out) ?_;intro g cx w8 YN kH)
      go_roundw
      case rel=>exact⟨j+1,by omega,by first | rfl | go_num,by rw[HPn.out];exact YN,kH⟩
      case measure=>simp[intOf];omega
     ·obtain rfl:j=K:=by omega
      go_wp2;go_roundw
      case rel=>exact⟨k+1,by omega,by first | rfl | go_num,by rw[<- L6 rp,<- HP9.out];exact SK.out,Hsj.out⟩
      case measure=>simp[intOf];omega
   ·obtain rfl:k=2:=by omega
    have Sh:aO wo u14 (mh K):=Jv.out.ints;obtain⟨AF,cF,X4,-⟩:=id Sh;obtain⟨fl,Ja⟩:∃z,z=(mh K).length:=⟨_,rfl⟩
    rw[<- Ja]at X4;subst X4;have Qi:=zh (show ∀W,ab wo W->aO W (.slice AF fl cF) (mh K)from fun W hW=>Sh.keep hW.below)
    have aU:ab wo wo:=aa _;have Hfl:=zh Ja;have I4:Hid (∀W,ab wo W->ab w2 W):=fun W hW=>NE.out.after (Ml.out.after hW)
    have CD:Hid (∀W,ab wo W->ab w6 W):=fun W hW=>Ml.out.after hW
    clear Ja rp Sh;have p0:=Mr.out wo (I4.out wo aU);have p1:=NW.out wo (I4.out wo aU);have p2:=XO.out wo (I4.out wo aU);have Si:=Zi.out wo (CD.out wo aU);have B_:=Zj.out wo (CD.out wo aU);have CY:=Zk.out wo (CD.out wo aU);go_wp2_with fail
    refine(vr _ _ _ _ _ _ _ (fL N) N (mh K) wo (HD.out wo (CD.out wo aU)) (HN.out wo (I4.out wo aU)) (Qi.out wo aU) HPM.out Sf.out XY.out (Nat.zero_le _) sk.out (fun v hv=>L7 (by rw[HK.out];exact hv))).mono ?_
    rintro e wA ⟨rfl,L_⟩;have jT:ab wo wA:=L_;clear p0 p1 p2 Si B_ CY L_;have p0:=Mr.out wA (I4.out wA jT);have p1:=NW.out wA (I4.out wA jT);have p2:=XO.out wA (I4.out wA jT);have Si:=Zi.out wA (CD.out wA jT);have B_:=Zj.out wA (CD.out wA jT);have CY:=Zk.out wA (CD.out wA jT);go_wp2_with fail;refine(wO _ _ _ _ _ _ _ _ (fL N) N (mh K) ls wA (HD.out wA (CD.out wA jT)) (HN.out wA (I4.out wA jT)) (Qi.out wA jT) (HU.out wA (I4.out wA jT)) HPM.out Sf.out XY.out (Nat.zero_le _) sk.out XZ.out).mono ?_
    rw[show nj ls (mh K)=ls++ls from by rw[show K=ls.length from by rw[XZ.out,HK.out]];exact Ks ls]
    rintro e wB ⟨uB,rfl,hoB,IE⟩;have To:ab wo wB:=jT.after (show ab wA wB from IE);obtain⟨QB,qB,rfl,-,acl,-⟩:=id hoB.ints;have Ym:=zh (show ∀W,ab wB W->aO W (.slice QB (ls++ls).length qB) (ls++ls)from fun W hW=>hoB.ints.keep hW.below)
    have X5:(ls++ls).length<=1048576:=by rw[List.length_append];omega
    obtain⟨l2,X6⟩:∃z,(ls++ls).length=z:=⟨_,rfl⟩
    rw[X6]at Ym ⊢;clear p0 p1 p2 Si B_ CY hoB IE jT X6;have Si:=Zi.out wB (CD.out wB To);have B_:=Zj.out wB (CD.out wB To);have CY:=Zk.out wB (CD.out wB To);have hcC:=gM _ _ _ (fL N) sx _ (ls++ls) wB (HD.out wB (CD.out wB To)) (by omega) (Ym.out wB (aa _)) aby.out X5
    rw[show aM (fL N) sx (ls++ls)=true from P4.out,show aw (fL N) sx (ls++ls)=DR from by rw[HDR.out];unfold aw;rw[if_pos P4.out]]at hcC
    have HcC:=zh hcC;clear hcC X5;go_wp2_with fail;refine HcC.out.mono ?_;rintro e wC ⟨uC,rfl,hoC,Ma⟩;have hsC:ab wo wC:=To.after (show ab wB wC from Ma);obtain⟨QC,qC,rfl,-,abC,-⟩:=id hoC.ints;have HIC:=zh (show ∀W,ab wC W->aO W (.slice QC DR.length qC) DR from fun W hW=>hoC.ints.keep hW.below)
    rw[HDl.out]at HIC ⊢;have Sj:=zh hsC;unfold maxLen at abC;clear Si B_ CY hoC Ma To hsC HcC aU;go_upto_region 22 with(fail);have iJ:((((2*rl:Nat)):Int) != ((2*rl:Nat):Int))=false:=by simp
    go_upto_region 25 with(fail)
    go_loopw [141] (fun i wr=>∃j:Nat,j<=2*rl/\i=.int .i64 j/\wr=wC) (fun i _=>2*rl-(intOf i).toNat)
    case atStart=>exact⟨0,by omega,by first | rfl | go_num,rfl⟩
    case round=>
     obtain⟨j,hj,rfl,rfl⟩:=hrel
     by_cases sH:j<2*rl
     ·have m4:IntKind.i64.wrap ((j:Int)+1)=(j:Int)+1:=aH _ (by omega) (by omega)
      obtain⟨x,hx⟩:=aA DR j (by rw[HDl.out];exact sH)
      obtain⟨x1,x2,x3⟩:=abx.out x (List.mem_of_getElem? hx);obtain⟨Aq,cq,eC,-,-,hCC⟩:=HIC.out wr (aa _)
      injection eC with q1 q2 q3'
      subst q1;clear q2 q3';obtain⟨b9,o9,rfl,SI⟩:=hCC j _ hx;have c9:=ae SI wr (aa _);have p0:=Sg.out wr (I4.out wr Sj.out)
      obtain⟨v,hv⟩:∃v:Nat,(v:Int)=x%(K:Int):=⟨(x%(K:Int)).toNat,by have:=Int.emod_nonneg x (show(K:Int)≠0 by omega);omega⟩
      have hvK:v<K:=by have:=Int.emod_lt_of_pos x (show(0:Int)<(K:Int)by omega);omega
      have m5:x.tmod (K:Int)=(v:Int):=by rw[hv,Int.tmod_eq_emod_of_nonneg x1]
      have m6:x%(K:Int)=(v:Int):=hv.symm;have m7:IntKind.i64.wrap (v:Int)=(v:Int):=aH _ (by omega) (by omega)
      have m8:((K:Int)=0)=False:=by simp;omega
      have m9:(K=0)=False:=by simp;omega
      have hq:=OG (.slice Q3 rl q3) RJ (v:Int) wr (HI.out wr (XT.out.after (CD.out wr Sj.out)))
      rw[OH (by rw[hv];exact x3)]at hq
      have Hq:=zh hq;clear hx x3 hCC SI hv hq;go_wp2_with fail;refine Hq.out.mono ?_;rintro e wD ⟨rfl,rfl⟩;go_wp2;go_roundw
      case rel=>exact⟨j+1,by omega,by first | rfl | go_num,by first | rfl | trivial⟩
      case measure=>simp[intOf];omega
     ·obtain rfl:j=2*rl:=by omega
      have Si:=Zi.out wr (CD.out wr Sj.out);have B_:=Zj.out wr (CD.out wr Sj.out);have CY:=Zk.out wr (CD.out wr Sj.out);have hcT:=rR _ _ _ (fL N) wr (HD.out wr (CD.out wr Sj.out)) Sf.out;rw[abz.out,if_pos rfl]at hcT;have HcT:=zh hcT;clear hcT;go_wp2_with fail;refine HcT.out.mono ?_;rintro e wE ⟨uE,rfl,hoE,hbE⟩;obtain⟨QE,qE,rfl,-,acm,-⟩:=id hoE.ints;have Nx:ab wo wE:=Sj.out.after (show ab wr wE from hbE);have Mu:(lf (fL N)).length=2*K:=by rw[Ba,Qt.out]
      have p0:=Sg.out wE (I4.out wE Nx);have HsE:=zh Nx;rw[Mu];have pw:((((2*K:Nat)):Int) != ((2*K:Nat):Int))=false:=by simp
      clear Si B_ CY hoE hbE Nx HcT Mu;go_wp2;go_meet
      case rel=>exact I4.out wE HsE.out
 case rest=>
  have Hc:=zh (show ab w2 wc from hcut);have hwc:Below w.heap.size w wc:=Below.trans Hww.out (Hc.out.below.mono Hww.out.size);have Hwc:=zh hwc;clear hcut hwc;go_wp2_with fail;refine(rY _ L2 wc (H2.out.keep Hwc.out) hL.2).mono ?_;rintro e w5' ⟨ve,vi,vn,M,SM,um,ks,sm,vv,rfl,ho,Sk,QD,sY,abD,YY,pS⟩;obtain⟨X0,x0,rfl,-,-,-⟩:=id ho.read.1;obtain⟨X1,x1,rfl,-,-,-⟩:=id ho.read.2.1;obtain⟨X2,x2,rfl,-,-,-⟩:=id ho.read.2.2;obtain⟨AM,cM,rfl,-,Pz,-⟩:=id sY.ints;have hM5:=ho.read;have hU5:=sY.ints;obtain⟨wb,Zm⟩:∃z,z=w5'.alloc (.cells #[.slice X0 M.ends.length x0,.slice X1 M.ids.length x1,.slice X2 M.acn.length x2] 27):=⟨_,rfl⟩
  obtain⟨pm,YW⟩:∃z,z=w5'.heap.size:=⟨_,rfl⟩
  have OL:ab w5' wb:=by rw[Zm];exact ad _ (aa _)
  have F7:aY wb pm (.slice X0 M.ends.length x0) (.slice X1 M.ids.length x1) (.slice X2 M.acn.length x2):=by rw[Zm,YW];exact aY.new _ _ _ _ _
  have Hwb:=zh Zm;have Hpm:=zh YW;have X7:=ae F7.cells.1;have X8:=ae F7.cells.2.1;have X9:=ae F7.cells.2.2.1;have ID:=zh (And.intro X7 (And.intro X8 X9));clear Zm YW F7 X7 X8 X9;have hMb:=hM5.keep OL.below;have hUb:=hU5.keep OL.below;have Lb:Hid (Below w.heap.size w wb):=Below.trans Hwc.out ((Below.trans pS (OL.below.mono pS.size)).mono Hwc.out.size);obtain⟨a0,ha0⟩:∃z,z=bt M sm ks vv:=⟨_,rfl⟩
  obtain⟨a1,BJ⟩:∃z,z=aK M sm ks vv:=⟨_,rfl⟩
  have HaI:Hid (∀W,ab wb W->Calls Tryz.prog 50 #[.agg #[.slice X0 M.ends.length x0,.slice X1 M.ids.length x1,.slice X2 M.acn.length x2],.int .i64 sm,.slice AM ks.length cM,.int .i64 vv] W fun e w'=>e=.returned (.tuple #[.bool a0,.bool a1])/\Below W.heap.size W w'):=fun W hW=>by
   have pX:=mY _ _ _ M sm _ ks vv W (hMb.keep hW.below) (by omega) (hUb.keep hW.below) (by omega) Sk.small.sz (by omega);rw[<- ha0,<- BJ]at pX;exact pX
  have HaS:Hid (∀W,ab wb W->Calls Tryz.prog 51 #[.agg #[.slice X0 M.ends.length x0,.slice X1 M.ids.length x1,.slice X2 M.acn.length x2],.int .i64 sm,.slice AM ks.length cM,.int .i64 vv] W fun e w'=>e=.returned (.tuple #[.bool a0,.bool a1])/\Below W.heap.size W w'):=fun W hW=>by
   have pX:=mX _ _ _ M sm _ ks vv W (hMb.keep hW.below) (by omega) (hUb.keep hW.below) (by omega) Sk.small.sz (by omega);rw[<- ha0,<- BJ]at pX;exact pX
  have J0:ab wb wb:=aa _;clear ho hM5 pS Sk QD sY abD ha0 BJ OL hMb hUb hU5 YY;unfold maxLen at Pz;go_upto_region 34 with(fail);rw[<- Hwb.out,<- Hpm.out];have p0:=ID.out.1 wb J0;have p1:=ID.out.2.1 wb J0;have p2:=ID.out.2.2 wb J0;go_wp2_with fail;refine(HaI.out wb J0).mono ?_;rintro e wA ⟨rfl,L_⟩;have NA:=zh (show ab wb wA from L_);clear p0 p1 p2 L_ J0;have p0:=ID.out.1 wA NA.out;have p1:=ID.out.2.1 wA NA.out;have p2:=ID.out.2.2 wA NA.out;go_wp2_with fail;refine(HaS.out wA NA.out).mono ?_;rintro e wB ⟨rfl,IE⟩;have HbF:Hid (Below w.heap.size w wB):=Below.trans Lb.out (Below.mono (Below.trans NA.out.below (Below.mono IE NA.out.below.size)) Lb.out.size);clear p0 p1 p2 IE;go_wp2;go_ret;exact⟨by first | rfl | simp,HbF.out⟩
end Go.Proofs.YtgmdpppljkmabaaGreat
