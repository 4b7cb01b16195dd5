/- Parts of the proof: walks of functions and plain laws. -/
import Derived.Test.YtgjggeapebbcbaaGreatP0
import Derived.Test.YtgjggeapebbcbaaGreatP17
import Derived.Test.YtgjggeapebbcbaaGreatP8
import Derived.Test.YtgjggeapebbcbaaGreatP9
import Derived.Test.YtgjggeapebbcbaaGreatP3
import Derived.Test.YtgjggeapebbcbaaGreatP7
import Derived.Test.YtgjggeapebbcbaaGreatP5
import Derived.Lib.BitFns
import Derived.Test.YtgjggeapebbcbaaGreatP2
import Derived.Test.YtgjggeapebbcbaaGreatP4
import Derived.OpenShut
import Derived.Test.YtgjggeapebbcbaaGreatP1
import Derived.Test.YtgjggeapebbcbaaGreatP15
import Derived.Test.YtgjggeapebbcbaaGreatP16
import Derived.Deep.CutBlock
set_option maxRecDepth 100000
set_option maxHeartbeats 16000000
namespace Go.Proofs.YtgjggeapebbcbaaGreat
open Go Go.RowKit
structure Kids (n:am) (dep:Nat->Int) (sm:Nat->Option Nat) (Ol:Nat->Nat->Bool):Prop where
 aaP:∀v i,i<(n.ends.getD v []).length->Ol v i=true->sm (j_ n v i)=some v/\dep (j_ n v i)=dep v+1/\j_ n v i<n.ends.length
 of_:∀v c,c<n.ends.length->sm c=some v->∃i,i<(n.ends.getD v []).length/\Ol v i=true/\j_ n v i=c
 one:∀v i j,i<(n.ends.getD v []).length->j<(n.ends.getD v []).length->Ol v i=true->Ol v j=true->j_ n v i=j_ n v j->i=j
structure ZH (n:am) (s:Int):Prop where
 len:(Qd n s).length=n.ends.length
 acc:IM n s (Qd n s)
 rng:∀x∈Qd n s,0<=x/\x<=2000000000/\(s=1->x<=1)/\(s=2->x<=2)
structure VA (cb:Nat) (A:Option Addr) (L c P0 K:Nat) (wS:World) (q:Nat) (W:World):Prop where
 cur:cW W cb A L c (P0+K*q)
 rel:C2 cb cb wS W
def CZ (n:am) (s most iX:Int):Bool:=aw n&&dW 1 5 s&&dW 0 999999999999 most&&dW 0 200000 iX
def da (n:am) (s most iX:Int):Int:=if CZ n s most iX then (FG n s 0 most iX).2.1 else 0
def iY (n:am) (s most iX:Int):List Int:=if CZ n s most iX then (FG n s 0 most iX).1 else []
structure R4 (n:am) (s most iX:Int):Prop where
 net:aw n=true
 sch:1<=s/\s<=5
 zy:0<=most/\most<=999999999999
structure Om (n:am) (s most iX:Int):Prop where
 cnt:decide (0<dv n s most)=decide (c_ n s most=0)
 rej:iA n s (dw n s most)=true
 num:((iQ n s (dw n s most)).length:Int)=c_ n s most
 yes:da n s most iX=1->dv n s most≠0
 no:da n s most iX=2->¬0<dv n s most
 fst:c_ n s most=0->da n s most iX=1->dw n s most=iY n s most iX
def R5 (n:am) (s:Int) (ls:List Int) (v:Nat) (x:Int):Bool:=!xL n s (ls.set v x) v
def eR (n:am) (s:Int) (ls:List Int) (v most:Int):Bool:=tm n s ls&&dW 0 ((n.ends.length:Int)-1) v&&dW 0 1000 most
def iZ (n:am) (s:Int) (ls:List Int) (v most:Int):List Int:=if eR n s ls v most then Ff (R5 n s ls v.toNat) (JU (most.toNat+1)) else []
def R6 (a b c d:Int):Int×Bool:=if (dW 0 999999999999 a&&dW 0 99 b&&dW 0 9 c&&dW 0 1 d&&dW 0 999999999999 (((a*100+b)*10+c)*2+d))=true then (((a*100+b)*10+c)*2+d,true) else (0,false)
def R7 (a b:Int):Int×Bool:=if (dW 0 999999999999 a&&dW 0 99 b&&dW 0 999999999999 (a*100+b))=true then (a*100+b,true) else (0,false)
def R8 (a:Int):Int×Bool:=if (dW 0 999999999999 a)=true then (a,true) else (0,false)
def ZI (s:Int) (ps:List Int):Int×Bool:=
 if dW 1 5 s=false then (0,false) else
 if s=5 then (match ps with | [a,b,c,d]=>R6 a b c d | _=>(0,false)) else
 if s=4 then (match ps with | [a,b]=>R7 a b | _=>(0,false)) else
 (match ps with | [a]=>R8 a | _=>(0,false))
def VB (s l:Int):List Int×Bool:=if (dW 1 5 s&&dW 0 999999999999 l)=true then (Gc s l,true) else ([],false)
structure ZJ (n:am) (s:Int) (l:List Int):Prop where
 bv:0<l.length
 len:l.length<=40
 acc:jT n s l=true/\jU n s l=true
 bits:∃k:Nat,Kg l=((k:Int),true)/\k<=32/\(s=1->k<=1)/\(s=2->k<=2)
 own:∀(v:Nat) (x:Int),l[v]?=some x->eR n s l (v:Int) 1000=true/\(x<=1000->x∈iZ n s l (v:Int) 1000)
 K5:∀(v:Nat) (x:Int),l[v]?=some x->(VB s x).2=true/\ZI s (VB s x).1=(x,true)
theorem r_ (v:Value) (L:Nat) (w:World) (h:EH w v L) (hL:L<=1048576):
  Calls Tryz.prog 13 #[v] w fun e w'=>(∃x:Nat,e=.returned (.int .i64 x)/\x<1000003)/\w=w':=by
 obtain⟨A,c,rfl,er,hm,hA⟩:=h;unfold maxLen at hm;have HA:=zh hA;clear hA
 go_enter Tryz.func13,Tryz.ntmps13
 go_wp2
 go_loopw [3,8] (fun s i wr=>∃k q:Nat,k<=L/\q<1000003/\i=.int .i64 k/\s=.int .i64 q/\wr=w) (fun _ i _=>L-(intOf i).toNat)
 case atStart=>exact⟨0,0,Nat.zero_le _,by omega,rfl,rfl,rfl⟩
 case round=>
  obtain⟨k,q,hk,hq,rfl,rfl,rfl⟩:=hrel
  by_cases aH:k<L
  ·have m3:IntKind.i64.wrap ((k:Int)+1)=(k:Int)+1:=aR _ (by omega) (by omega);obtain⟨b,off,x,rfl,hc,h0,h1⟩:=HA.out k aH;obtain⟨y,rfl⟩:=Int.eq_ofNat_of_zero_le h0;obtain⟨z,hz⟩:∃z,z=(31*q+y)%1000003:=⟨_,rfl⟩
   have cj:z<1000003:=by rw[hz];exact Nat.mod_lt _ (by omega)
   obtain⟨a,ha⟩:∃a,a=31*q:=⟨_,rfl⟩
   obtain⟨d,hd⟩:∃d,d=a+y:=⟨_,rfl⟩
   have m4:IntKind.i64.wrap (31*(q:Int))=(a:Int):=by rw[aR _ (by omega) (by omega)];omega
   have m5:IntKind.i64.wrap (y:Int)=(y:Int):=aR _ (by omega) (by omega)
   have m6:IntKind.i64.wrap ((a:Int)+(y:Int))=(d:Int):=by rw[aR _ (by omega) (by omega)];omega
   have m7:Int.tmod (d:Int) 1000003=(z:Int):=by rw[Int.tmod_eq_emod_of_nonneg (by omega)];rw[hz,hd,ha];simp
   have m8:(d:Int)%1000003=(z:Int):=by rw[hz,hd,ha];simp
   have m9:IntKind.i64.wrap (z:Int)=(z:Int):=aR _ (by omega) (by omega);clear hz ha hd h0 h1;go_wp2;go_roundw
   case rel=>exact⟨k+1,z,by omega,cj,by first | rfl | go_num,by first | rfl | go_num,by first | rfl | trivial⟩
   case measure=>simp[intOf];omega
  ·go_wp2;go_ret;exact⟨⟨q,rfl,hq⟩,rfl⟩
theorem sa (v u:Value) (xs ys:List Int) (w:World) (h:aG w v xs) (h':aG w u ys):
  Calls Tryz.prog 9 #[v,u] w fun e w'=>e=.returned (.bool (decide (xs=ys)))/\∃m,w'=w.drewN m:=by
 obtain⟨A,c,rfl,er,hm,hA⟩:=h;obtain⟨B,d,rfl,Uh,mX,hB⟩:=h';unfold maxLen at hm mX;have HA:=zh hA;have HB:=zh hB;clear hA hB
 by_cases hl:xs.length=ys.length
 ·have Hl:=zh hl;have vu:xs.length<=ys.length:=by omega
  have qL:ys.length<=xs.length:=by omega
  have hb:((xs.length:Int) != (ys.length:Int))=false:=by simp[hl]
  clear hl
  go_enter Tryz.func9,Tryz.ntmps9
  go_wp2
  go_loopw [13] (fun i wr=>∃k n:Nat,k<=xs.length/\i=.int .i64 k/\xs.take k=ys.take k/\wr=w.drewN n) (fun i _=>xs.length-(intOf i).toNat)
  case atStart=>exact⟨0,0,Nat.zero_le _,rfl,by simp,rfl⟩
  case round=>
   obtain⟨k,n,hk,rfl,xy,rfl⟩:=hrel;have p9:=zh xy;clear xy
   by_cases aH:k<xs.length
   ·obtain⟨x,hx⟩:=ax xs k aH;obtain⟨y,hy⟩:=ax ys k (by omega);obtain⟨b,off,rfl,bW⟩:=HA.out k x hx;obtain⟨b',ru,rfl,Gb⟩:=HB.out k y hy;have Hx:=zh hx;have Hy:=zh hy;clear hx hy;cases z8:(x != y)
    all_goals
     have Jm:=zh z8;go_wp2
     go_quiet (fail)
     go_wp2
    ·go_roundw
     case rel=>exact⟨k+1,_,by omega,by go_num,by rw[aK Hx.out,aK Hy.out,p9.out,show x=y by simpa using Jm.out],rfl⟩
     case measure=>simp[intOf];omega
    ·go_ret;refine⟨az (decide_eq_false fun e=>?_),VV _ _ _⟩
     have h1:=Hx.out;rw[e,Hy.out]at h1;have h2:=Jm.out;simp at h1 h2
     exact h2 h1.symm
   ·go_wp2;go_ret;exact⟨cB (decide_eq_true (su Hl.out p9.out aH)),_,rfl⟩
 ·have hb:((xs.length:Int) != (ys.length:Int))=true:=by simp;omega
  have Hl:=zh hl;clear hl
  go_enter Tryz.func9,Tryz.ntmps9
  go_wp2;go_ret;exact⟨az (decide_eq_false fun e=>Hl.out (by rw[e])),0,rfl⟩
theorem xj (v u:Value) (xs ys:List Int) (w:World) (h:aG w v xs) (h':aG w u ys):
  Calls Tryz.prog 9 #[v,u] w fun e w'=>e=.returned (.bool (JT xs ys))/\Below w.heap.size w w':=(sa v u xs ys w h h').mono fun _ _ ⟨he,m,hm⟩=>⟨he,by rw[hm];exact below_drewN (Below.refl _ _) m⟩
theorem kH (v u:Value) (xs:List Int) (w:World) (h:aG w v xs) (h':aG w u xs):
  Calls Tryz.prog 9 #[v,u] w fun e w'=>e=.returned (.bool true)/\Below w.heap.size w w':=
 (xj v u xs xs w h h').mono fun e w' ⟨he,hb⟩=>⟨by rw[he];simp[JT],hb⟩
def zm (a b:Nat):Bool:=decide (1048576<a)||decide (1048576<a+b)
theorem EL (A B:Option Addr) (a c b d:Nat) (w:World) (hc:a<=9223372036854775807) (hd:b<=9223372036854775807):
  Calls Tryz.prog 5 #[.slice A a c,.slice B b d] w fun e w'=>e=.returned (.bool (zm a b))/\w=w':=by
 go_enter Tryz.func5,Tryz.ntmps5
 by_cases h:1048576<a
 ·have e1:((1048576:Int)<(a:Int))=True:=by simp;omega
  go_wp2;go_ret
  exact⟨by unfold zm;simp[h],rfl⟩
 ·have e1:((1048576:Int)<(a:Int))=False:=by simp;omega
  have m1:IntKind.i64.wrap (1048576-(a:Int))=1048576-(a:Int):=aR _ (by omega) (by omega)
  by_cases h2:1048576<a+b
  ·have e2:(1048576-(a:Int)<(b:Int))=True:=by simp;omega
   go_wp2;go_ret
   exact⟨by unfold zm;simp[h2],rfl⟩
  ·have e2:(1048576-(a:Int)<(b:Int))=False:=by simp;omega
   go_wp2;go_ret
   exact⟨by unfold zm;simp[h,h2],rfl⟩
open Go.ChangeShapes Go.WideShapes Go.ChangeAt Go.RowKit
theorem open_bytes {H:Type} {enc:TypeId×Value->H} {W:World} {r:Reach} {b0:Nat} {v:Value} {d:DataW H} {p:List MemPlace}
  (hv:Value.okWide Tryz.prog W r b0 22 v) (h:DataW.Trod enc Tryz.prog W 0 (fun _=>true) true 22 v d p):∃L,EH W v L:=by
 obtain⟨a0,R9,MS,rfl⟩:=okWide_slice Tryz.underlying22 hv;obtain⟨hG,hf⟩:=h;rcases open_ints Tryz.underlying22 Tryz.underlying5 (by kernel_rfl) hf with⟨ut,_⟩ | ⟨x,l,c,zs,ut,_,hl,hm,hz,_,bW,ZK⟩
 ·simp[Value.cells]at ut
  obtain⟨rfl,rfl,rfl⟩:=ut
  exact⟨0,none,0,rfl,Nat.le_refl _,by unfold maxLen;omega,fun k hk=>by omega⟩
 ·simp[Value.cells]at ut
  obtain⟨rfl,rfl,rfl⟩:=ut;have hz':zs.length=MS:=by simpa using hz
  refine⟨R9,some x,MS,rfl,hl,hm,fun k hk=>?_⟩
  have nT:k<zs.length:=by omega
  have hc:=bW k nT
  have hb:=bounds_u8 (ZK (zs.getD k 0) (by rw[zDd,List.getElem?_eq_getElem nT];exact List.getElem_mem nT))
  have h0:=bW 0 (by omega);obtain⟨bl,off,R_⟩:=x
  cases R_ with
  | none=>
   refine⟨bl,off,zs.getD k 0,rfl,?_,hb.1,by omega⟩
   by_cases IV:k=0
   ·subst IV;simpa[Addr.add]using hc
   ·simpa[Addr.add,IV]using hc
  | some q=>simp[World.cell?,Addr.add]at h0;split at h0 <;> simp at h0
theorem xk (ve vi vn:Value) (n:am) (w:World) (h:aI w ve vi vn n) (dM:ij n<=1048576):
  Calls Tryz.prog 7 #[.agg #[ve,vi,vn]] w fun e w'=>∃u,e=.returned (.tuple #[u,.bool (aw n)])/\Own w' w.heap.size u (if aw n=true then jv n else [])/\Below w.heap.size w w':=by
 cases hq:aw n
 ·have Hq:=zh hq;have qh:=iG dM
  obtain⟨w0,A,c,A2,c2,A3,c3,rfl,rfl,rfl,er,hm,et,fG,HA,bM,aY,H,e8,fh,fi⟩:=zB h;clear h
  have aX:aa w0 w0:=ab _;clear hq
  go_enter Tryz.func7,Tryz.ntmps7
  go_upto_region 1 with(fail);rw[<- bM.out];go_wp2_with fail;refine(dK _ _ _ n w0 H.out qh).mono ?_;rw[Hq.out];rintro e w1 ⟨rfl,aJ⟩;have iu:=zh (show aa w0 w1 from aJ);clear aJ aX;go_wp2
  go_ret2
  exact⟨_,rfl,fT _ _,aa.after aY.out iu.out⟩
 ·refine(wU ve vi vn n w h hq dM).mono ?_;rintro e w' ⟨u,rfl,ho,hb⟩
  exact⟨u,rfl,by rw[if_pos rfl];exact ho,hb⟩
def fK (n:am) (f:Nat->Nat->Int) (k:Nat):List (List Int):=(List.range k).map fun v=>(List.range (n.ends.getD v []).length).map (f v)
theorem pP (n:am) (f:Nat->Nat->Int) (k:Nat):fK n f (k+1)=fK n f k++[(List.range (n.ends.getD k []).length).map (f k)]:=by simp[fK,List.range_succ]
theorem eh (f:Nat->Int) (k:Nat):(List.range (k+1)).map f=(List.range k).map f++[f k]:=by simp[List.range_succ]
def EM (n:am) (v i:Nat):Int:=ed ((jv n).getD v 0) i
def qy (s:List Int) (v:Nat) (es:List (Int×Int)) (i:Nat):Bool:=!s.contains (v:Int) && !jW s es i
theorem zn {s:List Int} {es:List (Int×Int)} {i:Nat} {e:Int×Int} (he:es[i]?=some e):jW s es (i+1)=(jW s es i && !s.contains e.1):=by
 unfold jW;rw[aK he,List.any_append];simp
theorem fnSolvedBySets_walk (w:World) (v1:Value) (L1:Nat) (h1:EH w v1 L1) (v2:Value) (L2:Nat) (h2:EH w v2 L2):
  Calls Tryz.prog 3 #[v1,v2] w fun e w'=>e=.returned (.bool true)/\Below w.heap.size w w':=by
 obtain⟨A1,a1,IX,vu,tb,-⟩:=id h1;obtain⟨A2,a2,Fs,qL,et,-⟩:=id h2;subst IX Fs;unfold maxLen at tb et;have H1:=zh h1;have H2:=zh h2;clear h1 h2
 go_enter Tryz.func3,Tryz.ntmps3
 go_wp2_with fail;refine(EL A1 A2 L1 a1 L2 a2 w (by omega) (by omega)).mono ?_;rintro e wz ⟨rfl,rfl⟩;cases hb:zm L1 L2
 rotate_left
 ·go_wp2;go_ret;exact⟨rfl,Below.refl _ _⟩
 have hL:L1<=1048576/\L2<=1048576:=by
  unfold zm at hb;simp at hb
  omega
 go_wp2_with fail;refine(js _ L1 w H1.out hL.1).mono ?_;rintro e w1 ⟨ve,vi,vn,N,S,rfl,ho,EK,aJ⟩;obtain⟨D0,d0,rfl,-,ZL,-⟩:=id ho.read.1;obtain⟨D1,d1,rfl,-,-,-⟩:=id ho.read.2.1;obtain⟨D2,d2,rfl,-,-,-⟩:=id ho.read.2.2;obtain⟨w2,eY⟩:∃z,z=w1.alloc (.cells #[.slice D0 N.ends.length d0,.slice D1 N.ids.length d1,.slice D2 N.aaa.length d2] 27):=⟨_,rfl⟩
 obtain⟨pb,dy⟩:∃z,z=w1.heap.size:=⟨_,rfl⟩
 have iK:aa w1 w2:=by rw[eY];exact ae _ (ab _)
 have dx:aS w2 pb (.slice D0 N.ends.length d0) (.slice D1 N.ids.length d1) (.slice D2 N.aaa.length d2):=by rw[eY,dy];exact aS.new _ _ _ _ _
 have hN:=ho.read.aab iK.below;have HN:=zh (show ∀W,aa w2 W->aI W (.slice D0 N.ends.length d0) (.slice D1 N.ids.length d1) (.slice D2 N.aaa.length d2) N from fun W hW=>hN.aab hW.below)
 have EO:=zh (ad dx.cells.1);have F9:=zh (ad dx.cells.2.1);have F_:=zh (ad dx.cells.2.2.1);have JK:Hid (Below w.heap.size w w2):=Below.trans aJ (iK.below.mono aJ.size);have tk:=zh eY;have cA:=zh dy;have li:=zh EK.small.sz;have Dd:=zh (iG EK.small.sz);obtain⟨q,hq⟩:∃z,aw N=z:=⟨_,rfl⟩
 obtain⟨M,hM⟩:∃z,z=(if q=true then jv N else []):=⟨_,rfl⟩
 have ZM:=zh (show ∀W,aa w2 W->Calls Tryz.prog 7 #[.agg #[.slice D0 N.ends.length d0,.slice D1 N.ids.length d1,.slice D2 N.aaa.length d2]] W fun e w'=>∃u,e=.returned (.tuple #[u,.bool q])/\Own w' W.heap.size u M/\Below W.heap.size W w' from fun W hW=>by
  have hc:=xk _ _ _ N W (HN.out W hW) li.out;rw[hq,<- hM]at hc
  exact hc)
 have On:=zh (show ∀W,aa w2 W->Calls Tryz.prog 8 #[.agg #[.slice D0 N.ends.length d0,.slice D1 N.ids.length d1,.slice D2 N.aaa.length d2]] W fun e w'=>∃u,e=.returned (.tuple #[u,.bool q])/\Own w' W.heap.size u M/\Below W.heap.size W w' from fun W hW=>by
  have hc:=wX _ _ _ N W (HN.out W hW);rw[hq,<- hM]at hc
  exact hc)
 have dS:aa w2 w2:=ab _;have Hq:=zh hq;have HM:=zh hM;clear ho EK aJ eY dy iK dx hN hq hM;go_upto_region 4 with(fail);rw[<- tk.out,<- cA.out];have p0:=EO.out w2 dS;have p1:=F9.out w2 dS;have p2:=F_.out w2 dS;go_wp2_with fail;refine(ZM.out w2 dS).mono ?_;rintro e w3 ⟨u3,rfl,fU,aZ⟩;obtain⟨Q3,q3,rfl,-,Sa,-⟩:=id fU.ints;have kQ:=zh (show aa w2 w3 from aZ);have HI:=zh (show ∀W,aa w3 W->aG W (.slice Q3 M.length q3) M from fun W hW=>fU.ints.aab hW.below)
 clear p0 p1 p2 fU aZ dS;have p0:=EO.out w3 kQ.out;have p1:=F9.out w3 kQ.out;have p2:=F_.out w3 kQ.out;go_wp2_with fail;refine(On.out w3 kQ.out).mono ?_;rintro e w4 ⟨u4,rfl,lh,my⟩;obtain⟨Q4,q4,rfl,-,Sb,-⟩:=id lh.ints;have MT:=zh (show aa w3 w4 from my);have ZN:=zh (show ∀W,aa w4 W->aG W (.slice Q4 M.length q4) M from fun W hW=>lh.ints.aab hW.below)
 clear p0 p1 p2 lh my;unfold maxLen at Sa Sb;go_upto_region 6 with(fail)
 go_cut [62]from 54 to 62 (fun t wx=>t=.bool false/\aa w4 wx)
 case first=>
  have oX:=kH _ _ M w4 (HI.out w4 MT.out) (ZN.out w4 (ab _));have Aw:=zh oX;clear oX;cases q
  ·go_wp2_with fail;refine Aw.out.mono ?_;rintro e w7 ⟨rfl,nC⟩;have Sc:=zh (show aa w4 w7 from nC);clear nC;go_wp2;go_meet
   case rel=>exact⟨by first | rfl | simp,Sc.out⟩
  ·go_wp2_with fail;refine Aw.out.mono ?_;rintro e w7 ⟨rfl,nC⟩;have Sc:=zh (show aa w4 w7 from nC);clear nC;go_wp2;go_meet
   case rel=>exact⟨by first | rfl | simp,Sc.out⟩
 case rest=>
 obtain⟨rfl,BJ⟩:=hcut;obtain⟨w5,rfl⟩:∃z,z=wc:=⟨_,rfl⟩
 have MU:=zh (MT.out.after BJ);have F4:=zh (kQ.out.after MU.out);clear BJ;cases q
 ·have uF:Hid (Below w.heap.size w w5):=Below.trans JK.out (F4.out.below.mono JK.out.size);go_wp2;go_ret;exact⟨rfl,uF.out⟩
 have Oj:M=jv N:=by rw[HM.out,if_pos rfl]
 subst Oj;have GQ:(jv N).length=N.ends.length:=(q_ Hq.out).len;obtain⟨K,hK⟩:∃z,z=N.ends.length:=⟨_,rfl⟩
 have hK1:1<=K:=by rw[hK];exact(dj Hq.out).1
 have ZO:K<=40:=by rw[hK];exact(dj Hq.out).2
 have HK:=zh hK;obtain⟨ml,C6⟩:∃z,z=(jv N).length:=⟨_,rfl⟩
 rw[<- C6]at HI;have MV:ml=K:=by rw[C6,GQ,hK]
 have F3:=zh MV
 have MW:Hid (∀W,aa w2 W->W.cell? ⟨pb,0,none⟩=some (.slice D0 K d0)):=by rw[hK];exact EO.out
 have p0:=MW.out w5 F4.out;clear GQ hK C6 MV
 go_wp2_with (at_make;refine rr _ rfl _ _ rfl _ _ K rfl rfl rfl rfl (by omega) ?_;intro w6 eu rX ZP)
 obtain⟨g,hg⟩:∃g,g=w5.heap.size:=⟨_,rfl⟩
 have y8:Hid (Own w6 w5.heap.size (.slice (some ⟨w5.heap.size,0,none⟩) K K) (List.replicate K 0)):=eu;have FW:=zh (show aa w5 w6 from rX);clear eu rX ZP p0;have mK1:IntKind.i64.wrap ((K:Int)-1)=(K:Int)-1:=aR _ (by omega) (by omega)
 go_loopw [71] (fun i wr=>∃k:Nat,k<=K/\i=.int .i64 k/\Own wr w5.heap.size (.slice (some ⟨w5.heap.size,0,none⟩) K K) ((aF K).take k++List.replicate ((aF K).length-k) 0)/\aa w5 wr) (fun i _=>K-(intOf i).toNat)
 case atStart=>exact⟨0,by omega,by first | rfl | go_num,by rw[List.take_zero,bz];exact y8.out,FW.out⟩
 case round=>
  obtain⟨k,hk,rfl,xK,dz⟩:=hrel;have A0:=zh xK;have fQ:=zh dz;clear xK dz
  by_cases aH:k<K
  ·have m3:IntKind.i64.wrap ((k:Int)+1)=(k:Int)+1:=aR _ (by omega) (by omega)
   have m4:IntKind.i64.wrap ((K:Int)-1-(k:Int))=((K-1-k:Nat):Int):=by rw[aR _ (by omega) (by omega)];omega
   obtain⟨x,hx⟩:∃x,x=K-1-k:=⟨_,rfl⟩
   rw[<- hx]at m4;have i8:=gZ aH;rw[<- hx]at i8
   have zx:((aF K).take k++List.replicate ((aF K).length-k) 0).length=K:=by rw[List.length_append,List.length_take,List.length_replicate,bz];omega
   obtain⟨y,hy⟩:=ax ((aF K).take k++List.replicate ((aF K).length-k) (0:Int)) k (by rw[zx];exact aH)
   have c1:=A0.out.cell hy;have f1:=A0.out.free k;have mH:Hid (((aF K).take k++List.replicate ((aF K).length-k) 0).set k (x:Int)=(aF K).take (k+1)++List.replicate ((aF K).length-(k+1)) 0):=oc 0 _ k _ i8;clear i8 zx hy hx;go_wp2;go_roundw
   case rel=>exact⟨k+1,by omega,by first | rfl | go_num,by rw[<- mH.out];exact A0.out.set (k:=k) (x:Int),Below.setCell fQ.out (Nat.le_refl _) _⟩
   case measure=>simp[intOf];omega
  ·obtain rfl:k=K:=by omega
   have VC:(aF k).take k++List.replicate ((aF k).length-k) 0=aF k:=by rw[bz,Nat.sub_self,List.take_of_length_le (by rw[bz];exact Nat.le_refl _),List.replicate_zero,List.append_nil]
   have fg:=A0.out;rw[VC]at fg;obtain⟨wo,rfl⟩:∃z,z=wr:=⟨_,rfl⟩
   have HO:=zh (show ∀W,aa wo W->aG W (.slice (some ⟨w5.heap.size,0,none⟩) (aF k).length k) (aF k)from fun W hW=>by
    have h9:=fg.ints.aab hW.below
    rw[bz];exact h9)
   have EP:=zh (show ∀W,aa wo W->aa w2 W from fun W hW=>F4.out.after (fQ.out.after hW))
   have Sd:=zh (show ∀W,aa wo W->aa w3 W from fun W hW=>MU.out.after (fQ.out.after hW))
   have Dc:aa wo wo:=ab _;obtain⟨SS,Oo⟩:∃z,z=db (yV N (aF k)):=⟨_,rfl⟩
   have ZQ:=zh (show ∀W,aa wo W->Calls Tryz.prog 10 #[.agg #[.slice D0 N.ends.length d0,.slice D1 N.ids.length d1,.slice D2 N.aaa.length d2],.slice (some ⟨w5.heap.size,0,none⟩) k k] W fun e w'=>∃u,e=.returned (.tuple #[u,.bool true])/\Own w' W.heap.size u SS/\Below W.heap.size W w' from fun W hW=>by
    have h9:=HO.out W hW;rw[bz]at h9;rw[Oo,HK.out]at *
    exact tY _ _ _ _ N W (HN.out W (EP.out W hW)) Hq.out Dd.out h9)
   have ZR:=zh (show ∀W,aa wo W->Calls Tryz.prog 11 #[.agg #[.slice D0 N.ends.length d0,.slice D1 N.ids.length d1,.slice D2 N.aaa.length d2],.slice (some ⟨w5.heap.size,0,none⟩) k k] W fun e w'=>∃u,e=.returned (.tuple #[u,.bool true])/\Own w' W.heap.size u SS/\Below W.heap.size W w' from fun W hW=>by
    have h9:=HO.out W hW;rw[bz]at h9;rw[Oo,HK.out]at *
    exact tZ _ _ _ _ N W (HN.out W (EP.out W hW)) Hq.out h9)
   have Se:=zh Oo;clear VC fg Oo;have p0:=EO.out wo (EP.out wo Dc);have p1:=F9.out wo (EP.out wo Dc);have p2:=F_.out wo (EP.out wo Dc);go_wp2_with fail;refine(ZQ.out wo Dc).mono ?_;rintro e w7 ⟨u7,rfl,Sf,nC⟩;obtain⟨Q7,q7,rfl,-,Sg,-⟩:=id Sf.ints;have EF:aa wo w7:=nC;have VD:=zh (show ∀W,aa w7 W->aG W (.slice Q7 SS.length q7) SS from fun W hW=>Sf.ints.aab hW.below)
   clear p0 p1 p2 Sf nC Dc;have p0:=EO.out w7 (EP.out w7 EF);have p1:=F9.out w7 (EP.out w7 EF);have p2:=F_.out w7 (EP.out w7 EF);go_wp2_with fail;refine(ZR.out w7 EF).mono ?_;rintro e w8 ⟨u8,rfl,JE,y_⟩;obtain⟨Q8,q8,rfl,-,Sh,-⟩:=id JE.ints;have MX:=zh (show aa w7 w8 from y_);have iz:=zh (EF.after (show aa w7 w8 from y_));have oX:=kH _ _ SS w8 (VD.out w8 MX.out) JE.ints;have Aw:=zh oX;unfold maxLen at Sg Sh;clear p0 p1 p2 JE y_ EF oX;go_wp2_with fail;refine Aw.out.mono ?_;rintro e w9 ⟨rfl,j5⟩;have Si:=zh (MX.out.after (show aa w8 w9 from j5));have zC:=zh (iz.out.after (show aa w8 w9 from j5));have HS:=zh (show ∀W,aa w9 W->aG W (.slice Q7 SS.length q7) SS from fun W hW=>VD.out W (Si.out.after hW))
   have ZS:=zh (show ∀W,aa w9 W->aG W (.slice Q3 ml q3) (jv N)from fun W hW=>HI.out W (Sd.out W (zC.out.after hW)))
   have xl:=zh (show ∀W,aa w9 W->aa w2 W from fun W hW=>EP.out W (zC.out.after hW))
   clear j5;obtain⟨K,rfl⟩:∃z,z=k:=⟨_,rfl⟩
   have p0:=MW.out w9 (xl.out w9 (ab _));go_upto_region 22 with(fail);clear p0
   go_loopw [16,17,110] (fun u v i wr=>∃j:Nat,j<=K/\i=.int .i64 j/\pM w9.heap.size wr u v (fK N (EM N) j) (fK N (dC N SS) j)/\(∀v':Nat,v'<j->∀i f,a8 N v' i f->f.1≠(v':Int))/\aa w9 wr) (fun _ _ i _=>K-(intOf i).toNat)
   case atStart=>exact⟨0,by omega,by first | rfl | go_num,⟨[],[],iP _ _,iP _ _,fun j hj=>by simp at hj⟩,fun v' hv=>by omega,ab _⟩
   case round=>
    obtain⟨j,hj,rfl,Sj,vG,dz⟩:=hrel;obtain⟨wo,rfl⟩:∃z,z=wr:=⟨_,rfl⟩
    have Htw:=zh Sj;have FA:=zh vG;have fQ:=zh dz;obtain⟨Sk,MY,EQ,ER,VE⟩:=Sj.ex;obtain⟨ZT,ZU,ZV,rfl⟩:=bA.one EQ;obtain⟨Sl,Sm,Sn,rfl⟩:=bA.one ER;have ES:=zh EQ;have MZ:=zh EQ.read;have M1:=zh ER.read;have M2:=zh ER;have VF:=zh VE;clear Sj vG EQ ER VE
    by_cases aH:j<K
    ·obtain⟨es,ba⟩:=ax N.ends j (by rw[<- HK.out];exact aH)
     obtain⟨bE,oE,cE,uE,gn,A_,MD,CS⟩:=fo (HN.out w2 (ab _)).es ba
     injection gn with e1 e2 e3
     subst e1;obtain⟨AE,zE,rfl,cj,cX,ME⟩:=CS;unfold maxLen at cX;have de:=ad MD wo (xl.out wo dz);have RI:=zh ME;have kB:=zh ba;have Y9:es.length<=6:=(e9 Hq.out ba).1;have m3:IntKind.i64.wrap ((j:Int)+1)=(j:Int)+1:=aR _ (by omega) (by omega)
     obtain⟨mv,CH⟩:=ax (jv N) j (by rw[(q_ Hq.out).len,<- HK.out];exact aH)
     obtain⟨Aq,cq,eq,-,-,VG⟩:=ZS.out w9 (ab _)
     injection eq with eq1 eq2 eq3
     subst eq1;obtain⟨bq,oq,rfl,vK⟩:=VG j mv CH;have dm:=ad vK
     have Tg:j<(jv N).length:=by rw[(q_ Hq.out).len,<- HK.out];exact aH
     have ZW:Hid ((jv N).getD j 0=mv):=ag CH;clear MD ME ba VG vK CH eq2 eq3 e2 e3 A_;go_upto_region 27 with(fail);clear de
     go_loopw [20,21,22,117] (fun u v t i wr=>∃q:Nat,q<=es.length/\i=.int .i64 q/\t=.bool (qy SS j es q)/\mK wo.heap.size wr u v ((List.range q).map (EM N j)) ((List.range q).map (dC N SS j))/\(∀i' f,i'<q->es[i']?=some f->f.1≠(j:Int))/\aa wo wr) (fun _ _ _ i _=>es.length-(intOf i).toNat)
     case atStart=>exact⟨0,by omega,by first | rfl | go_num,by unfold qy jW;simp,⟨fT _ _,fT _ _,fun j hj=>by simp[Value.ownBlock]at hj⟩,fun i' f h=>by omega,ab _⟩
     case round=>
      obtain⟨q,hq,rfl,rfl,M3,VH,tT⟩:=hrel;obtain⟨xs,kj⟩:∃z,z=(List.range q).map (EM N j):=⟨_,rfl⟩
      obtain⟨ys,DA⟩:∃z,z=(List.range q).map (dC N SS j):=⟨_,rfl⟩
      rw[<- kj,<- DA]at M3
      have BV:xs.length=q:=by rw[kj];simp
      have JA:ys.length=q:=by rw[DA];simp
      have tF:=zh BV;have Ii:=zh JA;have Km:=zh kj;have M4:=zh DA;have Ga:=zh M3;have VI:=zh VH;have Cs:=zh tT;obtain⟨Sp,Sq,rfl,-,Sr,-⟩:=id M3.a.ints;obtain⟨ET,EU,rfl,-,Su,-⟩:=id M3.b.ints;unfold maxLen at Sr Su;obtain⟨wq,rfl⟩:∃z,z=wr:=⟨_,rfl⟩
      clear M3 VH kj DA BV JA
      by_cases Kv:q<es.length
      ·obtain⟨e,he⟩:=ax es q Kv;obtain⟨x,y⟩:=e;obtain⟨b5,o5,rfl,xg,xh⟩:=RI.out q _ he;simp only at xg xh
       have EV:aa w9 wq:=fQ.out.after tT;have t1:=ad xg wq (xl.out wq EV);have t2:=ad xh wq (xl.out wq EV);have m4:IntKind.i64.wrap ((q:Int)+1)=(q:Int)+1:=aR _ (by omega) (by omega);obtain⟨EW,C0⟩:∃z,z=wq.alloc (.cells #[.int .i64 x,.int .i64 y] 36):=⟨_,rfl⟩
       obtain⟨eb,nX⟩:∃z,z=wq.heap.size:=⟨_,rfl⟩
       have h8:aa wq EW:=by rw[C0];exact ae _ (ab _)
       have z0:EW.cell? ⟨eb,0,none⟩=some (.int .i64 x):=by rw[C0,nX];simp
       have ZX:EW.heap.size=eb+1:=by rw[C0,nX];simp
       have pV:=zh z0;have Sv:=zh C0;have H_:=zh nX;have EX:=zh (tT.after h8);have IP:=zh (Ga.out.since h8)
       have B7:∀(u:Value) (zs:List Int),Own wq wo.heap.size u zs->∀r,u.ownBlock=some r->(⟨eb,0,none⟩:Addr).block≠r:=fun u zs ho r hr=>by
        have:=(World.ownsRow.lt ho r hr).2
        show eb≠r
        omega
       have IQ:=zh (B7 _ _ Ga.out.a);have Sw:=zh (B7 _ _ Ga.out.b);have He:=zh he;have ZY:=zh EV;have dm8:=dm EW (fQ.out.after (tT.after h8));clear xg xh C0 nX h8 he B7 ZX EV tT;go_upto_region 29 with(fail);rw[<- Sv.out,<- H_.out];clear t1 t2
       by_cases gC:x=(j:Int)
       ·have g1:(x==(j:Int))=true:=by simp[gC]
        have fM:Hid (Below w.heap.size w EW):=Below.trans JK.out ((xl.out EW (fQ.out.after EX.out)).below.mono JK.out.size);clear gC;go_wp2;go_ret;exact⟨rfl,fM.out⟩
       ·have g1:(x==(j:Int))=false:=by rw[beq_eq_false_iff_ne];exact gC
        have pU:=zh gC;clear gC
        go_upto_block 6 with(fail)
        go_cut [20]from 130 to 147 (fun u wx=>mK wo.heap.size wx u (.slice ET ys.length EU) (xs++[ed mv q]) ys/\aa wo wx/\wx.cell? ⟨eb,0,none⟩=some (.int .i64 x))
        case first=>
         have dO:Hid (xs.length+1<=17592186044416):=by show _<=_;have:=tF.out;omega
         by_cases lz:mv<0
         ·have g2:decide (mv<0)=true:=decide_eq_true lz
          have jC:Hid (ed mv q=2):=by show _=_;unfold ed;rw[if_pos lz]
          clear lz z0
          go_wp2_with (at_builtin;refine g4 rfl _ _ rfl rfl (IP.out.since (ae _ (ab _))) EW.heap.size 2 rfl (by simp[go_sem]) dO.out (ae _ EX.out) rfl (p:=⟨eb,0,none⟩) (bc (aj _ _) pV.out) IQ.out ?_;intro g9 rf JL hT uq qw)
          go_meet
          case rel=>exact⟨by rw[jC.out];exact hT,uq,qw⟩
         ·have g2:decide (mv<0)=false:=decide_eq_false lz
          by_cases rW:mv=(q:Int)
          ·have g3:(mv==(q:Int))=true:=by simp[rW]
           have jC:Hid (ed mv q=0):=by show _=_;unfold ed;rw[if_neg lz,if_pos rW]
           clear lz rW z0
           go_wp2_with (at_builtin;refine g4 rfl _ _ rfl rfl (IP.out.since (ae _ (ab _))) EW.heap.size 0 rfl (by simp[go_sem]) dO.out (ae _ EX.out) rfl (p:=⟨eb,0,none⟩) (bc (aj _ _) pV.out) IQ.out ?_;intro g9 rf JL hT uq qw)
           go_meet
           case rel=>exact⟨by rw[jC.out];exact hT,uq,qw⟩
          ·have g3:(mv==(q:Int))=false:=by rw[beq_eq_false_iff_ne];exact rW
           have jC:Hid (ed mv q=1):=by show _=_;unfold ed;rw[if_neg lz,if_neg rW]
           clear lz rW z0
           go_wp2_with (at_builtin;refine g4 rfl _ _ rfl rfl (IP.out.since (ae _ (ab _))) EW.heap.size 1 rfl (by simp[go_sem]) dO.out (ae _ EX.out) rfl (p:=⟨eb,0,none⟩) (bc (aj _ _) pV.out) IQ.out ?_;intro g9 rf JL hT uq qw)
           go_meet
           case rel=>exact⟨by rw[jC.out];exact hT,uq,qw⟩
        case rest=>
        obtain⟨Dm,uq,qw⟩:=hcut;obtain⟨IR,rfl⟩:∃z,z=wc:=⟨_,rfl⟩
        obtain⟨VJ,EY⟩:∃z,z=xs++[ed mv q]:=⟨_,rfl⟩
        rw[<- EY]at Dm
        have EZ:Hid (VJ=(List.range (q+1)).map (EM N j)):=by show _=_;rw[EY,Km.out,eh];unfold EM;rw[ZW.out]
        have ZZ:Hid (VJ.length=q+1):=by show _=_;rw[EY,List.length_append,tF.out];rfl
        have Oq:=zh Dm;have Ot:=zh uq;have Ou:=zh qw;obtain⟨A22,c22,Sx,-,Sy,-⟩:=id Dm.a.ints;subst Sx;unfold maxLen at Sy
        have kD:Hid (ys.length+1<=17592186044416):=by show _<=_;have:=Ii.out;omega
        have Ov:Hid (∀r,(Value.slice ET ys.length EU).ownBlock=some r->(⟨eb,0,none⟩:Addr).block≠r):=Sw.out;obtain⟨cs,ut⟩:∃z,SS.contains (j:Int)=z:=⟨_,rfl⟩
        obtain⟨cx,Ah⟩:∃z,SS.contains x=z:=⟨_,rfl⟩
        obtain⟨fr,fX⟩:∃z,jW SS es q=z:=⟨_,rfl⟩
        have M5:qy SS j es q=(!cs && !fr):=by unfold qy;rw[ut,fX]
        have E0:Hid (qy SS j es (q+1)=(!cs && !(fr && !cx))):=by show _=_;unfold qy;rw[ut,zn He.out,fX,Ah]
        have yN:Hid (dC N SS j q=if cs=true then 0 else if (fr&&cx)=true then 1 else 2):=by
         show _=_
         unfold dC;rw[ut,show N.ends.getD j []=es from ag kB.out,fX,ag He.out,Ah]
        have Z0:=zh (show ∀W,aa w9 W->Calls Tryz.prog 12 #[.slice Q7 SS.length q7,.int .i64 (j:Int)] W fun e w'=>e=.returned (.bool cs)/\W=w' from fun W hW=>by
         have h9:=uk _ SS (j:Int) W (HS.out W hW);rw[ut]at h9
         exact h9)
        have Z1:=zh (show ∀W,aa w9 W->Calls Tryz.prog 12 #[.slice Q7 SS.length q7,.int .i64 x] W fun e w'=>e=.returned (.bool cx)/\W=w' from fun W hW=>by
         have h9:=uk _ SS x W (HS.out W hW);rw[Ah]at h9
         exact h9)
        have M6:Hid (aa w9 IR):=fQ.out.after uq;clear Dm uq ut Ah fX EY z0;rw[M5];clear M5
        have E3:Hid (∀i' f,i'<q+1->es[i']?=some f->f.1≠(j:Int)):=fun i' f h9 Ow=>by
         rcases Nat.lt_or_eq_of_le (Nat.le_of_lt_succ h9)with h11 | h11
         ·exact VI.out i' f h11 Ow
         ·subst h11;have iK:=Option.some.inj (Ow.symm.trans He.out);rw[iK];exact pU.out
        go_wp2_with fail;refine(Z0.out IR M6.out).mono ?_;rintro e wJ ⟨rfl,rfl⟩;cases cs
        ·cases fr
         ·have qL:Hid (dC N SS j q=2/\qy SS j es (q+1)=true):=by refine show _/\_ from⟨by rw[yN.out];rfl,by rw[E0.out];rfl⟩
          clear qw
          go_wp2_with (at_builtin;refine g4 rfl _ _ rfl rfl (Oq.out.swap.since (ae _ (ab _))) IR.heap.size 2 rfl (by simp[go_sem]) kD.out (ae _ Ot.out) rfl (p:=⟨eb,0,none⟩) (bc (aj _ _) Ou.out) Ov.out ?_;intro g9 rf JL hT uq qw)
          go_roundw
          case rel=>exact⟨q+1,by omega,by first | rfl | go_num,by rw[qL.out.2] <;> first | rfl | simp,by rw[<- EZ.out,eh,<- M4.out,qL.out.1];exact hT.swap,E3.out,uq⟩
          case measure=>simp[intOf];omega
         ·go_wp2_with fail;refine(Z1.out IR M6.out).mono ?_;rintro e wJ ⟨rfl,rfl⟩;cases cx
          ·have qL:Hid (dC N SS j q=2/\qy SS j es (q+1)=false):=by refine show _/\_ from⟨by rw[yN.out];rfl,by rw[E0.out];rfl⟩
           clear qw
           go_wp2_with (at_builtin;refine g4 rfl _ _ rfl rfl (Oq.out.swap.since (ae _ (ab _))) IR.heap.size 2 rfl (by simp[go_sem]) kD.out (ae _ Ot.out) rfl (p:=⟨eb,0,none⟩) (bc (aj _ _) Ou.out) Ov.out ?_;intro g9 rf JL hT uq qw)
           go_roundw
           case rel=>exact⟨q+1,by omega,by first | rfl | go_num,by rw[qL.out.2] <;> first | rfl | simp,by rw[<- EZ.out,eh,<- M4.out,qL.out.1];exact hT.swap,E3.out,uq⟩
           case measure=>simp[intOf];omega
          ·have qL:Hid (dC N SS j q=1/\qy SS j es (q+1)=true):=by refine show _/\_ from⟨by rw[yN.out];rfl,by rw[E0.out];rfl⟩
           clear qw
           go_wp2_with (at_builtin;refine g4 rfl _ _ rfl rfl (Oq.out.swap.since (ae _ (ab _))) IR.heap.size 1 rfl (by simp[go_sem]) kD.out (ae _ Ot.out) rfl (p:=⟨eb,0,none⟩) (bc (aj _ _) Ou.out) Ov.out ?_;intro g9 rf JL hT uq qw)
           go_roundw
           case rel=>exact⟨q+1,by omega,by first | rfl | go_num,by rw[qL.out.2] <;> first | rfl | simp,by rw[<- EZ.out,eh,<- M4.out,qL.out.1];exact hT.swap,E3.out,uq⟩
           case measure=>simp[intOf];omega
        ·have qL:Hid (dC N SS j q=0/\qy SS j es (q+1)=false):=by refine show _/\_ from⟨by rw[yN.out];rfl,by rw[E0.out];rfl⟩
         clear qw
         go_wp2_with (at_builtin;refine g4 rfl _ _ rfl rfl (Oq.out.swap.since (ae _ (ab _))) IR.heap.size 0 rfl (by simp[go_sem]) kD.out (ae _ Ot.out) rfl (p:=⟨eb,0,none⟩) (bc (aj _ _) Ou.out) Ov.out ?_;intro g9 rf JL hT uq qw)
         go_roundw
         case rel=>exact⟨q+1,by omega,by first | rfl | go_num,by rw[qL.out.2] <;> first | rfl | simp,by rw[<- EZ.out,eh,<- M4.out,qL.out.1];exact hT.swap,E3.out,uq⟩
         case measure=>simp[intOf];omega
      ·obtain rfl:q=es.length:=by omega
       have Ox:w9.heap.size<=wo.heap.size:=fQ.out.below.size;have VK:wo.heap.size<=wq.heap.size:=tT.below.size;have Z2:=zh (bA.aab ES.out tT.below);have Sz:=zh (bA.aab M2.out tT.below);have E4:∀r∈Sk,r<wo.heap.size:=fun r hr=>(bA.range ES.out r hr).2
       have E5:∀r∈MY,r<wo.heap.size:=fun r hr=>(bA.range M2.out r hr).2
       have Oy:∀r,(Value.slice Sp xs.length Sq).ownBlock=some r->wo.heap.size<=r/\r<wq.heap.size:=fun r hr=>World.ownsRow.lt Ga.out.a r hr
       have Oz:∀r,(Value.slice ET ys.length EU).ownBlock=some r->wo.heap.size<=r/\r<wq.heap.size:=fun r hr=>World.ownsRow.lt Ga.out.b r hr
       have Z3:Hid (∀r,(Value.slice Sp xs.length Sq).ownBlock=some r->r∉Sk):=fun r hr hm=>by have:=E4 r hm;have:=(Oy r hr).1;omega
       have SA:Hid (∀r,(Value.slice Sp xs.length Sq).ownBlock=some r->r∉MY):=fun r hr hm=>by have:=E5 r hm;have:=(Oy r hr).1;omega
       have Z4:Hid (∀r,(Value.slice ET ys.length EU).ownBlock=some r->r∉MY):=fun r hr hm=>by have:=E5 r hm;have:=(Oz r hr).1;omega
       have SB:Hid (∀r,(Value.slice ET ys.length EU).ownBlock=some r->r∉Sk):=fun r hr hm=>by have:=E4 r hm;have:=(Oz r hr).1;omega
       have Pl:Hid ((fK N (EM N) j).length+1<=4000000):=by show _<=_;unfold fK;simp;omega
       have Z5:Hid ((fK N (dC N SS) j).length+1<=4000000):=by show _<=_;unfold fK;simp;omega
       have Z6:=zh (Own.mono Ga.out.a Ox);have Z7:=zh (Own.mono Ga.out.b Ox);have VL:Hid (w9.heap.size<=wq.heap.size):=Nat.le_trans Ox VK;have SC:=zh (fQ.out.after tT);have SD:=zh E4;have SE:=zh E5;have Hrx:=zh Oy;have VM:=zh Oz;clear Ox VK E4 E5 Oy Oz tT
       go_upto_region 44 with(at_builtin;refine pL (base:=w9.heap.size) rfl _ _ rfl rfl (bA.aab Z2.out (aj _ _)) wq.heap.size rfl (by simp) (Own.since Z6.out (ae _ (ab _))) Z3.out Pl.out (Nat.le_trans VL.out (by simp)) ?_;intro g1 cc1 M7 S1 VN uy jA aJ)
       have D8:Hid (wq.heap.size<=M7.heap.size):=by show _<=_;have h9:=uy.size;simp at h9;omega
       have VO:dU M7 w9.heap.size (.slice Sl Sm Sn) (fK N (dC N SS) j) MY:=by
        refine bA.aac Sz.out fun r hr=>?_
        have h1:=SE.out r hr;have h2:=(bA.range Sz.out r hr).2
        rw[uy.block r (by simp;omega) (fun e=>VF.out r (lc ES.out e.symm) hr),(aj wq _).block r h2]
       have ay:Own M7 w9.heap.size (.slice ET ys.length EU) ys:=by
        refine aB Z7.out fun r hr=>?_
        have O4:(Value.slice ET ys.length EU).ownBlock=some r:=by simpa using hr
        obtain⟨h1,h2⟩:=VM.out r O4
        rw[uy.block r (by simp;omega) (fun e=>by have:=SD.out r (lc ES.out e.symm);omega),(aj wq _).block r h2]
       have OA:=zh VO;have Z8:=zh ay;have FC:=zh VN
       have Z9:Hid (∀r∈S1,r∉MY):=fun r hr hm=>by
        rcases jA r hr with h | h | h
        ·exact VF.out r h hm
        ·exact SA.out r h hm
        ·have:=(bA.range Sz.out r hm).2;simp at h;omega
       have SF:Hid (∀r,(Value.slice ET ys.length EU).ownBlock=some r->r∉S1):=fun r hr hm=>by
        rcases jA r hm with h | h | h
        ·exact SB.out r hr h
        ·exact Ga.out.ne r h hr
        ·have:=(VM.out r hr).2;simp at h;omega
       have iu:Hid (aa w9 M7):=Below.trans (ae _ SC.out).below aJ;clear VN uy jA aJ VO ay
       go_wp2_with (at_builtin;refine pL (base:=w9.heap.size) rfl _ _ rfl rfl (bA.aab OA.out (aj _ _)) M7.heap.size rfl (by simp) (Own.since Z8.out (ae _ (ab _))) Z4.out Z5.out (Nat.le_trans VL.out (by have:=D8.out;simp;omega)) ?_;intro g2 cc2 wr2 S2 Z_ xx vE hb2)
       go_roundw
       case rel=>
        have OB:fK N (EM N) (j+1)=fK N (EM N) j++[xs]:=by rw[pP,Km.out,ag kB.out]
        have OC:fK N (dC N SS) (j+1)=fK N (dC N SS) j++[ys]:=by rw[pP,M4.out,ag kB.out]
        refine⟨j+1,by omega,by first | rfl | go_num,?_,fun v' h9 i f hp=>?_,Below.trans (ae _ iu.out).below hb2⟩
        ·rw[OB,OC];exact(pM.left (r:=.slice ET ys.length EU) (bA.aab OA.out (aj _ _)) (bA.aab FC.out (aj _ _)) (fun r hr hm=>Z9.out r hm hr) Z_ xx vE SF.out).swap
        ·rcases Nat.lt_or_eq_of_le (Nat.le_of_lt_succ h9)with h11 | h11
         ·exact FA.out v' h11 i f hp
         ·subst h11
          have Jo:es[i]?=some f:=by have iK:=hp;unfold a8 at iK;rw[ag kB.out]at iK;exact iK
          exact VI.out i f (ai Jo) Jo
       case measure=>simp[intOf];omega
    ·obtain rfl:j=K:=by omega
     have SH:kU N:=fun v i f hp=>FA.out v (by have h9:=(fA Hq.out hp).1;have:=HK.out;omega) i f hp
     have IE:=Lf Hq.out SH;rw[<- HK.out]at IE
     have DX:∀v i w j':Nat,a8 N v i ((w:Int),(j':Int))->(v:Int)∈SS->(w:Int)∉SS:=fun v i w j' hp hv hw=>by
      rw[Se.out,mp]at hv hw;exact IE.ind v i w j' hp hv hw
     have BF:∀v:Nat,v<N.ends.length->(v:Int)∈SS\/nearIn N v SS=true:=fun v hv=>by
      rcases IE.max v (vT (by rw[HK.out];exact hv))with h9 | h9
      ·exact .inl (by rw[Se.out,mp];exact h9)
      ·obtain⟨i,f,Ow,h11⟩:=iT.1 h9
       exact .inr (iT.2 ⟨i,f,Ow,by rw[Se.out,mp];exact h11⟩)
     have OB:fK N (EM N) j=ge N (fun v i=>ed ((jv N).getD v 0) i):=by unfold fK ge;rw[HK.out];rfl
     have OC:fK N (dC N SS) j=ge N (dC N SS):=by unfold fK ge;rw[HK.out]
     obtain⟨TL,SI⟩:∃z,z=ge N (fun v i=>ed ((jv N).getD v 0) i):=⟨_,rfl⟩
     obtain⟨TK,SJ⟩:∃z,z=ge N (dC N SS):=⟨_,rfl⟩
     have SK:=MZ.out;have SM:=M1.out;rw[OB,<- SI]at SK;rw[OC,<- SJ]at SM;have H16:=zh (show ∀W,aa wo W->bw W (.slice ZT ZU ZV) TL from fun W hW=>SK.aab hW.below)
     have OA:=zh (show ∀W,aa wo W->bw W (.slice Sl Sm Sn) TK from fun W hW=>SM.aab hW.below)
     have SN:Hid (Below w.heap.size w wo):=Below.trans JK.out ((xl.out wo dz).below.mono JK.out.size);have xm:=zh (show ∀W,aa wo W->aa w2 W from fun W hW=>xl.out W (dz.after hW))
     have VP:=zh SH;have SO:=zh DX;have SQ:=zh BF;have HTL:=zh SI;have HTK:=zh SJ;clear SH IE DX BF OB OC SK SM SI SJ dz;go_wp2_with fail;refine(r_ _ L2 wo (H2.out.aab SN.out) hL.2).mono ?_;rintro e w' ⟨⟨x,rfl,hx⟩,rfl⟩;obtain⟨r,hr⟩:∃r:Nat,r=x%4:=⟨_,rfl⟩
     have hr4:r<4:=by omega
     obtain⟨d,hd⟩:∃d:Nat,d=1+r:=⟨_,rfl⟩
     have M8:1<=d/\d<=4:=by omega
     have m5:((x:Int)).tmod (4:Int)=(r:Int):=by rw[hr,Int.tmod_eq_emod_of_nonneg (by omega)];simp
     have m6:((x:Int))%(4:Int)=(r:Int):=by rw[hr];simp
     have m7:IntKind.i64.wrap (r:Int)=(r:Int):=aR _ (by omega) (by omega)
     have m8:IntKind.i64.wrap (1+(r:Int))=(d:Int):=by rw[hd,aR _ (by omega) (by omega)];omega
     have Hd:=zh M8;clear hx hr hd hr4 M8;have qI:aa wo wo:=ab _;have bS:=qt d wo Hd.out;rw[show(lj d).labels=3 from rfl,show(lj d).degree=(d:Int)from rfl]at bS;have xE:=zh bS;clear bS;go_wp2_with fail;refine xE.out.mono ?_;rintro e wA ⟨pa,pc,rfl,uj,Gh⟩
     obtain⟨PA,na,ca,rfl⟩:∃A m c,pa=Value.slice A m c:=by obtain⟨A,c,h9,-⟩:=uj.1;exact⟨A,_,c,h9⟩
     obtain⟨PB,nb,cb,rfl⟩:∃A m c,pc=Value.slice A m c:=by obtain⟨A,c,h9,-⟩:=uj.2;exact⟨A,_,c,h9⟩
     obtain⟨wB,FB⟩:∃z,z=wA.alloc (.cells #[.int .i64 3,.int .i64 d,.slice PA na ca,.slice PB nb cb] 40):=⟨_,rfl⟩
     obtain⟨M9,IS⟩:∃z,z=wA.heap.size:=⟨_,rfl⟩
     have SU:aa wA wB:=by rw[FB];exact ae _ (ab _)
     have Fu:wB.heap[M9]?=some (.cells #[.int .i64 3,.int .i64 d,.slice PA na ca,.slice PB nb cb] 40 (0,0)):=by
      rw[FB,IS];show(wA.heap.push _)[wA.heap.size]?=_
      rw[Array.getElem?_push_size]
     have SV:=zh (ad (show wB.cell? ⟨M9,0,none⟩=some (.int .i64 3)by simp[World.cell?,Fu]))
     have yh:=zh (ad (show wB.cell? ⟨M9,1,none⟩=some (.int .i64 d)by simp[World.cell?,Fu]))
     have Gq:=zh (ad (show wB.cell? ⟨M9,2,none⟩=some (.slice PA na ca)by simp[World.cell?,Fu]))
     have SW:=zh (ad (show wB.cell? ⟨M9,3,none⟩=some (.slice PB nb cb)by simp[World.cell?,Fu]))
     have VQ:=zh (show ∀W,aa wB W->el W (.slice PA na ca) (.slice PB nb cb) (lj d)from fun W hW=>uj.aab (SU.after hW).below)
     have sr:=zh (show ∀W,aa wB W->aa wo W from fun W hW=>(show aa wo wA from Gh).after (SU.after hW))
     have HwB:=zh FB;have SX:=zh IS;clear uj Gh FB IS SU Fu qI;go_upto_region 48 with(fail);rw[<- HwB.out,<- SX.out];have bS:=pK d wB Hd.out;rw[show(uH d).labels=3 from rfl,show(uH d).degree=(d:Int)from rfl]at bS;have Jt:=zh bS;clear bS;go_wp2_with fail;refine Jt.out.mono ?_;rintro e wC ⟨pa,pc,rfl,uj,C3⟩
     obtain⟨PE,ne,ce,rfl⟩:∃A m c,pa=Value.slice A m c:=by obtain⟨A,c,h9,-⟩:=uj.1;exact⟨A,_,c,h9⟩
     obtain⟨PF,nf,cf,rfl⟩:∃A m c,pc=Value.slice A m c:=by obtain⟨A,c,h9,-⟩:=uj.2;exact⟨A,_,c,h9⟩
     obtain⟨wD,OD⟩:∃z,z=wC.alloc (.cells #[.int .i64 3,.int .i64 d,.slice PE ne ce,.slice PF nf cf] 40):=⟨_,rfl⟩
     obtain⟨M_,IT⟩:∃z,z=wC.heap.size:=⟨_,rfl⟩
     have SY:aa wC wD:=by rw[OD];exact ae _ (ab _)
     have Na:wD.heap[M_]?=some (.cells #[.int .i64 3,.int .i64 d,.slice PE ne ce,.slice PF nf cf] 40 (0,0)):=by
      rw[OD,IT];show(wC.heap.push _)[wC.heap.size]?=_
      rw[Array.getElem?_push_size]
     have HB0:=zh (ad (show wD.cell? ⟨M_,0,none⟩=some (.int .i64 3)by simp[World.cell?,Na]))
     have GB:=zh (ad (show wD.cell? ⟨M_,1,none⟩=some (.int .i64 d)by simp[World.cell?,Na]))
     have nD:=zh (ad (show wD.cell? ⟨M_,2,none⟩=some (.slice PE ne ce)by simp[World.cell?,Na]))
     have Kn:=zh (ad (show wD.cell? ⟨M_,3,none⟩=some (.slice PF nf cf)by simp[World.cell?,Na]))
     have HPi:=zh (show ∀W,aa wD W->el W (.slice PE ne ce) (.slice PF nf cf) (uH d)from fun W hW=>uj.aab (SY.after hW).below)
     have kJ:=zh (show ∀W,aa wD W->aa wB W from fun W hW=>(show aa wB wC from C3).after (SY.after hW))
     have HwD:=zh OD;have SZ:=zh IT;clear uj C3 OD IT SY Na
     have On:=zh (show ∀(W:World) (u:Value) (l:List (List Int)),aa wD W->bw W u l->eo (lj d) N l=true->jF (lj d) N l=true->Calls Tryz.prog 16 #[.agg #[.int .i64 3,.int .i64 d,.slice PA na ca,.slice PB nb cb],.agg #[.slice D0 N.ends.length d0,.slice D1 N.ids.length d1,.slice D2 N.aaa.length d2],u] W fun e w'=>e=.returned (.tuple #[.bool true,.bool true])/\Below W.heap.size W w' from fun W u l hW hu h1 h2=>by
      have h9:=j9 _ _ _ _ _ _ (lj d) N l W (VQ.out W (kJ.out W hW)) (HN.out W (xm.out W (sr.out W (kJ.out W hW)))) hu (CP Hd.out).1 Dd.out;rw[h1,h2]at h9
      exact h9)
     have HcT:=zh (show ∀(W:World),aa wD W->Calls Tryz.prog 16 #[.agg #[.int .i64 3,.int .i64 d,.slice PE ne ce,.slice PF nf cf],.agg #[.slice D0 N.ends.length d0,.slice D1 N.ids.length d1,.slice D2 N.aaa.length d2],.slice Sl Sm Sn] W fun e w'=>e=.returned (.tuple #[.bool true,.bool true])/\Below W.heap.size W w' from fun W hW=>by
      have h9:=j9 _ _ _ _ _ _ (uH d) N TK W (HPi.out W hW) (HN.out W (xm.out W (sr.out W (kJ.out W hW)))) (OA.out W (sr.out W (kJ.out W hW))) (CP Hd.out).2 Dd.out;obtain⟨h1,h2⟩:=G_ Hq.out SO.out SQ.out Hd.out;rw[<- HTK.out]at h1 h2;rw[h1,h2]at h9
      exact h9)
     obtain⟨st,fY⟩:∃z,z=av (lj d) N (dc N) 2000:=⟨_,rfl⟩
     obtain⟨FL,S_⟩:∃z,z=aD (lj d) N (dc N) 2000:=⟨_,rfl⟩
     obtain⟨cn,JG⟩:∃z,z=bn (lj d) N (dc N) 2000:=⟨_,rfl⟩
     have yH:=zh (CQ Hq.out VP.out Hd.out);rw[<- fY,<- S_]at yH
     have HcO:=zh (show ∀(W:World),aa wD W->Calls Tryz.prog 17 #[.agg #[.int .i64 3,.int .i64 d,.slice PA na ca,.slice PB nb cb],.agg #[.slice D0 N.ends.length d0,.slice D1 N.ids.length d1,.slice D2 N.aaa.length d2],.int .i64 2000] W fun e w'=>∃u S,e=.returned (.tuple #[u,.int .i64 st,.int .i64 cn])/\dU w' W.heap.size u FL S/\Below W.heap.size W w' from fun W hW=>by
      have h9:=ky _ _ _ _ _ (lj d) N 2000 W (VQ.out W (kJ.out W hW)) (HN.out W (xm.out W (sr.out W (kJ.out W hW)))) (by omega) (CP Hd.out).1 li.out
      unfold fC fD fE at h9
      rw[<- fY,<- S_,<- JG]at h9
      exact h9)
     have hg:=BE Hq.out VP.out Hd.out;rw[<- HTL.out]at hg;have Hg:=zh hg;clear fY S_ JG hg;have Dn:aa wD wD:=ab _;go_upto_region 49 with(fail);rw[<- HwD.out,<- SZ.out];have c0:=SV.out wD (kJ.out wD Dn);have c1:=yh.out wD (kJ.out wD Dn);have c2:=Gq.out wD (kJ.out wD Dn);have c3:=SW.out wD (kJ.out wD Dn);have p0:=EO.out wD (xm.out wD (sr.out wD (kJ.out wD Dn)));have p1:=F9.out wD (xm.out wD (sr.out wD (kJ.out wD Dn)));have p2:=F_.out wD (xm.out wD (sr.out wD (kJ.out wD Dn)));go_wp2_with fail;refine(On.out wD _ TL Dn (H16.out wD (sr.out wD (kJ.out wD Dn))) Hg.out.1 Hg.out.2).mono ?_;rintro e wE ⟨rfl,VR⟩;have zl:aa wD wE:=VR;clear c0 c1 c2 c3 p0 p1 p2 VR Dn;have c0:=HB0.out wE zl;have c1:=GB.out wE zl;have c2:=nD.out wE zl;have c3:=Kn.out wE zl;have p0:=EO.out wE (xm.out wE (sr.out wE (kJ.out wE zl)));have p1:=F9.out wE (xm.out wE (sr.out wE (kJ.out wE zl)));have p2:=F_.out wE (xm.out wE (sr.out wE (kJ.out wE zl)));go_wp2_with fail;refine(HcT.out wE zl).mono ?_;rintro e wF ⟨rfl,VS⟩;have Do:aa wD wF:=zl.after (show aa wE wF from VS);clear c0 c1 c2 c3 p0 p1 p2 VS zl;have c0:=SV.out wF (kJ.out wF Do);have c1:=yh.out wF (kJ.out wF Do);have c2:=Gq.out wF (kJ.out wF Do);have c3:=SW.out wF (kJ.out wF Do);have p0:=EO.out wF (xm.out wF (sr.out wF (kJ.out wF Do)));have p1:=F9.out wF (xm.out wF (sr.out wF (kJ.out wF Do)));have p2:=F_.out wF (xm.out wF (sr.out wF (kJ.out wF Do)));go_wp2_with fail;refine(HcO.out wF Do).mono ?_;rintro e wG ⟨uG,SG,rfl,Tc,VT⟩;obtain⟨AG,mG,cG,rfl⟩:=bA.one Tc;have E6:aa wD wG:=Do.after (show aa wF wG from VT);have HIG:=zh Tc.read;have Td:Hid (Below w.heap.size w wG):=Below.trans SN.out ((sr.out wG (kJ.out wG E6)).below.mono SN.out.size);clear c0 c1 c2 c3 p0 p1 p2 VT Do Tc
     by_cases bu:st=1
     ·have g1:(st==1)=true:=by simp[bu]
      obtain⟨k1,k2⟩:=yH.out.2 bu;have Hk:=zh (And.intro k1 k2);have c0:=SV.out wG (kJ.out wG E6);have c1:=yh.out wG (kJ.out wG E6);have c2:=Gq.out wG (kJ.out wG E6);have c3:=SW.out wG (kJ.out wG E6);have p0:=EO.out wG (xm.out wG (sr.out wG (kJ.out wG E6)));have p1:=F9.out wG (xm.out wG (sr.out wG (kJ.out wG E6)));have p2:=F_.out wG (xm.out wG (sr.out wG (kJ.out wG E6)));clear k1 k2 bu;go_wp2_with fail;refine(On.out wG _ FL E6 HIG.out Hk.out.1 Hk.out.2).mono ?_;rintro e wH ⟨rfl,VU⟩;have HbH:Hid (Below w.heap.size w wH):=Below.trans Td.out (Below.mono VU Td.out.size);clear c0 c1 c2 c3 p0 p1 p2 VU;go_wp2;go_ret;exact⟨by first | rfl | simp,HbH.out⟩
     ·have g1:(st==1)=false:=by rw[beq_eq_false_iff_ne];exact bu
      have h3:st=3:=yH.out.1.resolve_left bu;have g3:(st==3)=true:=by simp[h3]
      clear h3 bu;go_wp2;go_ret;exact⟨by first | rfl | simp,Td.out⟩
end Go.Proofs.YtgjggeapebbcbaaGreat
