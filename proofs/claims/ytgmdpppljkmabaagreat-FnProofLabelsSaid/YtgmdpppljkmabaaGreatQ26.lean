/- Parts of the proof: walks of functions and plain laws. -/
import Derived.Test.YtgmdpppljkmabaaGreatQ0
import Derived.Test.YtgmdpppljkmabaaGreatQ25
import Derived.Test.YtgmdpppljkmabaaGreatQ1
set_option maxRecDepth 100000
set_option maxHeartbeats 16000000
namespace Go.Proofs.YtgmdpppljkmabaaGreat
open Go Go.RowKit
theorem aaV {a m b mid n N:Nat} (LD:mid=(a+b)/2) (hn:n=mid+m) (TX:b<=N) (hl:N<=1000000) (Jn:a<m) (hmb:m<b):
  IntKind.i64.wrap ((a:Int)+(b:Int))=((a+b:Nat):Int)/\IntKind.u64.wrap ((a+b:Nat):Int)=((a+b:Nat):Int)/\wrap64 (((a+b:Nat):Int)/2)=(mid:Int)/\IntKind.i64.wrap ((mid:Int)+(m:Int))=(n:Int)/\IntKind.i64.wrap ((n:Int)-1)=((n-1:Nat):Int)/\0<n/\n<=2000000:=by
 refine⟨?_,wk _ (by omega),?_,?_,?_,by omega,by omega⟩
 ·rw[aF _ (by omega) (by omega)];omega
 ·rw[LD];exact wl (a+b) (by omega)
 ·rw[aF _ (by omega) (by omega)];omega
 ·rw[aF _ (by omega) (by omega)];omega
theorem Wl {s r:Nat} (h1:s<=1000000) (h2:r<=1000000):IntKind.i64.wrap ((s:Int)+(r:Int))=((s+r:Nat):Int)/\IntKind.u64.wrap ((s+r:Nat):Int)=((s+r:Nat):Int)/\wrap64 (((s+r:Nat):Int)/2)=(((s+r)/2:Nat):Int):=by
 refine⟨?_,wk _ (by omega),wl (s+r) (by omega)⟩
 rw[aF _ (by omega) (by omega)];omega
theorem ER {p q:Nat} (h:q<=p) (h2:p<=2000000):IntKind.i64.wrap ((p:Int)-(q:Int))=((p-q:Nat):Int):=by rw[aF _ (by omega) (by omega)];omega
theorem Ip {p:Nat} (h2:p<=2000000):IntKind.i64.wrap ((p:Int)+1)=((p+1:Nat):Int):=by rw[aF _ (by omega) (by omega)];omega
theorem Wm (a m b mid n:Nat):∃s0 r0,(mid<m/\s0=n-b/\r0=mid)\/(m<=mid/\s0=a/\r0=m):=by
 rcases Nat.lt_or_ge mid m with h | h
 ·exact⟨_,_,.inl ⟨h,rfl,rfl⟩⟩
 ·exact⟨_,_,.inr ⟨h,rfl,rfl⟩⟩
structure Cw (A U V B xs:List Int) (a m b mid n s0 r0 N:Nat):Prop where
 bd:EQ a m b mid n s0 r0
 hul:U.length=m-a
 hvl:V.length=b-m
 hal:A.length=a
 hxs:xs=A++(U++(V++B))
 hlen:xs.length=N
 hbn:b<=N
 aet:N<=1000000
theorem Cw.get {A U V B xs:List Int} {a m b mid n s0 r0 N:Nat} (h:Cw A U V B xs a m b mid n s0 r0 N) {c:Nat} (h1:s0<=c) (h2:c<r0):
  xs.getD c 0=U.getD (c-a) 0/\xs.getD (n-1-c) 0=V.getD (n-1-c-m) 0/\c-a<U.length/\n-1-c-m<V.length/\c<N/\n-1-c<N/\c<=n-1/\c<r0/\c+1<=1000000:=by
 obtain⟨hb,h3,h4,h5,h6,h7,h8,h9⟩:=h;obtain⟨e1,e2,e3,e4,e5⟩:=hb.at_ h1 h2;have lc:c=A.length+(c-a):=by omega
 have nY:n-1-c=A.length+U.length+(n-1-c-m):=by omega
 refine⟨?_,?_,by omega,by omega,by omega,by omega,by omega,h2,by omega⟩
 ·rw[h6];exact(congrArg (fun k=>List.getD _ k 0) lc).trans (AY (by omega))
 ·rw[h6];exact(congrArg (fun k=>List.getD _ k 0) nY).trans (PH (by omega))
structure ac6 (U V xs:List Int) (a m n pn i j N s c q c1:Nat):Prop where
 lo:i<=c
 hi:c<j
 up:i<=c1
 up2:c1<=j
 w1:IntKind.i64.wrap ((i:Int)+(j:Int))=(s:Int)
 w2:IntKind.u64.wrap (s:Int)=(s:Int)
 w3:wrap64 ((s:Int)/2)=(c:Int)
 w4:IntKind.i64.wrap ((pn:Int)-(c:Int))=(q:Int)
 w5:IntKind.i64.wrap ((c:Int)+1)=(c1:Int)
 g1:xs.getD c 0=U.getD (c-a) 0
 g2:xs.getD q 0=V.getD (q-m) 0
 u:c-a<U.length
 v:q-m<V.length
 cn:c<N
 qn:q<N
 k1:c1-1-a=c-a
 k2:n-c1-m=q-m
 k3:n-1-c-m=q-m
 mu1:j-c1<j-i
 mu2:c-i<j-i
theorem Cw.round {A U V B xs:List Int} {a m b mid n s0 r0 N pn i j:Nat} (h:Cw A U V B xs a m b mid n s0 r0 N) (Nk:pn=n-1) (hi:s0<=i) (hlt:i<j) (hj:j<=r0):∃s c q c1,ac6 U V xs a m n pn i j N s c q c1:=by
 obtain⟨c,hc⟩:∃z,z=(i+j)/2:=⟨_,rfl⟩
 have Af:i<=c/\c<j:=by rw[hc];exact Io hlt
 obtain⟨g1,g2,g3,g4,g5,g6,g7,g8,g9⟩:=h.get (c:=c) (Nat.le_trans hi Af.1) (Nat.lt_of_lt_of_le Af.2 hj)
 have np:n<=2000000:=by
  have h1:=h.bd.hn;have h2:=h.bd.rng.2.2.2.2;have h3:=h.hbn;have h4:=h.aet;have h5:=h.bd.hmb;omega
 have oD:r0<=1000000:=by
  have h2:=h.bd.rng.2.2.1;have h3:=h.hbn;have h4:=h.aet;have h5:=h.bd.hmb;omega
 have a1:i<=c+1/\c+1<=j/\i<=1000000/\j<=1000000/\n-1<=2000000/\c<=2000000:=by omega
 have a2:c+1-1-a=c-a/\n-(c+1)-m=n-1-c-m/\j-(c+1)<j-i/\c-i<j-i:=by omega
 have e:=Wl (s:=i) (r:=j) a1.2.2.1 a1.2.2.2.1;rw[<- hc]at e;subst Nk;exact⟨i+j,c,n-1-c,c+1,Af.1,Af.2,a1.1,a1.2.1,e.1,e.2.1,e.2.2,ER g7 a1.2.2.2.2.1,Ip a1.2.2.2.2.2,g1,g2,g3,g4,g5,g6,a2.1,a2.2.1,rfl,a2.2.2.1,a2.2.2.2⟩
theorem Cw.sel {A U V B xs:List Int} {a m b mid n s0 r0 N:Nat} (h:Cw A U V B xs a m b mid n s0 r0 N):(mid<m/\IntKind.i64.wrap ((n:Int)-(b:Int))=(s0:Int)/\r0=mid)\/(¬mid<m/\s0=a/\r0=m):=by
 obtain⟨⟨h1,h2,h3,h4,h5⟩,-,-,-,-,-,h8,h9⟩:=h;have h7:n<=2000000:=by omega
 rcases h5 with⟨q1,q2,q3⟩ | ⟨q1,q2,q3⟩
 ·have h6:b<=n:=by omega
  exact .inl ⟨q1,by rw[q2];exact ER h6 h7,q3⟩
 ·exact .inr ⟨Nat.not_lt.2 q1,q2,q3⟩
structure ac7 (A U V B xs:List Int) (a m b mid n s e N:Nat) (U1 U2 V1 V2:List Int):Prop where
 w:IntKind.i64.wrap ((n:Int)-(s:Int))=(e:Int)
 l1:a+U1.length=s
 l2:s+U2.length=m
 l3:m+V1.length=e
 l4:e+V2.length=b
 l5:s+V1.length=mid
 l6:mid+U2.length=e
 xs:xs=A++(U1++(U2++(V1++(V2++B))))
 u:U=U1++U2
 v:V=V1++V2
theorem Cw.fin {A U V B xs:List Int} {a m b mid n s0 r0 N s:Nat} {K:Int->Int} (h:Cw A U V B xs a m b mid n s0 r0 N) (h1:s0<=s) (h2:s<=r0) (hU:jE K U) (hV:jE K V)
  (hI:s=s0\/K (U.getD (s-1-a) 0)<=K (V.getD (n-s-m) 0)) (hJ:s=r0\/K (V.getD (n-1-s-m) 0)<K (U.getD (s-a) 0)):
  ∃e U1 U2 V1 V2,ac7 A U V B xs a m b mid n s e N U1 U2 V1 V2/\Par K U1 U2 V1 V2/\jE K U1/\jE K U2/\jE K V1/\jE K V2:=by
 have hp:=Sj h.bd hU hV h.hul h.hvl h1 h2 hI hJ;have he:=h.bd.end_ h1 h2;have hr:=h.bd.rng;have hul:=h.hul;have hvl:=h.hvl
 have np:n<=2000000:=by
  have h1:=h.bd.hn;have h3:=h.hbn;have h4:=h.aet;have h5:=h.bd.hmb;omega
 have hx:=h.hxs;refine⟨n-s,U.take (s-a),U.drop (s-a),V.take (n-s-m),V.drop (n-s-m),⟨ER he.2.2.2.2.1 np,?_,?_,?_,?_,?_,?_,?_,?_,?_⟩,hp,hU.sublist (List.take_sublist _ _),hU.sublist (List.drop_sublist _ _),hV.sublist (List.take_sublist _ _),hV.sublist (List.drop_sublist _ _)⟩
 ·rw[List.length_take];omega
 ·rw[List.length_drop];omega
 ·rw[List.length_take];omega
 ·rw[List.length_drop];omega
 ·rw[List.length_take];omega
 ·rw[List.length_drop];omega
 ·rw[hx];have q1:=List.take_append_drop (s-a) U;have q2:=List.take_append_drop (n-s-m) V
  conv=>lhs;rw[<- q1,<- q2]
  simp only[List.append_assoc]
 ·exact(List.take_append_drop _ _).symm
 ·exact(List.take_append_drop _ _).symm
theorem ed {p q:Prop} [Decidable p] [Decidable q]:(p/\q)\/(p/\¬q)\/¬p:=by
 by_cases hp:p
 ·by_cases hq:q
  ·exact .inl ⟨hp,hq⟩
  ·exact .inr (.inl ⟨hp,hq⟩)
 ·exact .inr (.inr hp)
theorem Cx (w0:World) (base g c N F:Nat) (gH:FuncId) (dF:Array Value) (K:Int->Int) (D:Int->Prop) (hc:JI w0 g gH dF K D) (hl:N<=1000000)
  (ih:∀(A U V B xs:List Int) (a m b:Nat) (w:World),xs=A++(U++(V++B))->Sd w0 w base g c xs->xs.length=N->A.length=a->a+U.length=m->m+V.length=b->0<U.length->0<V.length->jE K U->jE K V->(∀x∈U++V,D x)->U.length+V.length<=F ->
   Calls Tryz.prog 237 #[.slice (some ⟨g,0,none⟩) N c,.int .i64 a,.int .i64 m,.int .i64 b,.func (.func gH) #[] dF] w fun e w'=>e=.returned (.tuple #[])/\∃W,Sd w0 w' base g c (A++(W++B))/\W.Perm (U++V)/\jE K W)
  (A U V B xs:List Int) (a m b:Nat) (w:World) (hx:xs=A++(U++(V++B))) (hs:Sd w0 w base g c xs) (hN:xs.length=N) (ha:A.length=a) (hm:a+U.length=m) (hb:m+V.length=b) (hU:2<=U.length) (hV:2<=V.length) (sU:jE K U) (sV:jE K V) (hD:∀x∈U++V,D x) (hF:U.length+V.length<=F+1):
  Calls Tryz.prog 237 #[.slice (some ⟨g,0,none⟩) N c,.int .i64 a,.int .i64 m,.int .i64 b,.func (.func gH) #[] dF] w fun e w'=>e=.returned (.tuple #[])/\∃W,Sd w0 w' base g c (A++(W++B))/\W.Perm (U++V)/\jE K W:=by
 have eg:=hc.enter;have Xo:=zh ih;have Hc:=zh hc;have Hs:=zh hs;have HsU:=zh sU;have HsV:=zh sV;have HD:=zh hD
 have TX:b<=N:=by rw[<- hN,hx];simp only[List.length_append];omega
 obtain⟨mid,LD⟩:∃z,z=(a+b)/2:=⟨_,rfl⟩
 obtain⟨n,hn⟩:∃z,z=mid+m:=⟨_,rfl⟩
 obtain⟨s0,r0,bA⟩:=Wm a m b mid n;have hI:Cw A U V B xs a m b mid n s0 r0 N:=⟨⟨LD,hn,by omega,by omega,bA⟩,by omega,by omega,ha,hx,hN,TX,hl⟩
 have HF:=zh hF;have Jn:a<m:=by omega
 have hmb:m<b:=by omega
 have m1:IntKind.i64.wrap ((m:Int)-(a:Int))=((m-a:Nat):Int):=ER (by omega) (by omega);have m2:IntKind.i64.wrap ((b:Int)-(m:Int))=((b-m:Nat):Int):=ER (by omega) (by omega);obtain⟨ul,hul⟩:∃z,z=m-a:=⟨_,rfl⟩
 obtain⟨vl,hvl⟩:∃z,z=b-m:=⟨_,rfl⟩
 rw[<- hul]at m1;rw[<- hvl]at m2;have t0b:((ul:Int)==1)=false:=beq_eq_false_iff_ne.2 (by omega);have t1b:((vl:Int)==1)=false:=beq_eq_false_iff_ne.2 (by omega);obtain⟨d1,d3,d2,d4,d5,hn0,np⟩:=aaV LD hn TX hl Jn hmb;obtain⟨ab,te⟩:∃z,z=a+b:=⟨_,rfl⟩
 obtain⟨pn,Nk⟩:∃z,z=n-1:=⟨_,rfl⟩
 rw[<- te]at d1 d2 d3;rw[<- Nk]at d5;have HI:=zh hI;have Hpn:=zh Nk;have aaW:=hI.bd.rng;have Iq:=zh aaW;have j8:=hI.sel;clear hs sU sV hD bA hI hF hul hvl te Nk LD hn aaW ih hc hx hN ha hm hb hU hV
 go_enter Tryz.func237,Tryz.ntmps237
 go_upto_if 140 with(fail)
 go_cut [20,21]from 141 to 146 (fun t20 t21 wx=>t20=.int .i64 s0/\t21=.int .i64 r0/\wx=w)
 case first=>
  rcases j8 with⟨q1,q2,rfl⟩ | ⟨q1,rfl,rfl⟩
  ·have e0:((r0:Int)<(m:Int))=True:=by simp;omega
   go_wp2;go_meet
   case rel=>exact⟨rfl,by first | rfl | rw[d2],rfl⟩
  ·have e0:((mid:Int)<(r0:Int))=False:=by simp;omega
   go_wp2;go_meet
   case rel=>exact⟨rfl,rfl,rfl⟩
 case rest=>
  obtain⟨rfl,rfl,rfl⟩:=hcut;clear j8;go_upto_region 33 with(fail);rw[d2]
  go_loopw [20,21] (fun ti tj wr=>∃(i j:Nat),ti=.int .i64 i/\tj=.int .i64 j/\s0<=i/\i<=j/\j<=r0/\(i=s0\/K (U.getD (i-1-a) 0)<=K (V.getD (n-i-m) 0))/\(j=r0\/K (V.getD (n-1-j-m) 0)<K (U.getD (j-a) 0))/\Sd w0 wr base g c xs) (fun ti tj _=>(intOf tj).toNat-(intOf ti).toNat)
  case atStart=>exact⟨s0,r0,rfl,rfl,Nat.le_refl _,Iq.out.2.1,Nat.le_refl _,.inl rfl,.inl rfl,Hs.out⟩
  case round=>
   obtain⟨i,j,rfl,rfl,hi,CW,hj,hI,hJ,hs⟩:=hrel;have P4:=zh hI;have HJ:=zh hJ;have b_:=zh hs;clear hI hJ hs
   by_cases hlt:i<j
   ·obtain⟨s,h,q,MC,hR⟩:=HI.out.round Hpn.out hi hlt hj;have HR:=zh hR;obtain⟨-,-,-,-,e1,e3,e2,e4,e5,g1,g2,g3,g4,g5,g6,-,-,-,-,-⟩:=hR
    have c1:=b_.out.aei (k:=h) (by rw[HI.out.hlen];exact g5)
    have c2:=b_.out.aei (k:=q) (by rw[HI.out.hlen];exact g6)
    rw[g1]at c1;rw[g2]at c2;obtain⟨y,hy⟩:∃z,z=U.getD (h-a) 0:=⟨_,rfl⟩
    obtain⟨x,hx⟩:∃z,z=V.getD (q-m) 0:=⟨_,rfl⟩
    have hyU:y∈U:=by rw[hy];exact jY g3
    have WD:x∈V:=by rw[hx];exact jY g4
    rw[<- hy]at c1;rw[<- hx]at c2;have Hy:=zh hy;have Hx:=zh hx;have Hd:=zh (And.intro (HD.out y (by simp[hyU])) (HD.out x (by simp[WD])));clear hy hx hyU WD g1 g2 g3 g4;go_upto_region 35 with(fail);obtain⟨wo,rfl⟩:∃z,z=wr:=⟨_,rfl⟩
    refine cH (w0:=wo) 12 [false,false,false,false,false,false,false,false,false,false,false,true] (by kernel_rfl) (by kernel_rfl) (ad _) ?_;simp only[eE,ea,zT]
    iterate 6 (apply aR rfl;(intro W hW;go_simp;with_reducible rfl);simp only[zA])
    apply aR rfl;(intro W hW;have k1:=c2 W hW;go_simp;with_reducible rfl);simp only[zA]
    iterate 3 (apply aR rfl;(intro W hW;go_simp;with_reducible rfl);simp only[zA])
    apply aR rfl;(intro W hW;have k2:=c1 W hW;go_simp;with_reducible rfl);simp only[zA]
    intro W hW;refine Or.inl ⟨rfl,?_⟩
    go_simp
    (with_reducible refine(Hc.out.call x y Hd.out.2 Hd.out.1 W (b_.out.since hW).only).mono ?_)
    rintro e W' ⟨z,rfl,hz,hb⟩;refine⟨_,rfl,hW.after hb,?_⟩
    replace hW:=hW.after hb
    (try simp only[zA])
    simp only[bz];have ew:=zh (b_.out.since hW);clear hW hb c1 c2
    by_cases jG:K x<K y
    ·have d8:(z<0)=True:=by simp[hz.2 jG]
     have Hz:=zh hz;clear hz;go_wp2;go_roundw
     case rel=>exact⟨i,h,by first | rfl | go_num,by first | rfl | go_num,hi,HR.out.lo,Nat.le_trans (Nat.le_of_lt HR.out.hi) hj,P4.out,.inr (by rw[<- Hy.out,HR.out.k3,<- Hx.out];exact jG),ew.out⟩
     case measure=>exact HR.out.mu2
    ·have d8:(z<0)=False:=eq_false (fun h9=>jG (hz.1 h9))
     have Hz:=zh hz;clear hz;go_wp2;go_roundw
     case rel=>exact⟨MC,j,by first | rfl | go_num,by first | rfl | go_num,Nat.le_trans hi HR.out.up,HR.out.up2,hj,.inr (by rw[HR.out.k1,HR.out.k2,<- Hy.out,<- Hx.out];exact Int.not_lt.1 jG),HJ.out,ew.out⟩
     case measure=>exact HR.out.mu1
   ·obtain rfl:i=j:=Nat.le_antisymm CW (Nat.not_lt.1 hlt)
    obtain⟨e,U1,U2,V1,V2,hF,hP,su1,su2,sv1,sv2⟩:=HI.out.fin hi hj HsU.out HsV.out P4.out HJ.out;have e6:=hF.w;have fH:=zh hF;have HP:=zh hP;have Sm:=zh su1;have ES:=zh su2;have Sp:=zh sv1;have ET:=zh sv2;clear hF hP su1 su2 sv1 sv2;obtain⟨wo,rfl⟩:∃z,z=wr:=⟨_,rfl⟩
    go_upto_region 39 with(fail);obtain⟨r1,oD⟩:∃z:Bool,z=(decide (i<m)&&decide (m<e)):=⟨_,rfl⟩
    have qL:=zh oD;clear oD
    go_cut [185]from 178 to 185 (fun t wx=>t=.bool r1/\wx=wo)
    case first=>
     rcases ed (p:=i<m) (q:=m<e)with⟨b1,b2⟩ | ⟨b1,b2⟩ | b1
     ·have e9:r1=true:=by rw[qL.out];simp[b1,b2]
      go_wp2;go_meet
      case rel=>exact⟨by rw[e9],rfl⟩
     ·have e9:r1=false:=by rw[qL.out];simp[b2]
      go_wp2;go_meet
      case rel=>exact⟨by rw[e9],rfl⟩
     ·have e9:r1=false:=by rw[qL.out];simp[b1]
      go_wp2;go_meet
      case rel=>exact⟨by rw[e9],rfl⟩
    case rest=>
     obtain⟨dS,ks⟩:=hcut;subst dS;have qf:=ks.symm;clear ks;subst qf;cases r1
     ·have oD:=qL.out
      have hy:Sd w0 wo base g c (A++(U1++(V1++(U2++(V2++B))))):=by
       have q0:=fH.out
       have q1:U2=[]\/V1=[]:=by
        rcases ed (p:=i<m) (q:=m<e)with⟨b1,b2⟩ | ⟨b1,b2⟩ | b1
        ·simp[b1,b2]at oD
        ·right;exact List.eq_nil_of_length_eq_zero (by have:=q0.l3;omega)
        ·left;exact List.eq_nil_of_length_eq_zero (by have:=q0.l2;omega)
       have h9:=b_.out;rw[q0.xs]at h9;rcases q1 with q1 | q1
       ·rw[q1]at h9 ⊢;simpa using h9
       ·rw[q1]at h9 ⊢;simpa using h9
      have Hy:=zh hy;clear hy oD;obtain⟨w2,rfl⟩:∃z,z=wo:=⟨_,rfl⟩
      go_upto_region 41 with(fail);obtain⟨r2,oG⟩:∃z:Bool,z=(decide (a<i)&&decide (i<mid)):=⟨_,rfl⟩
      have yJ:=zh oG;clear oG
      go_cut [199]from 192 to 199 (fun t wx=>t=.bool r2/\wx=w2)
      case first=>
       rcases ed (p:=a<i) (q:=i<mid)with⟨b1,b2⟩ | ⟨b1,b2⟩ | b1
       ·have e9:r2=true:=by rw[yJ.out];simp[b1,b2]
        go_wp2;go_meet
        case rel=>exact⟨by rw[e9],rfl⟩
       ·have e9:r2=false:=by rw[yJ.out];simp[b2]
        go_wp2;go_meet
        case rel=>exact⟨by rw[e9],rfl⟩
       ·have e9:r2=false:=by rw[yJ.out];simp[b1]
        go_wp2;go_meet
        case rel=>exact⟨by rw[e9],rfl⟩
      case rest=>
       obtain⟨dS,ks⟩:=hcut;subst dS;have qf:=ks.symm;clear ks;subst qf;cases r2
       ·have oG:=yJ.out
        obtain⟨W1,hz,As,pO⟩:∃W1,Sd w0 w2 base g c (A++(W1++(U2++(V2++B))))/\W1.Perm (U1++V1)/\jE K W1:=by
         have q0:=fH.out
         have q1:U1=[]\/V1=[]:=by
          rcases ed (p:=a<i) (q:=i<mid)with⟨b1,b2⟩ | ⟨b1,b2⟩ | b1
          ·simp[b1,b2]at oG
          ·right;exact List.eq_nil_of_length_eq_zero (by have:=q0.l5;omega)
          ·left;exact List.eq_nil_of_length_eq_zero (by have:=q0.l1;omega)
         refine⟨U1++V1,by have h9:=Hy.out;rw[List.append_assoc];exact h9,List.Perm.refl _,?_⟩
         rcases q1 with q1 | q1
         ·rw[q1];simpa using Sp.out
         ·rw[q1];simpa using Sm.out
        have Hz:=zh hz;clear hz oG Hy;obtain⟨w3,rfl⟩:∃z,z=w2:=⟨_,rfl⟩
        go_upto_region 43 with(fail);obtain⟨r3,nT⟩:∃z:Bool,z=(decide (mid<e)&&decide (e<b)):=⟨_,rfl⟩
        have tN:=zh nT;clear nT
        go_cut [213]from 206 to 213 (fun t wx=>t=.bool r3/\wx=w3)
        case first=>
         rcases ed (p:=mid<e) (q:=e<b)with⟨b1,b2⟩ | ⟨b1,b2⟩ | b1
         ·have e9:r3=true:=by rw[tN.out];simp[b1,b2]
          go_wp2;go_meet
          case rel=>exact⟨by rw[e9],rfl⟩
         ·have e9:r3=false:=by rw[tN.out];simp[b2]
          go_wp2;go_meet
          case rel=>exact⟨by rw[e9],rfl⟩
         ·have e9:r3=false:=by rw[tN.out];simp[b1]
          go_wp2;go_meet
          case rel=>exact⟨by rw[e9],rfl⟩
        case rest=>
         obtain⟨dS,ks⟩:=hcut;subst dS;have qf:=ks.symm;clear ks;subst qf;cases r3
         ·have nT:=tN.out
          obtain⟨W2,nW,r_,kE⟩:∃W2,Sd w0 w3 base g c (A++(W1++(W2++B)))/\W2.Perm (U2++V2)/\jE K W2:=by
           have q0:=fH.out
           have q1:U2=[]\/V2=[]:=by
            rcases ed (p:=mid<e) (q:=e<b)with⟨b1,b2⟩ | ⟨b1,b2⟩ | b1
            ·simp[b1,b2]at nT
            ·right;exact List.eq_nil_of_length_eq_zero (by have:=q0.l4;omega)
            ·left;exact List.eq_nil_of_length_eq_zero (by have:=q0.l6;omega)
           refine⟨U2++V2,by have h9:=Hz.out;rw[List.append_assoc];exact h9,List.Perm.refl _,?_⟩
           rcases q1 with q1 | q1
           ·rw[q1];simpa using ET.out
           ·rw[q1];simpa using ES.out
          have nX:=zh nW;obtain⟨yt,yu⟩:=kp HP.out As r_ pO kE;have yv:=zh (And.intro yt yu);clear nW r_ kE yt yu nT;go_wp2
          go_end0
          refine⟨rfl,W1++W2,by have h9:=nX.out;rw[List.append_assoc];exact h9,?_,yv.out.1⟩
          rw[fH.out.u,fH.out.v];exact yv.out.2
         ·have nT:=tN.out
          have q2:mid<e/\e<b:=by
           rcases ed (p:=mid<e) (q:=e<b)with b1 | ⟨b1,b2⟩ | b1
           ·exact b1
           ·simp[b2]at nT
           ·simp[b1]at nT
          clear nT;have yw:W1.length=U1.length+V1.length:=by rw[As.length_eq,List.length_append]
          have yx:=zh yw;clear yw;have yL:=zh q2;clear q2;go_wp2_with fail;refine(Xo.out (A++W1) U2 V2 B (A++(W1++(U2++(V2++B)))) mid e b w3 (by rw[List.append_assoc]) Hz.out ?_ ?_ ?_ ?_ ?_ ?_ ES.out ET.out ?_ ?_).mono ?_
          ·have h8:=HI.out.hlen;have h9:=yx.out;rw[fH.out.xs]at h8;simp only[List.length_append]at h8 ⊢
           omega
          ·have h9:=yx.out;have h8:=fH.out.l1;have h7:=fH.out.l5;have h6:=HI.out.hal
           rw[List.length_append];omega
          ·exact fH.out.l6
          ·exact fH.out.l4
          ·have:=fH.out.l6;have:=yL.out;omega
          ·have:=fH.out.l4;have:=yL.out;omega
          ·intro x hx;refine HD.out x ?_;rw[fH.out.u,fH.out.v]
           rcases List.mem_append.1 hx with h9 | h9 <;> simp[h9]
          ·have h1:=HF.out;have h2:=fH.out;rw[h2.u,h2.v,List.length_append,List.length_append]at h1;have h3:=h2.l1;have h4:=h2.l5;have h5:=Iq.out;omega
          ·rintro e4 w4 ⟨rfl,W2,nW,r_,kE⟩;have nX:=zh nW;obtain⟨yt,yu⟩:=kp HP.out As r_ pO kE;have yv:=zh (And.intro yt yu);clear nW r_ kE yt yu;go_wp2
           go_end0
           refine⟨rfl,W1++W2,by have h9:=nX.out;rw[List.append_assoc]at h9 ⊢;exact h9,?_,yv.out.1⟩
           rw[fH.out.u,fH.out.v];exact yv.out.2
       ·have oG:=yJ.out
        have q2:a<i/\i<mid:=by
         rcases ed (p:=a<i) (q:=i<mid)with b1 | ⟨b1,b2⟩ | b1
         ·exact b1
         ·simp[b2]at oG
         ·simp[b1]at oG
        have yL:=zh q2;clear oG q2;go_wp2_with fail;refine(Xo.out A U1 V1 (U2++(V2++B)) (A++(U1++(V1++(U2++(V2++B))))) a i mid w2 rfl Hy.out ?_ HI.out.hal fH.out.l1 fH.out.l5 ?_ ?_ Sm.out Sp.out ?_ ?_).mono ?_
        ·have h8:=HI.out.hlen;rw[fH.out.xs]at h8;simp only[List.length_append]at h8 ⊢
         omega
        ·have:=fH.out.l1;have:=yL.out;omega
        ·have:=fH.out.l5;have:=yL.out;omega
        ·intro x hx;refine HD.out x ?_;rw[fH.out.u,fH.out.v]
         rcases List.mem_append.1 hx with h9 | h9 <;> simp[h9]
        ·have h1:=HF.out;have h2:=fH.out;rw[h2.u,h2.v,List.length_append,List.length_append]at h1;have h3:=h2.l4;have h4:=h2.l6;have h5:=Iq.out;omega
        ·rintro e3 w3 ⟨rfl,W1,hz,As,pO⟩;have Hz:=zh hz;clear hz Hy;go_upto_region 43 with(fail);obtain⟨r3,nT⟩:∃z:Bool,z=(decide (mid<e)&&decide (e<b)):=⟨_,rfl⟩
         have tN:=zh nT;clear nT
         go_cut [213]from 206 to 213 (fun t wx=>t=.bool r3/\wx=w3)
         case first=>
          rcases ed (p:=mid<e) (q:=e<b)with⟨b1,b2⟩ | ⟨b1,b2⟩ | b1
          ·have e9:r3=true:=by rw[tN.out];simp[b1,b2]
           go_wp2;go_meet
           case rel=>exact⟨by rw[e9],rfl⟩
          ·have e9:r3=false:=by rw[tN.out];simp[b2]
           go_wp2;go_meet
           case rel=>exact⟨by rw[e9],rfl⟩
          ·have e9:r3=false:=by rw[tN.out];simp[b1]
           go_wp2;go_meet
           case rel=>exact⟨by rw[e9],rfl⟩
         case rest=>
          obtain⟨dS,ks⟩:=hcut;subst dS;have qf:=ks.symm;clear ks;subst qf;cases r3
          ·have nT:=tN.out
           obtain⟨W2,nW,r_,kE⟩:∃W2,Sd w0 w3 base g c (A++(W1++(W2++B)))/\W2.Perm (U2++V2)/\jE K W2:=by
            have q0:=fH.out
            have q1:U2=[]\/V2=[]:=by
             rcases ed (p:=mid<e) (q:=e<b)with⟨b1,b2⟩ | ⟨b1,b2⟩ | b1
             ·simp[b1,b2]at nT
             ·right;exact List.eq_nil_of_length_eq_zero (by have:=q0.l4;omega)
             ·left;exact List.eq_nil_of_length_eq_zero (by have:=q0.l6;omega)
            refine⟨U2++V2,by have h9:=Hz.out;rw[List.append_assoc];exact h9,List.Perm.refl _,?_⟩
            rcases q1 with q1 | q1
            ·rw[q1];simpa using ET.out
            ·rw[q1];simpa using ES.out
           have nX:=zh nW;obtain⟨yt,yu⟩:=kp HP.out As r_ pO kE;have yv:=zh (And.intro yt yu);clear nW r_ kE yt yu nT;go_wp2
           go_end0
           refine⟨rfl,W1++W2,by have h9:=nX.out;rw[List.append_assoc];exact h9,?_,yv.out.1⟩
           rw[fH.out.u,fH.out.v];exact yv.out.2
          ·have nT:=tN.out
           have q2:mid<e/\e<b:=by
            rcases ed (p:=mid<e) (q:=e<b)with b1 | ⟨b1,b2⟩ | b1
            ·exact b1
            ·simp[b2]at nT
            ·simp[b1]at nT
           clear nT;have yw:W1.length=U1.length+V1.length:=by rw[As.length_eq,List.length_append]
           have yx:=zh yw;clear yw;have yL:=zh q2;clear q2;go_wp2_with fail;refine(Xo.out (A++W1) U2 V2 B (A++(W1++(U2++(V2++B)))) mid e b w3 (by rw[List.append_assoc]) Hz.out ?_ ?_ ?_ ?_ ?_ ?_ ES.out ET.out ?_ ?_).mono ?_
           ·have h8:=HI.out.hlen;have h9:=yx.out;rw[fH.out.xs]at h8;simp only[List.length_append]at h8 ⊢
            omega
           ·have h9:=yx.out;have h8:=fH.out.l1;have h7:=fH.out.l5;have h6:=HI.out.hal
            rw[List.length_append];omega
           ·exact fH.out.l6
           ·exact fH.out.l4
           ·have:=fH.out.l6;have:=yL.out;omega
           ·have:=fH.out.l4;have:=yL.out;omega
           ·intro x hx;refine HD.out x ?_;rw[fH.out.u,fH.out.v]
            rcases List.mem_append.1 hx with h9 | h9 <;> simp[h9]
           ·have h1:=HF.out;have h2:=fH.out;rw[h2.u,h2.v,List.length_append,List.length_append]at h1;have h3:=h2.l1;have h4:=h2.l5;have h5:=Iq.out;omega
           ·rintro e4 w4 ⟨rfl,W2,nW,r_,kE⟩;have nX:=zh nW;obtain⟨yt,yu⟩:=kp HP.out As r_ pO kE;have yv:=zh (And.intro yt yu);clear nW r_ kE yt yu;go_wp2
            go_end0
            refine⟨rfl,W1++W2,by have h9:=nX.out;rw[List.append_assoc]at h9 ⊢;exact h9,?_,yv.out.1⟩
            rw[fH.out.u,fH.out.v];exact yv.out.2
     ·have oD:=qL.out
      have q2:i<m/\m<e:=by
       rcases ed (p:=i<m) (q:=m<e)with b1 | ⟨b1,b2⟩ | b1
       ·exact b1
       ·simp[b2]at oD
       ·simp[b1]at oD
      have Pn:=zh q2;clear oD q2;go_wp2_with fail
      refine(Im w0 wo base g c N i m e (A++U1) U2 V1 (V2++B) xs _ (by rw[fH.out.xs,List.append_assoc]) b_.out HI.out.hlen (by have:=HI.out.hal;have:=fH.out.l1;rw[List.length_append];omega) fH.out.l2 fH.out.l3 (by have:=fH.out.l2;have:=Pn.out;omega) (by have:=fH.out.l3;have:=Pn.out;omega) hl).mono ?_
      rintro e2 w2 ⟨rfl,hy⟩
      have Hy:Hid (Sd w0 w2 base g c (A++(U1++(V1++(U2++(V2++B)))))):=by show Sd _ _ _ _ _ _;rw[List.append_assoc]at hy;exact hy
      clear hy;go_upto_region 41 with(fail);obtain⟨r2,oG⟩:∃z:Bool,z=(decide (a<i)&&decide (i<mid)):=⟨_,rfl⟩
      have yJ:=zh oG;clear oG
      go_cut [199]from 192 to 199 (fun t wx=>t=.bool r2/\wx=w2)
      case first=>
       rcases ed (p:=a<i) (q:=i<mid)with⟨b1,b2⟩ | ⟨b1,b2⟩ | b1
       ·have e9:r2=true:=by rw[yJ.out];simp[b1,b2]
        go_wp2;go_meet
        case rel=>exact⟨by rw[e9],rfl⟩
       ·have e9:r2=false:=by rw[yJ.out];simp[b2]
        go_wp2;go_meet
        case rel=>exact⟨by rw[e9],rfl⟩
       ·have e9:r2=false:=by rw[yJ.out];simp[b1]
        go_wp2;go_meet
        case rel=>exact⟨by rw[e9],rfl⟩
      case rest=>
       obtain⟨dS,ks⟩:=hcut;subst dS;have qf:=ks.symm;clear ks;subst qf;cases r2
       ·have oG:=yJ.out
        obtain⟨W1,hz,As,pO⟩:∃W1,Sd w0 w2 base g c (A++(W1++(U2++(V2++B))))/\W1.Perm (U1++V1)/\jE K W1:=by
         have q0:=fH.out
         have q1:U1=[]\/V1=[]:=by
          rcases ed (p:=a<i) (q:=i<mid)with⟨b1,b2⟩ | ⟨b1,b2⟩ | b1
          ·simp[b1,b2]at oG
          ·right;exact List.eq_nil_of_length_eq_zero (by have:=q0.l5;omega)
          ·left;exact List.eq_nil_of_length_eq_zero (by have:=q0.l1;omega)
         refine⟨U1++V1,by have h9:=Hy.out;rw[List.append_assoc];exact h9,List.Perm.refl _,?_⟩
         rcases q1 with q1 | q1
         ·rw[q1];simpa using Sp.out
         ·rw[q1];simpa using Sm.out
        have Hz:=zh hz;clear hz oG Hy;obtain⟨w3,rfl⟩:∃z,z=w2:=⟨_,rfl⟩
        go_upto_region 43 with(fail);obtain⟨r3,nT⟩:∃z:Bool,z=(decide (mid<e)&&decide (e<b)):=⟨_,rfl⟩
        have tN:=zh nT;clear nT
        go_cut [213]from 206 to 213 (fun t wx=>t=.bool r3/\wx=w3)
        case first=>
         rcases ed (p:=mid<e) (q:=e<b)with⟨b1,b2⟩ | ⟨b1,b2⟩ | b1
         ·have e9:r3=true:=by rw[tN.out];simp[b1,b2]
          go_wp2;go_meet
          case rel=>exact⟨by rw[e9],rfl⟩
         ·have e9:r3=false:=by rw[tN.out];simp[b2]
          go_wp2;go_meet
          case rel=>exact⟨by rw[e9],rfl⟩
         ·have e9:r3=false:=by rw[tN.out];simp[b1]
          go_wp2;go_meet
          case rel=>exact⟨by rw[e9],rfl⟩
        case rest=>
         obtain⟨dS,ks⟩:=hcut;subst dS;have qf:=ks.symm;clear ks;subst qf;cases r3
         ·have nT:=tN.out
          obtain⟨W2,nW,r_,kE⟩:∃W2,Sd w0 w3 base g c (A++(W1++(W2++B)))/\W2.Perm (U2++V2)/\jE K W2:=by
           have q0:=fH.out
           have q1:U2=[]\/V2=[]:=by
            rcases ed (p:=mid<e) (q:=e<b)with⟨b1,b2⟩ | ⟨b1,b2⟩ | b1
            ·simp[b1,b2]at nT
            ·right;exact List.eq_nil_of_length_eq_zero (by have:=q0.l4;omega)
            ·left;exact List.eq_nil_of_length_eq_zero (by have:=q0.l6;omega)
           refine⟨U2++V2,by have h9:=Hz.out;rw[List.append_assoc];exact h9,List.Perm.refl _,?_⟩
           rcases q1 with q1 | q1
           ·rw[q1];simpa using ET.out
           ·rw[q1];simpa using ES.out
          have nX:=zh nW;obtain⟨yt,yu⟩:=kp HP.out As r_ pO kE;have yv:=zh (And.intro yt yu);clear nW r_ kE yt yu nT;go_wp2
          go_end0
          refine⟨rfl,W1++W2,by have h9:=nX.out;rw[List.append_assoc];exact h9,?_,yv.out.1⟩
          rw[fH.out.u,fH.out.v];exact yv.out.2
         ·have nT:=tN.out
          have q2:mid<e/\e<b:=by
           rcases ed (p:=mid<e) (q:=e<b)with b1 | ⟨b1,b2⟩ | b1
           ·exact b1
           ·simp[b2]at nT
           ·simp[b1]at nT
          clear nT;have yw:W1.length=U1.length+V1.length:=by rw[As.length_eq,List.length_append]
          have yx:=zh yw;clear yw;have yL:=zh q2;clear q2;go_wp2_with fail;refine(Xo.out (A++W1) U2 V2 B (A++(W1++(U2++(V2++B)))) mid e b w3 (by rw[List.append_assoc]) Hz.out ?_ ?_ ?_ ?_ ?_ ?_ ES.out ET.out ?_ ?_).mono ?_
          ·have h8:=HI.out.hlen;have h9:=yx.out;rw[fH.out.xs]at h8;simp only[List.length_append]at h8 ⊢
           omega
          ·have h9:=yx.out;have h8:=fH.out.l1;have h7:=fH.out.l5;have h6:=HI.out.hal
           rw[List.length_append];omega
          ·exact fH.out.l6
          ·exact fH.out.l4
          ·have:=fH.out.l6;have:=yL.out;omega
          ·have:=fH.out.l4;have:=yL.out;omega
          ·intro x hx;refine HD.out x ?_;rw[fH.out.u,fH.out.v]
           rcases List.mem_append.1 hx with h9 | h9 <;> simp[h9]
          ·have h1:=HF.out;have h2:=fH.out;rw[h2.u,h2.v,List.length_append,List.length_append]at h1;have h3:=h2.l1;have h4:=h2.l5;have h5:=Iq.out;omega
          ·rintro e4 w4 ⟨rfl,W2,nW,r_,kE⟩;have nX:=zh nW;obtain⟨yt,yu⟩:=kp HP.out As r_ pO kE;have yv:=zh (And.intro yt yu);clear nW r_ kE yt yu;go_wp2
           go_end0
           refine⟨rfl,W1++W2,by have h9:=nX.out;rw[List.append_assoc]at h9 ⊢;exact h9,?_,yv.out.1⟩
           rw[fH.out.u,fH.out.v];exact yv.out.2
       ·have oG:=yJ.out
        have q2:a<i/\i<mid:=by
         rcases ed (p:=a<i) (q:=i<mid)with b1 | ⟨b1,b2⟩ | b1
         ·exact b1
         ·simp[b2]at oG
         ·simp[b1]at oG
        have yL:=zh q2;clear oG q2;go_wp2_with fail;refine(Xo.out A U1 V1 (U2++(V2++B)) (A++(U1++(V1++(U2++(V2++B))))) a i mid w2 rfl Hy.out ?_ HI.out.hal fH.out.l1 fH.out.l5 ?_ ?_ Sm.out Sp.out ?_ ?_).mono ?_
        ·have h8:=HI.out.hlen;rw[fH.out.xs]at h8;simp only[List.length_append]at h8 ⊢
         omega
        ·have:=fH.out.l1;have:=yL.out;omega
        ·have:=fH.out.l5;have:=yL.out;omega
        ·intro x hx;refine HD.out x ?_;rw[fH.out.u,fH.out.v]
         rcases List.mem_append.1 hx with h9 | h9 <;> simp[h9]
        ·have h1:=HF.out;have h2:=fH.out;rw[h2.u,h2.v,List.length_append,List.length_append]at h1;have h3:=h2.l4;have h4:=h2.l6;have h5:=Iq.out;omega
        ·rintro e3 w3 ⟨rfl,W1,hz,As,pO⟩;have Hz:=zh hz;clear hz Hy;go_upto_region 43 with(fail);obtain⟨r3,nT⟩:∃z:Bool,z=(decide (mid<e)&&decide (e<b)):=⟨_,rfl⟩
         have tN:=zh nT;clear nT
         go_cut [213]from 206 to 213 (fun t wx=>t=.bool r3/\wx=w3)
         case first=>
          rcases ed (p:=mid<e) (q:=e<b)with⟨b1,b2⟩ | ⟨b1,b2⟩ | b1
          ·have e9:r3=true:=by rw[tN.out];simp[b1,b2]
           go_wp2;go_meet
           case rel=>exact⟨by rw[e9],rfl⟩
          ·have e9:r3=false:=by rw[tN.out];simp[b2]
           go_wp2;go_meet
           case rel=>exact⟨by rw[e9],rfl⟩
          ·have e9:r3=false:=by rw[tN.out];simp[b1]
           go_wp2;go_meet
           case rel=>exact⟨by rw[e9],rfl⟩
         case rest=>
          obtain⟨dS,ks⟩:=hcut;subst dS;have qf:=ks.symm;clear ks;subst qf;cases r3
          ·have nT:=tN.out
           obtain⟨W2,nW,r_,kE⟩:∃W2,Sd w0 w3 base g c (A++(W1++(W2++B)))/\W2.Perm (U2++V2)/\jE K W2:=by
            have q0:=fH.out
            have q1:U2=[]\/V2=[]:=by
             rcases ed (p:=mid<e) (q:=e<b)with⟨b1,b2⟩ | ⟨b1,b2⟩ | b1
             ·simp[b1,b2]at nT
             ·right;exact List.eq_nil_of_length_eq_zero (by have:=q0.l4;omega)
             ·left;exact List.eq_nil_of_length_eq_zero (by have:=q0.l6;omega)
            refine⟨U2++V2,by have h9:=Hz.out;rw[List.append_assoc];exact h9,List.Perm.refl _,?_⟩
            rcases q1 with q1 | q1
            ·rw[q1];simpa using ET.out
            ·rw[q1];simpa using ES.out
           have nX:=zh nW;obtain⟨yt,yu⟩:=kp HP.out As r_ pO kE;have yv:=zh (And.intro yt yu);clear nW r_ kE yt yu nT;go_wp2
           go_end0
           refine⟨rfl,W1++W2,by have h9:=nX.out;rw[List.append_assoc];exact h9,?_,yv.out.1⟩
           rw[fH.out.u,fH.out.v];exact yv.out.2
          ·have nT:=tN.out
           have q2:mid<e/\e<b:=by
            rcases ed (p:=mid<e) (q:=e<b)with b1 | ⟨b1,b2⟩ | b1
            ·exact b1
            ·simp[b2]at nT
            ·simp[b1]at nT
           clear nT;have yw:W1.length=U1.length+V1.length:=by rw[As.length_eq,List.length_append]
           have yx:=zh yw;clear yw;have yL:=zh q2;clear q2;go_wp2_with fail;refine(Xo.out (A++W1) U2 V2 B (A++(W1++(U2++(V2++B)))) mid e b w3 (by rw[List.append_assoc]) Hz.out ?_ ?_ ?_ ?_ ?_ ?_ ES.out ET.out ?_ ?_).mono ?_
           ·have h8:=HI.out.hlen;have h9:=yx.out;rw[fH.out.xs]at h8;simp only[List.length_append]at h8 ⊢
            omega
           ·have h9:=yx.out;have h8:=fH.out.l1;have h7:=fH.out.l5;have h6:=HI.out.hal
            rw[List.length_append];omega
           ·exact fH.out.l6
           ·exact fH.out.l4
           ·have:=fH.out.l6;have:=yL.out;omega
           ·have:=fH.out.l4;have:=yL.out;omega
           ·intro x hx;refine HD.out x ?_;rw[fH.out.u,fH.out.v]
            rcases List.mem_append.1 hx with h9 | h9 <;> simp[h9]
           ·have h1:=HF.out;have h2:=fH.out;rw[h2.u,h2.v,List.length_append,List.length_append]at h1;have h3:=h2.l1;have h4:=h2.l5;have h5:=Iq.out;omega
           ·rintro e4 w4 ⟨rfl,W2,nW,r_,kE⟩;have nX:=zh nW;obtain⟨yt,yu⟩:=kp HP.out As r_ pO kE;have yv:=zh (And.intro yt yu);clear nW r_ kE yt yu;go_wp2
            go_end0
            refine⟨rfl,W1++W2,by have h9:=nX.out;rw[List.append_assoc]at h9 ⊢;exact h9,?_,yv.out.1⟩
            rw[fH.out.u,fH.out.v];exact yv.out.2
theorem Cy (w0:World) (base g c N:Nat) (gH:FuncId) (dF:Array Value) (K:Int->Int) (D:Int->Prop) (hc:JI w0 g gH dF K D) (hl:N<=1000000):∀(F:Nat) (A U V B xs:List Int) (a m b:Nat) (w:World),xs=A++(U++(V++B))->Sd w0 w base g c xs->xs.length=N->A.length=a->a+U.length=m->m+V.length=b->0<U.length->0<V.length->jE K U->jE K V->(∀x∈U++V,D x)->U.length+V.length<=F ->
  Calls Tryz.prog 237 #[.slice (some ⟨g,0,none⟩) N c,.int .i64 a,.int .i64 m,.int .i64 b,.func (.func gH) #[] dF] w fun e w'=>e=.returned (.tuple #[])/\∃W,Sd w0 w' base g c (A++(W++B))/\W.Perm (U++V)/\jE K W:=by
 intro F
 induction F with
 | zero=>intro A U V B xs a m b w _ _ _ _ _ _ h1 h2 _ _ _ h3;omega
 | succ F ih=>
  intro A U V B xs a m b w hx hs hN ha hm hb hU hV sU sV hD hF
  by_cases h:U.length=1\/V.length=1
  ·exact yr w0 base g c N gH dF K D hc hl A U V B xs a m b w hx hs hN ha hm hb hU hV sU sV hD h
  ·exact Cx w0 base g c N F gH dF K D hc hl ih A U V B xs a m b w hx hs hN ha hm hb (by omega) (by omega) sU sV hD hF
structure LF (w0:World) (g:Nat) (gH:FuncId) (dF:Array Value) (K:Int->Int) (D:Int->Prop):Prop where
 call:∀x y,D x->D y->∀W,bg [g] w0 W->Calls Tryz.prog gH (#[.int .i64 x,.int .i64 y]++dF) W fun e w'=>e=.returned (.int .i64 (K x-K y))/\Below W.heap.size W w'
 enter:∀args w,(callFunc gH args).run Tryz.prog w=.ok (.enter gH args) w
theorem LF.on {w0:World} {g:Nat} {gH:FuncId} {dF:Array Value} {K:Int->Int} {D:Int->Prop} (h:LF w0 g gH dF K D):JI w0 g gH dF K D:=
 ⟨fun x y hx hy W hW=>(h.call x y hx hy W hW).mono fun e w' ⟨h1,h2⟩=>⟨_,h1,by omega,h2⟩,h.enter⟩
theorem qV (w0 w:World) (base g c N:Nat) (gH:FuncId) (dF:Array Value) (K:Int->Int) (D:Int->Prop) (hc:LF w0 g gH dF K D) (hl:N<=1000000) (A U B xs:List Int) (a b:Nat) (hx:xs=A++(U++B)) (hs:Sd w0 w base g c xs) (hN:xs.length=N) (ha:A.length=a) (hb:a+U.length=b) (hD:∀x∈U,D x):
  Calls Tryz.prog 236 #[.slice (some ⟨g,0,none⟩) N c,.int .i64 a,.int .i64 b,.func (.func gH) #[] dF] w fun e w'=>e=.returned (.tuple #[])/\∃W,Sd w0 w' base g c (A++(W++B))/\W.Perm U/\jE K W:=by
 have eg:=hc.enter;have Hc:=zh hc;have Hs:=zh hs;have HD:=zh hD;have Hx:=zh hx
 have Dd:A.length+U.length+B.length=N:=by rw[<- hN,hx];simp only[List.length_append];omega
 have TX:b<=N:=by omega
 have Ha:=zh ha;have Hb:=zh hb;have Fp:=zh Dd;have m1:IntKind.i64.wrap ((a:Int)+1)=((a+1:Nat):Int):=Ip (by omega);have te:a<=b:=by omega
 clear hc hs hD hx hN ha hb Dd
 go_enter Tryz.func236,Tryz.ntmps236
 obtain⟨a1,DL⟩:∃z,z=a+1:=⟨_,rfl⟩
 rw[<- DL]at m1;have Ha1:=zh DL;clear DL;go_wp2
 go_loopw [8] (fun ti wr=>∃(i:Nat) (T:List Int),ti=.int .i64 i/\a<i/\(i<=b\/i=a+1)/\Sd w0 wr base g c (A++(T++(U.drop (i-a)++B)))/\T.Perm (U.take (i-a))/\jE K T) (fun ti _=>b-(intOf ti).toNat)
 case atStart=>
  refine⟨a1,U.take 1,rfl,by have:=Ha1.out;omega,.inr Ha1.out,?_,by rw[Ha1.out,show a+1-a=1 by omega],?_⟩
  ·rw[Ha1.out,show a+1-a=1 by omega]
   have h9:=Hs.out;rw[Hx.out]at h9;rw[<- List.append_assoc (U.take 1),List.take_append_drop];exact h9
  ·cases U with
   | nil=>simp
   | cons x U=>simp
 case round=>
  obtain⟨i,T,rfl,hi,hib,d_,hp,jd⟩:=hrel;have b_:=zh d_;have Hp:=zh hp;have mn:=zh jd;have Hib:=zh hib;clear d_ hp jd hib
  by_cases hlt:i<b
  ·have hiU:i-a<U.length:=by have:=Hb.out;omega
   obtain⟨x,hx⟩:∃z,z=U[i-a]:=⟨_,rfl⟩
   obtain⟨R,hR⟩:∃z,z=U.drop (i-a+1)++B:=⟨_,rfl⟩
   have Wn:T.length=i-a:=by rw[Hp.out.length_eq,List.length_take];omega
   have WZ:Sd w0 wr base g c (fb A x T R T.length):=by
    rw[EP];have h9:=b_.out;rw[List.drop_eq_getElem_cons hiU,<- hx]at h9;rw[hR];simpa using h9
   have hxU:x∈U:=by rw[hx];exact List.getElem_mem hiU
   have hTD:∀y∈T,D y:=fun y hy=>HD.out y (List.mem_of_mem_take ((Hp.out.mem_iff).1 hy))
   have hlen:∀t,(fb A x T R t).length=N:=fun t=>by
    rw[<- Fp.out];unfold fb;simp only[List.length_append,List.length_cons,List.length_take,List.length_drop]
    rw[hR,List.length_append,List.length_drop];omega
   have lp:=zh WZ;have HxD:=zh (HD.out x hxU);have HTD:=zh hTD;have cJ:=zh hlen;have HTl:=zh Wn;have Hxx:=zh hx;have HR:=zh hR;have m2:IntKind.i64.wrap ((i:Int)+1)=((i+1:Nat):Int):=Ip (by omega);clear WZ hxU hTD hlen Wn hx hR;obtain⟨wo,rfl⟩:∃z,z=wr:=⟨_,rfl⟩
   go_upto_region 4 with(fail)
   go_loopw [9] (fun tj wr=>∃(t:Nat),tj=.int .i64 ((a+t:Nat):Int)/\t<=T.length/\(t=T.length\/K x<=K (T.getD t 0))/\Sd w0 wr base g c (fb A x T R t)) (fun tj _=>(intOf tj).toNat)
   case atStart=>exact⟨T.length,by rw[HTl.out,show a+(i-a)=i by omega],Nat.le_refl _,.inl rfl,lp.out⟩
   case round=>
    obtain⟨t,rfl,ht,LW,hZ⟩:=hrel;have ew:=zh hZ;have Htk:=zh LW;clear hZ LW
    have hiN:a+T.length<N:=by have:=HTl.out;omega
    obtain⟨w1,rfl⟩:∃z,z=wr:=⟨_,rfl⟩
    have fin:∀(w2:World),Sd w0 w2 base g c (fb A x T R t)->(t=0\/K (T.getD (t-1) 0)<=K x)->Sd w0 w2 base g c (A++((T.take t++x::T.drop t)++(U.drop (i+1-a)++B)))/\(T.take t++x::T.drop t).Perm (U.take (i+1-a))/\jE K (T.take t++x::T.drop t):=fun w2 h1 h2=>by
     refine⟨?_,?_,?_⟩
     ·unfold fb at h1;rw[HR.out]at h1;rw[show i+1-a=i-a+1 by omega]
      simp only[List.append_assoc,List.cons_append]at h1 ⊢
      exact h1
     ·refine(yq x T t).trans ?_;rw[show i+1-a=i-a+1 by omega,List.take_succ_eq_append_getElem hiU,<- Hxx.out]
      exact List.perm_append_comm.trans (Hp.out.append_right _)
     ·refine Cv mn.out ht ?_ ?_
      ·rcases h2 with h2 | h2
       ·exact .inl h2
       ·by_cases e0:t=0
        ·exact .inl e0
        ·refine .inr ⟨by omega,?_⟩;rw[getD_lt (by omega)]at h2;exact h2
      ·rcases Htk.out with h2 | h2
       ·exact .inl h2
       ·by_cases e0:t=T.length
        ·exact .inl e0
        ·refine .inr ⟨by omega,?_⟩;rw[getD_lt (by omega)]at h2;exact h2
    have rc:=zh fin;clear fin
    by_cases h0:t=0
    ·subst h0;have e9:decide (((a+0:Nat):Int)>(a:Int))=false:=by simp
     have e8:decide ((a:Int)<((a+0:Nat):Int))=false:=by simp
     go_upto_region 4 with(fail);refine ar 17 (aa w1) (by kernel_rfl) (by kernel_rfl) (by simp) (aj (ad _)) ?_;simp only[zT]
     iterate 4 (refine bU rfl ?_;simp only[zA])
     iterate 12 (refine mD rfl rfl (by simp[*]) ?_;simp only[zA])
     (first | refine bC rfl rfl ?_ | (refine bU rfl ?_));simp only[zA]
     intro W hW;obtain⟨f1,f2,f3⟩:=rc.out W (ew.out.since hW) (.inl rfl);have Hf:=zh (And.intro f1 (And.intro f2 f3));clear f1 f2 f3 hW;obtain⟨i1,qY⟩:∃z,z=i+1:=⟨_,rfl⟩
     rw[<- qY]at m2 Hf;have Wo:=zh qY;clear qY;go_wp2;go_roundw
     case rel=>exact⟨i1,_,by first | rfl | go_num,by have:=Wo.out;omega,.inl (by have:=Wo.out;omega),Hf.out⟩
     case measure=>have:=Wo.out;simp[intOf];omega
    ·obtain⟨r,rfl⟩:∃r,t=r+1:=⟨t-1,by omega⟩
     have nj:=ew.out
     have c1:=nj.aei (k:=a+(r+1)) (by rw[cJ.out];omega)
     have c2:=nj.aei (k:=a+r) (by rw[cJ.out];omega)
     have f1:=nj.own.free (a+(r+1));have f2:=nj.own.free (a+r);have lK:=nj.swap (a+(r+1)) (a+r)
     rw[show swp (fb A x T R (r+1)) (a+(r+1)) (a+r)=fb A x T R r by rw[<- Ha.out];exact tX A x T R (by omega)]at lK
     have g1:(fb A x T R (r+1)).getD (a+(r+1)) 0=x:=by
      unfold fb
      rw[<- Ha.out,<- List.append_assoc,zDd,List.getElem?_append_right (by rw[List.length_append,List.length_take];omega),show A.length+(r+1)-(A++T.take (r+1)).length=0 by rw[List.length_append,List.length_take];omega]
      rfl
     have g2:(fb A x T R (r+1)).getD (a+r) 0=T.getD r 0:=by
      unfold fb
      rw[<- Ha.out,AY (by rw[List.length_take];omega),zDd,zDd,List.getElem?_take_of_lt (by omega)]
     rw[g1]at c1 lK;rw[g2]at c2 lK;obtain⟨y,hy⟩:∃z,z=T.getD r 0:=⟨_,rfl⟩
     have hyT:y∈T:=by rw[hy];exact jY (by omega)
     rw[<- hy]at c2 lK;have Hy:=zh hy;have HyD:=zh (HTD.out y hyT);have ay:a+(r+1)<N:=by omega
     have bj:a+r<N:=by omega
     have e9:decide ((a:Int)<((a+(r+1):Nat):Int))=true:=by simp;omega
     have m3:IntKind.i64.wrap (((a+(r+1):Nat):Int)-1)=((a+r:Nat):Int):=by rw[aF _ (by omega) (by omega)];omega
     obtain⟨p,hp⟩:∃z,z=a+(r+1):=⟨_,rfl⟩
     obtain⟨q,hq⟩:∃z,z=a+r:=⟨_,rfl⟩
     have hap:a<p:=by omega
     rw[<- hp]at c1 f1 ay m3 lK e9 ⊢;rw[<- hq]at c2 f2 bj m3 lK;have Ap:=zh lK;have Fl:=zh (And.intro hp hq);have zg:p≠q:=by omega
     clear lK nj hy hyT g1 g2 hp hq;go_upto_region 4 with(fail);refine ar 17 (aa w1) (by kernel_rfl) (by kernel_rfl) (by simp) (aj (ad _)) ?_;simp only[zT]
     iterate 4 (refine bU rfl ?_;simp only[zA])
     iterate 4 (refine im rfl rfl ?_;simp only[zA])
     apply eQ rfl rfl;(intro hb;intro W hW;have k1:=c1 W hW;go_simp;with_reducible rfl);simp only[zA]
     iterate 4 (refine im rfl rfl ?_;simp only[zA])
     apply eQ rfl rfl;(intro hb;intro W hW;have k2:=c2 W hW;go_simp;with_reducible rfl);simp only[zA]
     refine dA (v:=?_) rfl rfl ?_ ?_;rotate_left;(intro hb;intro W hW;unfold dr;go_simp;(with_reducible refine(Hc.out.call x y HxD.out HyD.out W (ew.out.since hW).only).mono ?_);rintro e W' ⟨rfl,bN⟩;first | (refine⟨?_,aa.trans hW bN⟩;with_reducible rfl) | (subst bN;refine⟨?_,hW⟩;with_reducible rfl))
     simp only[zA]
     refine im rfl rfl ?_;simp only[zA]
     (first | refine bC rfl rfl ?_ | (refine bU rfl ?_));simp only[zA]
     intro W hW;obtain⟨z,hz⟩:∃z,z=K x-K y:=⟨_,rfl⟩
     rw[<- hz];have vx:=ew.out.since hW;have aaX:=zh (vx.swap (a+(r+1)) (a+r));have nl:=zh vx;have d1:=c1 W hW;have d2:=c2 W hW;have f1:=vx.own.free p;have f2:=vx.own.free q;clear vx hW c1 c2 ew
     by_cases jG:K x<K y
     ·have e7:(z<0)=True:=eq_true (by rw[hz];exact Int.sub_neg_of_lt jG)
      have e7c:(true&&decide (z<0))=true:=by rw[decide_eq_true (of_eq_true e7)];rfl
      rw[e7c];clear hz
      have JG:Hid (Sd w0 ((W.setCell ⟨g,p,none⟩ (.int .i64 y)).setCell ⟨g,q,none⟩ (.int .i64 x)) base g c (fb A x T R r)):=by
       show Sd _ _ _ _ _ _
       have h9:=aaX.out
       rw[show swp (fb A x T R (r+1)) (a+(r+1)) (a+r)=fb A x T R r by rw[<- Ha.out];exact tX A x T R (by omega)]at h9
       have g1:(fb A x T R (r+1)).getD (a+(r+1)) 0=x:=by
        unfold fb
        rw[<- Ha.out,<- List.append_assoc,zDd,List.getElem?_append_right (by rw[List.length_append,List.length_take];omega),show A.length+(r+1)-(A++T.take (r+1)).length=0 by rw[List.length_append,List.length_take];omega]
        rfl
       have g2:(fb A x T R (r+1)).getD (a+r) 0=y:=by
        unfold fb
        rw[<- Ha.out,AY (by rw[List.length_take];omega),Hy.out,zDd,zDd,List.getElem?_take_of_lt (by omega)]
       rw[g1,g2,<- Fl.out.1,<- Fl.out.2]at h9;exact h9
      clear aaX Ap;go_upto_region 6 with(fail)
      go_region
      obtain⟨w2,gR⟩:∃z,z=(W.setCell ⟨g,p,none⟩ (.int .i64 y)).setCell ⟨g,q,none⟩ (.int .i64 x):=⟨_,rfl⟩
      rw[<- gR]at JG ⊢;clear gR d1 d2 f1 f2;go_wp2;go_roundw
      case rel=>exact⟨r,by rw[Fl.out.2];first | done | rfl | go_num,by omega,.inr (by rw[<- Hy.out];omega),JG.out.drew⟩
      case measure=>have:=Fl.out;first | (simp[intOf];done) | (simp[intOf];omega)
     ·have e7:(z<0)=False:=eq_false (fun h9=>jG (Int.lt_of_sub_neg (hz ▸ h9)))
      have e7b:decide (z<0)=false:=decide_eq_false (fun h9=>jG (Int.lt_of_sub_neg (hz ▸ h9)))
      have e7c:(true&&decide (z<0))=false:=by rw[e7b];rfl
      rw[e7c];clear hz
      obtain⟨z1,z2,z3⟩:=rc.out W nl.out (.inr (by rw[show r+1-1=r by omega,<- Hy.out];exact Int.not_lt.1 jG))
      have Hf:=zh (And.intro z1 (And.intro z2 z3));clear z1 z2 z3 d1 d2 f1 f2;obtain⟨i1,qY⟩:∃z,z=i+1:=⟨_,rfl⟩
      rw[<- qY]at m2 Hf;have Wo:=zh qY;clear qY;clear HxD HTD cJ HTl Hxx HR rc Htk;go_wp2;go_roundw
      case rel=>exact⟨i1,_,by first | rfl | go_num,by have:=Wo.out;omega,.inl (by have:=Wo.out;omega),Hf.out⟩
      case measure=>have:=Wo.out;first | (simp[intOf];done) | (simp[intOf];omega)
  ·have Hlt:=zh hlt
   have ir:∃W,Sd w0 wr base g c (A++(W++B))/\W.Perm U/\jE K W:=by
    have hd:U.length<=i-a:=by have:=Hb.out;omega
    refine⟨T,?_,?_,mn.out⟩
    ·have h9:=b_.out;rw[List.drop_eq_nil_of_le hd]at h9;simpa using h9
    ·have h9:=Hp.out;rw[List.take_of_length_le hd]at h9;exact h9
   have rc:=zh ir;clear ir;go_wp2
   go_end0
   exact⟨rfl,rc.out⟩
def Two (K:Int->Int) (L:List Int):Prop:=∃S1 S2,L=S1++S2/\S1.length=20/\0<S2.length/\jE K S1/\jE K S2
structure Xp (K:Int->Int) (xs:List Int) (N r:Nat) (S R:List Int):Prop where
 le:20*r<=N
 len:S.length=20*r
 perm:(S++R).Perm xs
 one:r=1->jE K S
 two:r=2->∃S1 S2,S=S1++S2/\S1.length=20/\S2.length=20/\jE K S1/\jE K S2
theorem Xp.next {K:Int->Int} {xs:List Int} {N r:Nat} {S R W R2:List Int} (h:Xp K xs N r S R) (hN:N<=40) (rK:20*r+20<=N) (hR:R=R.take 20++R2) (hW:W.Perm (R.take 20)) (hs:jE K W) (hWl:W.length=20):Xp K xs N (r+1) (S++W) R2:=by
 refine⟨by omega,by rw[List.length_append,h.len,hWl];omega,?_,fun e=>?_,fun e=>?_⟩
 ·refine List.Perm.trans ?_ h.perm;rw[List.append_assoc];refine List.Perm.append_left S ?_
  conv=>rhs;rw[hR]
  exact hW.append_right R2
 ·have:S=[]:=List.eq_nil_of_length_eq_zero (by rw[h.len];omega)
  rw[this];exact hs
 ·exact⟨S,W,rfl,by rw[h.len];omega,hWl,h.one (by omega),hs⟩
theorem Xp.fin {K:Int->Int} {xs:List Int} {N r:Nat} {S R W:List Int} (h:Xp K xs N r S R) (hN:N<=40) (hx:xs.length=N) (hlt:N<20*r+20) (hW:W.Perm R) (hs:jE K W):(S++W).Perm xs/\((N<=20/\jE K (S++W))\/(20<N/\Two K (S++W))):=by
 have hp:(S++W).Perm xs:=(List.Perm.append_left S hW).trans h.perm;refine⟨hp,?_⟩;have hl:S.length+W.length=N:=by rw[<- List.length_append,hp.length_eq,hx]
 have h1:=h.len;have h2:=h.le;rcases(show r=0\/r=1\/r=2 by omega)with e | e | e
 ·subst e
  have:S=[]:=List.eq_nil_of_length_eq_zero (by omega)
  exact .inl ⟨by omega,by rw[this];exact hs⟩
 ·subst e
  by_cases e0:N=20
  ·have:W=[]:=List.eq_nil_of_length_eq_zero (by omega)
   exact .inl ⟨by omega,by rw[this,List.append_nil];exact h.one rfl⟩
  ·exact .inr ⟨by omega,S,W,rfl,by omega,by omega,h.one rfl,hs⟩
 ·subst e;obtain⟨S1,S2,q1,q2,q3,q4,q5⟩:=h.two rfl
  have:W=[]:=List.eq_nil_of_length_eq_zero (by omega)
  refine .inr ⟨by omega,S1,S2,by rw[this,List.append_nil];exact q1,q2,by omega,q4,q5⟩
theorem Ir (w0 w:World) (base g c N:Nat) (gH:FuncId) (dF:Array Value) (K:Int->Int) (D:Int->Prop) (hc:LF w0 g gH dF K D) (hl:N<=40) (xs:List Int) (hs:Sd w0 w base g c xs) (hN:xs.length=N) (hD:∀x∈xs,D x):
  Calls Tryz.prog 224 #[.slice (some ⟨g,0,none⟩) N c,.int .i64 N,.func (.func gH) #[] dF] w fun e w'=>e=.returned (.tuple #[])/\∃W,Sd w0 w' base g c W/\W.Perm xs/\jE K W:=by
 have Hc:=zh hc;have Hs:=zh hs;have HD:=zh hD;have HN:=zh hN;clear hc hs hD hN
 go_enter Tryz.func224,Tryz.ntmps224
 go_wp2
 go_loopw [7,8] (fun ta tb wr=>∃(r:Nat) (S R:List Int),ta=.int .i64 ((20*r:Nat):Int)/\tb=.int .i64 ((20*r+20:Nat):Int)/\Xp K xs N r S R/\Sd w0 wr base g c (S++R)) (fun ta _ _=>100-(intOf ta).toNat)
 case atStart=>exact⟨0,[],xs,rfl,rfl,⟨by omega,rfl,List.Perm.refl _,fun e=>by omega,fun e=>by omega⟩,Hs.out⟩
 case round=>
  obtain⟨r,S,R,rfl,rfl,hB,hs⟩:=hrel;have oG:=hB.le;have HB:=zh hB;have b_:=zh hs;clear hB hs;obtain⟨a,ha⟩:∃z,z=20*r:=⟨_,rfl⟩
  obtain⟨b,hb⟩:∃z,z=20*r+20:=⟨_,rfl⟩
  have m1:IntKind.i64.wrap ((b:Int)+20)=((b+20:Nat):Int):=by rw[aF _ (by omega) (by omega)];omega
  obtain⟨b2,bj⟩:∃z,z=b+20:=⟨_,rfl⟩
  rw[<- bj]at m1;rw[<- hb,<- ha];have Qp:=zh (And.intro ha (And.intro hb bj));have Qm:a<=N:=by omega
  clear ha hb bj oG;have hdn:∀x∈R,D x:=fun x hx=>HD.out x ((HB.out.perm.mem_iff).1 (List.mem_append_right _ hx))
  have Hdn:=zh hdn;have hSR:S.length+R.length=N:=by rw[<- List.length_append,HB.out.perm.length_eq,HN.out]
  have HSR:=zh hSR;clear hdn hSR
  by_cases rK:b<=N
  ·have ac8:((b:Int)<=(N:Int))=True:=by simp;omega
   go_wp2_with fail
   refine(qV w0 wr base g c N gH dF K D Hc.out (by omega) S (R.take 20) (R.drop 20) (S++R) a b (by rw[List.take_append_drop]) b_.out (by rw[HB.out.perm.length_eq,HN.out]) (by rw[HB.out.len];exact Qp.out.1.symm) ?_ ?_).mono ?_
   ·have h1:=HSR.out;have h2:=HB.out.len;have h3:=Qp.out
    rw[List.length_take];omega
   ·intro x hx;exact Hdn.out x (List.mem_of_mem_take hx)
   ·rintro e w2 ⟨rfl,W,vS,Xq,PI⟩
    have hWl:W.length=20:=by
     have h1:=HSR.out;have h2:=HB.out.len;have h3:=Qp.out
     rw[Xq.length_eq,List.length_take];omega
    have vz:=zh (HB.out.next hl (by have h3:=Qp.out;omega) (List.take_append_drop 20 R).symm Xq PI hWl)
    have ew:Hid (Sd w0 w2 base g c ((S++W)++R.drop 20)):=by show Sd _ _ _ _ _ _;rw[List.append_assoc];exact vS
    clear vS Xq PI hWl;go_wp2;go_roundw
    case rel=>exact⟨r+1,S++W,R.drop 20,by have h3:=Qp.out;rw[h3.2.1,show 20*(r+1)=20*r+20 by omega],by have h3:=Qp.out;rw[h3.2.2,h3.2.1,show 20*(r+1)+20=20*r+20+20 by omega],vz.out,ew.out⟩
    case measure=>have h3:=Qp.out;simp[intOf];omega
  ·have ac8:((b:Int)<=(N:Int))=False:=by simp;omega
   go_wp2_with fail
   refine(qV w0 wr base g c N gH dF K D Hc.out (by omega) S R [] (S++R) a N (by rw[List.append_nil]) b_.out (by rw[HB.out.perm.length_eq,HN.out]) (by rw[HB.out.len];exact Qp.out.1.symm) ?_ Hdn.out).mono ?_
   ·have h1:=HSR.out;have h2:=HB.out.len;have h3:=Qp.out;omega
   ·rintro e w2 ⟨rfl,W,vS,Xq,PI⟩
    obtain⟨f1,f2⟩:=HB.out.fin hl HN.out (by have h3:=Qp.out;omega) Xq PI
    rw[List.append_nil]at vS;obtain⟨L,hL⟩:∃z,z=S++W:=⟨_,rfl⟩
    rw[<- hL]at f1 f2 vS;have Hf:=zh (And.intro f1 (And.intro f2 vS));clear f1 f2 vS hL Xq PI;obtain⟨wq,rfl⟩:∃z,z=w2:=⟨_,rfl⟩
    go_wp2
    go_loopw [6,7,8,9] (fun t6 _ _ _ wr=>(t6=.int .i64 20/\∃L,L.Perm xs/\((N<=20/\jE K L)\/(20<N/\Two K L))/\Sd w0 wr base g c L)\/(t6=.int .i64 40/\∃L,L.Perm xs/\jE K L/\Sd w0 wr base g c L)) (fun t6 _ _ _ _=>50-(intOf t6).toNat)
    case atStart=>exact .inl ⟨rfl,L,Hf.out.1,Hf.out.2.1,Hf.out.2.2⟩
    case round=>
     rcases hrel with⟨rfl,L1,p1,(⟨q1,q2⟩ | ⟨q1,S1,S2,q2,q3,q4,q5,q6⟩),q7⟩ | ⟨rfl,L1,p1,q2,q7⟩
     ·have Hq:=zh (And.intro p1 (And.intro q2 q7));have LR:¬(20:Int)<(N:Int):=by omega
      clear p1 q2 q7;go_wp2
      go_end0
      exact⟨rfl,L1,Hq.out.2.2,Hq.out.1,Hq.out.2.1⟩
     ·have Hq:=zh (And.intro p1 (And.intro q2 (And.intro q3 (And.intro q4 (And.intro q5 (And.intro q6 q7))))));have LR:(20:Int)<(N:Int):=by omega
      have h2l:20+S2.length=N:=by rw[<- HN.out,<- p1.length_eq,q2,List.length_append,q3]
      have H2l:=zh h2l
      have hDD:∀x∈S1++S2,D x:=fun x hx=>HD.out x (p1.mem_iff.1 (by rw[q2];exact hx))
      have HDD:=zh hDD;clear p1 q2 q3 q4 q5 q6 q7 h2l hDD;obtain⟨wv,rfl⟩:∃z,z=wr:=⟨_,rfl⟩
      have rJ:∀(W0:World),Sd w0 W0 base g c L1->Calls Tryz.prog 237 #[.slice (some ⟨g,0,none⟩) N c,.int .i64 0,.int .i64 20,.int .i64 N,.func (.func gH) #[] dF] W0 fun e w'=>e=.returned (.tuple #[])/\∃W,Sd w0 w' base g c W/\W.Perm xs/\jE K W:=fun W0 h0=>by
       have h9:=Cy w0 base g c N gH dF K D Hc.out.on (by omega) (S1.length+S2.length) [] S1 S2 [] L1 0 20 N W0 (by rw[Hq.out.2.1];simp) h0 (by rw[Hq.out.1.length_eq,HN.out]) rfl (by rw[Hq.out.2.2.1]) H2l.out (by rw[Hq.out.2.2.1];omega) Hq.out.2.2.2.1 Hq.out.2.2.2.2.1 Hq.out.2.2.2.2.2.1 HDD.out (Nat.le_refl _)
       refine h9.mono ?_;rintro e w' ⟨rfl,W,z1,z2,z3⟩
       exact⟨rfl,W,by simpa using z1,by rw[<- Hq.out.2.1]at z2;exact z2.trans Hq.out.1,z3⟩
      have aaY:=zh rJ;clear rJ;have hq7:Hid (Sd w0 wv base g c L1):=Hq.out.2.2.2.2.2.2;go_wp2
      go_loopw [7,8] (fun ta tb wr=>(ta=.int .i64 0/\tb=.int .i64 40/\Sd w0 wr base g c L1)\/(N=40/\ta=.int .i64 40/\tb=.int .i64 80/\∃W,Sd w0 wr base g c W/\W.Perm xs/\jE K W)) (fun _ tb _=>100-(intOf tb).toNat)
      case atStart=>exact .inl ⟨rfl,rfl,hq7.out⟩
      case round=>
       rcases hrel with⟨rfl,rfl,hs⟩ | ⟨Sr,rfl,rfl,W,z1,z2,z3⟩
       ·have nl:=zh hs;clear hs
        by_cases h40:N=40
        ·have h41:(40:Int)<=(N:Int):=by omega
         have h42:40<=N:=by omega
         have hk:=aaY.out wr nl.out;rw[show((N:Nat):Int)=40 by omega]at hk
         have Hk:=zh hk;have H40:=zh h40;clear hk h40;go_wp2_with fail;refine Hk.out.mono ?_;rintro e w3 ⟨rfl,W,z1,z2,z3⟩;have Hz:=zh (And.intro z1 (And.intro z2 z3));clear z1 z2 z3;go_wp2;go_roundw
         case rel=>exact .inr ⟨H40.out,by first | rfl | go_num,by first | rfl | go_num,W,Hz.out⟩
         case measure=>simp[intOf]
        ·have h41:¬(40:Int)<=(N:Int):=by omega
         have h42:N<40:=by omega
         go_wp2_with fail;refine(aaY.out wr nl.out).mono ?_;rintro e w3 ⟨rfl,W,z1,z2,z3⟩;have Hz:=zh (And.intro z1 (And.intro z2 z3));clear z1 z2 z3;go_wp2;go_roundw
         case rel=>exact .inr ⟨by first | rfl | go_num,W,Hz.out.2.1,Hz.out.2.2,Hz.out.1⟩
         case measure=>simp[intOf]
       ·have Hz:=zh (And.intro z1 (And.intro z2 z3));clear z1 z2 z3;have h81:¬(80:Int)<=(N:Int):=by omega
        have h82:N<80:=by omega
        have h61:¬(60:Int)<(N:Int):=by omega
        have h62:N<=60:=by omega
        clear Sr;go_wp2;go_roundw
        case rel=>exact .inr ⟨by first | rfl | go_num,W,Hz.out.2.1,Hz.out.2.2,Hz.out.1⟩
        case measure=>simp[intOf]
     ·have Hq:=zh (And.intro p1 (And.intro q2 q7));have LR:¬(40:Int)<(N:Int):=by omega
      clear p1 q2 q7;go_wp2
      go_end0
      exact⟨rfl,L1,Hq.out.2.2,Hq.out.1,Hq.out.2.1⟩
theorem yy (w0 w:World) (base g c N:Nat) (gH:FuncId) (dF:Array Value) (K:Int->Int) (D:Int->Prop) (hc:LF w0 g gH dF K D) (hl:N<=40) (xs:List Int) (hs:Sd w0 w base g c xs) (hN:xs.length=N) (hD:∀x∈xs,D x):
  Calls Tryz.prog 206 #[.slice (some ⟨g,0,none⟩) N c,.func (.func gH) #[] dF] w fun e w'=>e=.returned (.tuple #[])/\∃W,Sd w0 w' base g c W/\W.Perm xs/\jE K W:=by
 have Hs:=zh (Ir w0 w base g c N gH dF K D hc hl xs hs hN hD);clear hc hs hD hN
 go_enter Tryz.func206,Tryz.ntmps206
 go_wp2_with fail;refine Hs.out.mono ?_;rintro e w1 ⟨rfl,W,z1,z2,z3⟩;have Hz:=zh (And.intro z1 (And.intro z2 z3));clear z1 z2 z3;go_wp2
 go_end0
 exact⟨rfl,W,Hz.out⟩
theorem Is:∀args w,(callFunc 207 args).run Tryz.prog w=.ok (.enter 207 args) w:=enters_of Tryz.func207 (by kernel_rfl) rfl
theorem Su (x y p q:Int) (b gb off n c:Nat) (w:World) (hx:0<=x/\x<n) (hy:0<=y/\y<n) (hc:w.cell? ⟨b,0,none⟩=some (.slice (some ⟨gb,off,none⟩) n c)) (h1:w.cell? ⟨gb,off+x.toNat,none⟩=some (.int .i64 p)) (h2:w.cell? ⟨gb,off+y.toNat,none⟩=some (.int .i64 q)) (hp : -1000<=p/\p<=1000) (hq : -1000<=q/\q<=1000):
  Calls Tryz.prog 207 #[.int .i64 x,.int .i64 y,.pointer (some ⟨b,0,none⟩)] w fun e w'=>e=.returned (.int .i64 (q-p))/\Below w.heap.size w w':=by
 obtain⟨a,rfl⟩:=Int.eq_ofNat_of_zero_le hx.1;obtain⟨d,rfl⟩:=Int.eq_ofNat_of_zero_le hy.1;rw[Int.toNat_natCast]at h1 h2;have ha:a<n:=by omega
 have hd:d<n:=by omega
 have m1:IntKind.i64.wrap (q-p)=q-p:=aF _ (by omega) (by omega);clear hx hy hp hq
 go_enter Tryz.func207,Tryz.ntmps207
 go_wp2_with fail
 go_region
 go_wp2;go_ret;exact⟨rfl,(aj (ad _)).below⟩
theorem EU {n:Nat} {x:Int} (h:x∈gK n):0<=x/\x<(n:Int):=by
 unfold gK at h;obtain⟨k,hk,rfl⟩:=List.mem_map.1 h
 have:=List.mem_range.1 hk
 show 0<=(k:Int)/\(k:Int)<n
 omega
theorem EV (v:Value) (ds:List Int) (w:World) (h:aY w v ds) (kz:1<=ds.length) (hn:ds.length<=40) (hb:∀x∈ds,-1000<=x/\x<=1000):
  Calls Tryz.prog 151 #[v] w fun e w'=>∃u l,e=.returned u/\Own w' w.heap.size u l/\l.Perm (gK ds.length)/\l.Pairwise (fun x y=>ds.getD y.toNat 0<=ds.getD x.toNat 0)/\Below w.heap.size w w':=by
 obtain⟨AL,cL,rfl,yX,nz,hA⟩:=id h;have HA:=zh hA;have Mi:=zh hb;have Hh:=zh h;clear hA hb h;obtain⟨w0,cG⟩:∃w0,w0=(w).alloc (.cells #[.slice AL ds.length cL] 25):=⟨_,rfl⟩
 have nu:Below w.heap.size w w0:=by rw[cG];exact((Below.refl _ _).alloc (by simp) _)
 have dL:∀W,aa w0 W->W.cell? ⟨w.heap.size,0,none⟩=some (.slice AL ds.length cL):=ae (by rw[cG];simp)
 have aT:=zh nu;have bK:=zh cG;clear nu cG
 have HAb:Hid (∀(k:Nat),k<ds.length->∃b off,AL=some ⟨b,off,none⟩/\b<w.heap.size/\w0.cell? ⟨b,off+k,none⟩=some (.int .i64 (ds.getD k 0))):=fun k hk=>by
  obtain⟨b,off,e,hc⟩:=HA.out k (ds.getD k 0) (by rw[zDd,List.getElem?_eq_getElem hk];rfl)
  exact⟨b,off,e,vV hc,ae hc w0 aT.out⟩
 clear HA Hh
 go_enter Tryz.func151,Tryz.ntmps151
 go_upto_region 1 with(fail);rw[<- bK.out];have bB:aa w0 w0:=ad _;have q0:=dL w0 bB;go_wp2_with fail;refine(qz ds.length (by omega) w0).mono ?_;rintro e w1 ⟨u,rfl,ho,ay⟩
 have cG:w0.heap.size=w.heap.size+1:=by rw[bK.out];simp
 have cY:aa w0 w1:=ay;rcases ho.cases with⟨-,h2⟩ | ⟨g,c,hv,iH,lh⟩
 ·exfalso
  have h3:ds.length=0:=by rw[<- fM ds.length,h2];rfl
  omega
 rw[fM]at hv;subst hv
 have Mj:Sd w1 w1 w0.heap.size g c (gK ds.length):=⟨by rw[fM];exact ho,bg.refl _ _⟩
 have hcx:LF w1 g 207 #[.pointer (some ⟨w.heap.size,0,none⟩)] (fun x => - ds.getD x.toNat 0) (fun x=>0<=x/\x<(ds.length:Int)):=by
  refine⟨fun x y hx hy W hW=>?_,Is⟩
  obtain⟨b,off,e1,qE,c1⟩:=HAb.out x.toNat (by omega);obtain⟨b',oY,e2,ad8,c2⟩:=HAb.out y.toNat (by omega);rw[e1]at e2;cases e2
  have d0:W.cell? ⟨w.heap.size,0,none⟩=some (.slice (some ⟨b,off,none⟩) ds.length cL):=by
   have h9:=dL w1 cY;rw[e1]at h9
   exact hW.cell (by simp;omega) h9
  have d1:=hW.cell (p:=⟨b,off+x.toNat,none⟩) (by simp;omega) (ae c1 w1 cY)
  have d2:=hW.cell (p:=⟨b,off+y.toNat,none⟩) (by simp;omega) (ae c2 w1 cY)
  have hxm:=Mi.out (ds.getD x.toNat 0) (jY (by omega));have hym:=Mi.out (ds.getD y.toNat 0) (jY (by omega));refine(Su x y _ _ w.heap.size b off ds.length cL W hx hy d0 d1 d2 hxm hym).mono ?_;rintro e w' ⟨rfl,km⟩;refine⟨?_,km⟩;rw[show ds.getD y.toNat 0-ds.getD x.toNat 0 = - ds.getD x.toNat 0 - - ds.getD y.toNat 0 by omega]
 have I3:=yy w1 w1 w0.heap.size g c ds.length _ _ _ _ hcx hn (gK ds.length) Mj (fM _) (fun x hx=>EU hx)
 have Hss:=zh I3;have Hg:=zh (And.intro iH lh);have dC:=zh cY;have mX:=zh cG;clear Mj hcx I3 ho ay iH lh cY bB q0 cG;go_wp2_with fail;refine Hss.out.mono ?_;rintro e w2 ⟨rfl,W,z1,z2,z3⟩;have Hz:=zh (And.intro z1 (And.intro z2 z3));clear z1 z2 z3;go_wp2;go_ret;obtain⟨z1,z2,z3⟩:=Hz.out;refine⟨_,W,rfl,?_,z2,?_,?_⟩
 ·have h9:=z1.own;rw[z2.length_eq,fM]at h9
  exact h9.mono (by have:=mX.out;omega)
 ·exact z3.imp (fun {x y} h9=>by have h8 : - ds.getD x.toNat 0 <= - ds.getD y.toNat 0:=h9;omega)
 ·have h9:Below w.heap.size w1 w2:=z1.only.below w.heap.size (by have:=dC.out.below.size;have:=mX.out;omega) (fun k hk=>by have:=Hg.out;have:=mX.out;simp at hk;omega)
  exact Below.trans (aa.after aT.out dC.out).below h9
end Go.Proofs.YtgmdpppljkmabaaGreat
