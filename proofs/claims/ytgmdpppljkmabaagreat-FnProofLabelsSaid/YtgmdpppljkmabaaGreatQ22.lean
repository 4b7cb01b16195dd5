/- Parts of the proof: walks of functions and plain laws. -/
import Derived.Test.YtgmdpppljkmabaaGreatQ0
import Derived.Test.YtgmdpppljkmabaaGreatQ1
import Derived.Test.YtgmdpppljkmabaaGreatQ9
import Derived.Test.YtgmdpppljkmabaaGreatQ11
import Derived.Test.YtgmdpppljkmabaaGreatQ12
import Derived.Test.YtgmdpppljkmabaaGreatQ21
import Derived.Test.YtgmdpppljkmabaaGreatQ18
import Derived.Test.YtgmdpppljkmabaaGreatQ4
import Derived.Test.YtgmdpppljkmabaaGreatQ8
import Derived.Laws.EntriesVeiled
import Derived.Test.YtgmdpppljkmabaaGreatQ10
set_option maxRecDepth 100000
set_option maxHeartbeats 16000000
namespace Go.Proofs.YtgmdpppljkmabaaGreat
open Go Go.RowKit
def JC (e:Ed):Bool:=(e.1==e.2.2.1)&&(e.2.1==e.2.2.2)
theorem Pd (n:ak):(ch n).any JC=Ai n:=by
 unfold Ai;congr 1
theorem Pe (x:Ed) (w:World):Calls Tryz.prog 148 #[.agg #[.int .i64 x.1,.int .i64 x.2.1,.int .i64 x.2.2.1,.int .i64 x.2.2.2]] w fun e w'=>e=.returned (.bool (JC x))/\Below w.heap.size w w':=by
 unfold JC;obtain⟨a,b,c,d⟩:=x;obtain⟨w0,cG⟩:∃w0,w0=w.alloc (.cells #[.int .i64 a,.int .i64 b,.int .i64 c,.int .i64 d] 136):=⟨_,rfl⟩
 have aT:Hid (Below w.heap.size w w0):=by rw[cG];exact am _ _
 have p0:∀W,aa w0 W->W.cell? ⟨w.heap.size,0,none⟩=some (.int .i64 a):=ae (by rw[cG];simp)
 have p1:∀W,aa w0 W->W.cell? ⟨w.heap.size,1,none⟩=some (.int .i64 b):=ae (by rw[cG];simp)
 have p2:∀W,aa w0 W->W.cell? ⟨w.heap.size,2,none⟩=some (.int .i64 c):=ae (by rw[cG];simp)
 have p3:∀W,aa w0 W->W.cell? ⟨w.heap.size,3,none⟩=some (.int .i64 d):=ae (by rw[cG];simp)
 have bK:=zh cG;clear cG
 go_enter Tryz.func148,Tryz.ntmps148
 go_upto_region 1 with(fail);rw[<- bK.out];refine aS 13 (aa w0) (ad _) ?_;simp only[zT]
 iterate 6 (refine bU rfl ?_;simp only[zA])
 iterate 5 (refine im rfl rfl ?_;simp only[zA])
 (first | refine bC rfl rfl ?_ | (refine bU rfl ?_));simp only[zA]
 refine bU rfl ?_;simp only[zA]
 intro W hW;go_wp2;go_ret;exact⟨rfl,aa.after aT.out hW⟩
theorem ED:∀args w,(callFunc 148 args).run Tryz.prog w=.ok (.enter 148 args) w:=enters_of Tryz.func148 (by kernel_rfl) rfl
theorem EE (n:ak) (k:Nat):jR n (k+1)=jR n k+(if ai n k==k then 1 else 0):=by
 unfold jR;rw[List.range_succ,List.countP_append];simp only[List.countP_cons,List.countP_nil,Nat.zero_add]
theorem Ll (n:ak) (k:Nat):jR n k<=k:=by
 unfold jR;exact Nat.le_trans List.countP_le_length (by simp)
theorem Cf (ve vi vn:Value) (n:ak) (w:World) (h:aQ w ve vi vn n) (hn:al n=true):
  Calls Tryz.prog 79 #[.agg #[ve,vi,vn]] w fun e w'=>e=.returned (.bool (sA n))/\Below w.heap.size w w':=by
 have eS:=aE hn;have rg:=eS.1;have rh:=eS.2;have Hn:=zh hn
 obtain⟨w0,A,c,A2,c2,A3,c3,rfl,rfl,rfl,eV,hm,fJ,fB,HA,bK,aT,H,dL,dR,dU⟩:=zB h;clear h
 have bB:aa w0 w0:=ad _;obtain⟨rb,gY⟩:∃rb,sA n=rb:=⟨_,rfl⟩
 have iF:=zh gY;rw[gY];clear hn eS gY
 go_enter Tryz.func79,Tryz.ntmps79
 go_upto_region 1 with(fail);rw[<- bK.out];go_wp2_with fail;refine(zZ _ _ _ n w0 H.out Hn.out).mono ?_;rintro e w1 ⟨u1,rfl,dT,ay⟩;have dC:Hid (aa w0 w1):=ay;have jf:=sl u1 (ch n) 148 #[] JC w1 dT.read ED (fun x _ w _=>Pe x w)
 rw[Pd]at jf;have kG:=zh jf;obtain⟨A1,c1,rfl,dS,rN,_⟩:=id dT.read;unfold maxLen at dS
 have LX:(ch n).length<=240:=by have:=ph Hn.out n.ends.length;show(eJ n n.ends.length).length<=_;omega
 have WJ:=zh LX;clear jf dT ay bB;go_wp2_with fail;refine kG.out.mono ?_;rintro e w2 ⟨rfl,bj⟩;have b_:=zh (dC.out.after bj);have d_:=b_.out;clear bj;cases jd:Ai n
 ·go_wp2_with fail;refine(fV _ _ _ n w2 (H.out.keep b_.out.below) Hn.out).mono ?_;rintro e w3 ⟨u3,rfl,eH,bN⟩;have d9:(bn n).length=n.ends.length:=by simp[bn]
  obtain⟨gc,cc,rfl⟩:∃gc cc,u3=.slice (some ⟨gc,0,none⟩) n.ends.length cc:=by
   rcases eH.cases with⟨-,e1⟩ | ⟨gc,cc,rfl,iH,lh⟩
   ·have:=congrArg List.length e1;rw[d9,List.length_nil]at this;omega
   ·exact⟨gc,cc,by rw[d9]⟩
  have i8:=zh eH;have ew:=zh (b_.out.after bN);have mn:=zh jd;clear eH bN d9 d_ jd;go_wp2
  go_loopw [4,14] (fun u i wr=>∃k:Nat,k<=n.ends.length/\i=.int .i64 k/\u=.int .i64 (jR n k:Nat)/\aa w3 wr) (fun _ i _=>n.ends.length-(intOf i).toNat)
  case atStart=>exact⟨0,Nat.zero_le _,rfl,rfl,ad _⟩
  case round=>
   obtain⟨k,hk,rfl,rfl,bA⟩:=hrel;have Hs:=zh bA;clear bA;have Qj:=Ll n k
   by_cases hlt:k<n.ends.length
   ·have m3:IntKind.i64.wrap ((k:Int)+1)=(k:Int)+1:=aF _ (by omega) (by omega);have m4:IntKind.i64.wrap ((jR n k:Int)+1)=(jR n k:Int)+1:=aF _ (by omega) (by omega);obtain⟨p,hp⟩:∃p,p=ai n k:=⟨_,rfl⟩
    have c1:=(i8.out.since Hs.out).cell (show(bn n)[k]?=some (p:Int)by rw[hp];unfold bn;rw[List.getElem?_map,List.getElem?_range hlt];rfl)
    have jm:=EE n k;rw[<- hp]at jm;clear hp
    by_cases he:p=k
    ·subst he;rw[if_pos (by simp)]at jm;have HN1:=zh jm;clear jm;go_wp2;go_roundw
     case rel=>exact⟨p+1,by omega,by first | rfl | go_num,by rw[HN1.out];first | rfl | go_num,Hs.out⟩
     case measure=>simp[intOf];omega
    ·have lW:((k:Int)==(p:Int))=false:=by simp;omega
     rw[if_neg (by simpa using he)]at jm;have HN1:=zh jm;clear jm he;go_wp2;go_roundw
     case rel=>exact⟨k+1,by omega,by first | rfl | go_num,by rw[HN1.out];first | rfl | go_num,Hs.out⟩
     case measure=>simp[intOf];omega
   ·obtain rfl:k=n.ends.length:=by omega
    have mG:=zh (ew.out.after Hs.out);have q0:=dL _ mG.out;obtain⟨R,hR⟩:∃R,jR n n.ends.length=R:=⟨_,rfl⟩
    rw[hR]at Qj ⊢;have m5:IntKind.i64.wrap ((n.ends.length:Int)-(R:Int))=(n.ends.length:Int)-(R:Int):=aF _ (by omega) (by omega);obtain⟨E,hE⟩:∃E,(ch n).length=E:=⟨_,rfl⟩
    have aaF:((E:Int)==(n.ends.length:Int)-(R:Int))=rb:=by
     rw[<- iF.out];unfold sA;rw[mn.out,hR,hE,Bool.not_false,Bool.true_and,Bool.eq_iff_iff,beq_iff_eq,decide_eq_true_eq];omega
    rw[hE]at rN ⊢;have acG:=zh aaF;clear aaF hR hE hk hlt;go_wp2;go_ret;exact⟨bQ acG.out,aa.after aT.out mG.out⟩
 ·have hf:rb=false:=by rw[<- iF.out];unfold sA;rw[jd];rfl
  subst hf;go_wp2;go_ret;exact⟨rfl,aa.after aT.out b_.out⟩
theorem H5 {w:World} {base:Nat} {v:Value} {CK:List (List Bool)} {S:List Nat} (h:md w base v CK S) (hl:0<CK.length):∃g c,v=.slice (some ⟨g,0,none⟩) CK.length c:=by
 obtain⟨vs,Ss,h1,-⟩:=h;rcases dz h1 with⟨-,h0⟩ | ⟨g,c,rfl,-⟩
 ·omega
 ·exact⟨g,c,rfl⟩
def aeg (K:List (List Bool)) (v i:Nat):List (List Bool):=K.set v ((K.getD v []).set i false)
theorem rr.aeg {n:ak} {K:List (List Bool)} {kf:Nat->Nat->Bool} (h:rr n K kf) (v i:Nat):rr n (aeg K v i) (fun x j=>kf x j && !(x==v&&j==i)) where
 len:=by unfold Proofs.YtgmdpppljkmabaaGreat.aeg;rw[List.length_set];exact h.len
 row:=fun x es bW=>by
  obtain⟨row,h1,h2,h3⟩:=h.row x es bW;unfold Proofs.YtgmdpppljkmabaaGreat.aeg
  by_cases e:v=x
  ·subst e
   refine⟨row.set i false,by rw[List.getElem?_set_self (an h1),zDd,h1];rfl,by rw[List.length_set];exact h2,fun j hj=>?_⟩
   rw[List.getElem?_set]
   by_cases e2:i=j
   ·subst e2;rw[if_pos rfl,if_pos (by omega)];simp
   ·rw[if_neg e2,h3 j hj]
    have:(v==v&&j==i)=false:=by simp;exact fun e=>e2 e.symm
    rw[this];simp
  ·refine⟨row,by rw[List.getElem?_set_ne e];exact h1,h2,fun j hj=>?_⟩
   rw[h3 j hj]
   have:(x==v&&j==i)=false:=by simp;exact fun e2=>absurd e2.symm e
   rw[this];simp
theorem EF (n:ak):rr n (kL n n.ends.length) (fun _ _=>true) where
 len:=pX (Nat.le_refl _)
 row:=fun v es bW=>by
  unfold kL;rw[List.take_length]
  exact⟨List.replicate es.length true,by rw[List.getElem?_map,bW];rfl,by simp,fun i hi=>by rw[List.getElem?_replicate,if_pos hi]⟩
theorem EG {n:ak} {v i:Nat} {f:Int×Int}:rr n (aeg (aeg (kL n n.ends.length) v i) f.1.toNat f.2.toNat) (et v i f):=by
 have h:=((EF n).aeg v i).aeg f.1.toNat f.2.toNat
 have e:(fun x j=>(true && !(x==v&&j==i)) && !(x==f.1.toNat&&j==f.2.toNat))=et v i f:=by
  funext x j
  unfold et
  cases (x==v&&j==i) <;> cases (x==f.1.toNat&&j==f.2.toNat) <;> rfl
 rwa [e]at h
theorem pN {w:World} {base g c n:Nat} {K:List (List Bool)} {S:List Nat} (h:md w base (.slice (some ⟨g,0,none⟩) n c) K S) {v i:Nat} {row:List Bool} (hr:K[v]?=some row) (hi:i<row.length):
  ∃gr cr y,w.cell? ⟨g,v,none⟩=some (.slice (some ⟨gr,0,none⟩) row.length cr)/\row.length<=cr/\cr<=9223372036854775807/\w.cell? ⟨gr,i,none⟩=some (.bool y)/\w.frozen? ⟨gr,i,none⟩=false/\base<=gr /\
   md (w.setCell ⟨gr,i,none⟩ (.bool false)) base (.slice (some ⟨g,0,none⟩) n c) (aeg K v i) S:=by
 obtain⟨u,T,h1,h2,h3,h4⟩:=ca.aeM KI h hr;rcases dz h2.row with⟨-,h0⟩ | ⟨gr,cr,rfl,hb,hg,hc,hm⟩
 ·omega
 ·obtain⟨y,hy⟩:=aM row i hi;unfold maxLen at hm;refine⟨gr,cr,y,h1,hc,by omega,h2.cell hy,rT h2.row i,hb,?_⟩
  have h5:=h4 (row.set i false) (w.setCell ⟨gr,i,none⟩ (.bool false)) (h2.set i false) ((bg.refl _ _).setCell (.inl (by rw[h2.2];simp[Value.ownBlock])) _)
  have e:aeg K v i=K.set v (row.set i false):=by unfold aeg;rw[zDd,hr];rfl
  rw[e];exact h5
theorem Pf {n:ak} (hn:al n=true) {v i:Nat} (hv:v<n.ends.length) (hi:i<(n.ends.getD v []).length) : -1<=mq n v i/\mq n v i<=40:=by
 have hp:bv n v i (gj n v i):=gF.2 ⟨hi,rfl⟩;obtain⟨p1,p2,p3,p4,p5⟩:=df hn hp;have hc:=re hn (et v i (gj n v i)) (j9 hn hp);have d9:(gW n (et v i (gj n v i))).ends.length=n.ends.length:=by simp[gW]
 have h1:=sq hc (v:=v) (w:=(gj n v i).1.toNat) (by omega) (by omega);have h2:=(aE hn).2;unfold mq;omega
theorem EH (ve vi vn:Value) (n:ak) (v i:Nat) (w:World) (h:aQ w ve vi vn n) (hn:al n=true) (hv:v<n.ends.length) (hi:i<(n.ends.getD v []).length):
  Calls Tryz.prog 225 #[.agg #[ve,vi,vn],.int .i64 v,.int .i64 i] w fun e w'=>e=.returned (.int .i64 (mq n v i))/\Below w.heap.size w w':=by
 have kz:=(aE hn).1;have lN:=(aE hn).2;have Hn:=zh hn;obtain⟨es,bW⟩:=aM n.ends v hv;have iY:n.ends.getD v []=es:=au bW;rw[iY]at hi;obtain⟨⟨x1,x2⟩,hx⟩:=aM es i hi
 have Je:bv n v i (x1,x2):=by unfold bv;rw[iY];exact hx
 have I7:gj n v i=(x1,x2):=(gF.1 Je).2;obtain⟨-,p2,p3,p4,p5⟩:=df hn Je;obtain⟨a1,rfl⟩:=Int.eq_ofNat_of_zero_le p2;obtain⟨a2,rfl⟩:=Int.eq_ofNat_of_zero_le p4;simp only[Int.toNat_natCast]at p5;have DL:a1<n.ends.length:=by omega
 obtain⟨es2,VQ⟩:=aM n.ends a1 DL
 have SY:a2<es2.length:=by have:=(gF.1 p5).1;rwa [au VQ]at this
 obtain⟨C,hC⟩:∃C,gW n (et v i ((a1:Int),(a2:Int)))=C:=⟨_,rfl⟩
 have aaG:al C=true:=by rw[<- hC];exact re hn _ (j9 hn Je)
 have hCl:C.ends.length=n.ends.length:=by rw[<- hC];simp[gW]
 obtain⟨D,hD⟩:∃D,mq n v i=D:=⟨_,rfl⟩
 have HD:Hid ((bS C v).getD a1 0=D):=by show _=_;rw[<- hD,<- hC];unfold mq;rw[I7];rfl
 rw[hD];have HC:=zh hC;have aaH:=zh aaG;have HCl:=zh hCl;have vj:=(bX hn bW).1
 obtain⟨w0,A,c,A2,c2,A3,c3,rfl,rfl,rfl,eV,hm,fJ,fB,HA,bK,aT,H,dL,dR,dU⟩:=zB h;clear h
 obtain⟨b,y4,cr,ur,g_,Bk,dS,yH⟩:=gy H.out.es bW;cases g_;obtain⟨A1,z1,rfl,dV,d8,g_⟩:=yH;unfold maxLen at d8;obtain⟨b1,oZ,rfl,j6,iq⟩:=g_ i _ hx;have t0:=ae dS;have t1:=ae j6;have t2:=ae iq;have bB:aa w0 w0:=ad _;have kw:=zh bW;have acH:=zh VQ;obtain⟨w1,ou⟩:∃w1,w1=w0.alloc (.cells #[.int .i64 (a1:Int),.int .i64 (a2:Int)] 83):=⟨_,rfl⟩
 have cY:aa w0 w1:=by rw[ou];exact ag _ (ad _)
 obtain⟨eb,R3⟩:∃eb,eb=w0.heap.size:=⟨_,rfl⟩
 have k0:∀W,aa w1 W->W.cell? ⟨eb,0,none⟩=some (.int .i64 (a1:Int)):=ae (by rw[ou,R3];simp)
 have k1:∀W,aa w1 W->W.cell? ⟨eb,1,none⟩=some (.int .i64 (a2:Int)):=ae (by rw[ou,R3];simp)
 have dC:=zh cY;have Q_:=zh ou;have UV:=zh R3;clear hn iY hx Je I7 p2 p3 p4 p5 hC aaG hCl hD dS g_ j6 iq bW VQ ou R3
 go_enter Tryz.func225,Tryz.ntmps225
 go_upto_region 1 with(fail);rw[<- bK.out];go_upto_region 2 with(fail);rw[<- Q_.out,<- UV.out];clear bB;go_wp2_with fail;refine(KN _ _ _ n w1 (H.out.keep dC.out.below) Hn.out).mono ?_;rintro e w2 ⟨u2,S2,rfl,dl,bj⟩
 obtain⟨gB,cB,vI⟩:=H5 dl (by rw[pX (Nat.le_refl _)];omega)
 rw[pX (Nat.le_refl _)]at vI;subst vI;have aaI:aa w1 w2:=bj
 have vr:(kL n n.ends.length)[v]?=some (List.replicate es.length true):=by unfold kL;rw[List.take_length,List.getElem?_map,kw.out];rfl
 obtain⟨gr,cr0,y0,m1,m2,m3,m4,m5,m6,pO⟩:=pN dl vr (i:=i) (by simpa using hi);rw[List.length_replicate]at m1 m2;obtain⟨K1,hK1⟩:∃K1,aeg (kL n n.ends.length) v i=K1:=⟨_,rfl⟩
 rw[hK1]at pO;obtain⟨ad5,JD,R4,-⟩:=(((EF n).aeg v i)).row a1 es2 acH.out;rw[hK1]at JD;obtain⟨w3,iR⟩:∃w3,w3=w2.setCell ⟨gr,i,none⟩ (.bool false):=⟨_,rfl⟩
 have zq:aa w1 w3:=by rw[iR];exact Below.setCell aaI m6 _
 rw[<- iR]at pO;obtain⟨gr2,cr2,y2,q1,q2,q3,q4,q5,q6,kE⟩:=pN pO JD (i:=a2) (by omega);rw[R4]at q1 q2;have acI:=zh pO;have aaJ:=zh JD
 have HKI:Hid (rr n (aeg K1 a1 a2) (et v i ((a1:Int),(a2:Int)))):=by rw[<- hK1];exact EG (f:=((a1:Int),(a2:Int)))
 have VR:=zh zq;have xc:=zh iR;have r1:=ae q1;have e0:=ah k0 zq;have e1:=ah k1 zq;have h00:=ah dL dC.out;have nk:=ah dR dC.out;have h02:=ah dU dC.out;clear dl bj vr pO kE zq iR hK1 JD q1 q4 q5 m6 q6 t0 t1 t2 dL dR dU;go_upto_region 4 with(fail);rw[<- xc.out];clear aaI m1 m4 m5;refine ar 8 (aa w3) (by kernel_rfl) (by kernel_rfl) (by simp) (aj (ad _)) ?_;simp only[zT]
 iterate 8 (refine bU rfl ?_;simp only[zA])
 intro W hW;have aaK:=uL.keep acI.out hW.below;obtain⟨gr3,cr3,y3,n1,n2,n3,n4,n5,n6,VS⟩:=pN aaK aaJ.out (i:=a2) (by omega);have hn:=(r1 W hW).symm.trans n1;simp only[Option.some.injEq,Value.slice.injEq,Addr.mk.injEq,and_true]at hn;obtain⟨rfl,-,rfl⟩:=hn;obtain⟨w4,iC⟩:∃w4,w4=W.setCell ⟨gr2,a2,none⟩ (.bool false):=⟨_,rfl⟩
 have Lm:aa w1 w4:=by rw[iC];exact Below.setCell (VR.out.after hW) n6 _
 rw[<- iC]at VS;have YA:=zh VS;have R5:=zh Lm;have J7:=zh iC;have u0:=ah k0 Lm;have u1:=ah h00 Lm;have u2:=ah nk Lm;have u3:=ah h02 Lm;have HKr:Hid (∀X,aa w4 X->pu X (.slice (some ⟨gB,0,none⟩) n.ends.length cB) (aeg K1 a1 a2)):=fun X hX=>(md.read YA.out).keep hX.below
 have HNr:Hid (∀X,aa w4 X->aQ X (.slice (some ⟨b,y4,none⟩) n.ends.length c) (.slice A2 n.ids.length c2) (.slice A3 n.aea.length c3) n):=fun X hX=>H.out.keep (dC.out.after (R5.out.after hX)).below
 clear hW r1 e0 e1 n1 n6 VS iC Lm aaK k0 k1 h00 nk h02;go_upto_region 5 with(fail);rw[<- J7.out];clear n4 n5;refine cH (w0:=w4) 9 [false,false,true,false,true,false,false,true,true] (by kernel_rfl) (by kernel_rfl) (ad _) ?_;simp only[eE,ea,zT]
 iterate 5 (apply aR rfl;(intro W hW;go_simp;with_reducible rfl);simp only[zA])
 intro W hW;refine Or.inl ⟨rfl,?_⟩
 go_simp
 (with_reducible refine(KT _ _ _ _ n _ _ W (HNr.out W hW) Hn.out (HKr.out W hW) HKI.out).mono ?_)
 rintro e W' ⟨qe,qi,qn,Sq,rfl,YW,IE⟩;refine⟨_,rfl,hW.trans IE,?_⟩
 replace hW:=hW.trans IE
 have HCq:Hid (∀X,aa W' X->aQ X qe qi qn C):=(fun X hX=>by have h9:=YW.read;rw[HC.out]at h9;exact h9.keep hX.below)
 clear YW IE
 (try simp only[zA])
 refine Or.inl ⟨rfl,?_⟩
 go_simp
 (with_reducible refine(i9 _ _ _ C v _ (HCq.out _ (ad _)) aaH.out (by rw[HCl.out];exact hv)).mono ?_)
 rintro e W' ⟨ud,rfl,Fx,s_⟩;refine⟨_,rfl,hW.trans s_,?_⟩
 replace hW:=hW.trans s_
 obtain⟨gd,cd,dd,rfl,yG,cdd,iY⟩:=DJ aaH.out (by rw[HCl.out];exact hv) (show a1<C.ends.length by rw[HCl.out];exact DL) Fx
 have acJ:dd=D:=by rw[<- HD.out,au yG]
 subst acJ;rw[HCl.out]at *
 clear Fx s_ yG iY
 (try simp only[zA])
 refine dG (v:=?_) rfl ?_ hW ?_;rotate_left;(go_simp;with_reducible rfl)
 simp only[zA]
 refine dG (v:=?_) rfl ?_ hW ?_;rotate_left;(go_simp;with_reducible rfl)
 simp only[zA];simp only[bz];have HW:=zh (R5.out.after hW);clear hW;go_wp2;go_ret;exact⟨rfl,aa.after aT.out (dC.out.after HW.out)⟩
theorem EJ (ve vi vn:Value) (n:ak) (w:World) (h:aQ w ve vi vn n) (hn:al n=true):
  Calls Tryz.prog 213 #[.agg #[ve,vi,vn]] w fun e w'=>e=.returned (.int .i64 (BU n))/\Below w.heap.size w w':=by
 have eS:=aE hn;have rg:=eS.1;have rh:=eS.2;have Hn:=zh hn
 obtain⟨w0,A,c,A2,c2,A3,c3,rfl,rfl,rfl,eV,hm,fJ,fB,HA,bK,aT,H,dL,dR,dU⟩:=zB h;clear h
 have bB:aa w0 w0:=ad _;obtain⟨rb,gY⟩:∃rb,BU n=rb:=⟨_,rfl⟩
 have iF:Hid (Qc n n.ends.length=rb):=gY;rw[gY];clear hn eS gY
 go_enter Tryz.func213,Tryz.ntmps213
 go_upto_region 1 with(fail);rw[<- bK.out];go_wp2
 go_loopw [3,11] (fun o i wr=>∃k:Nat,k<=n.ends.length/\i=.int .i64 k/\o=.int .i64 (Qc n k)/\aa w0 wr) (fun _ i _=>n.ends.length-(intOf i).toNat)
 case atStart=>exact⟨0,Nat.zero_le _,rfl,rfl,bB⟩
 case round=>
  obtain⟨k,hk,rfl,rfl,bA⟩:=hrel;have Hs:=zh bA;clear bB;obtain⟨o0,ho0⟩:∃o0,Qc n k=o0:=⟨_,rfl⟩
  have Ho0:=zh ho0;rw[ho0];clear ho0
  by_cases hlt:k<n.ends.length
  ·obtain⟨es,bW⟩:=aM n.ends k hlt;have dB:=bX Hn.out bW;have vj:=dB.1;have iY:n.ends.getD k []=es:=au bW;obtain⟨b,y4,cr,ur,g_,Bk,dS,yH⟩:=gy H.out.es bW;cases g_;obtain⟨A1,z1,rfl,dV,d8,g_⟩:=yH;unfold maxLen at d8;have r9:=zh g_;have r1:=ah (ae dS) Hs.out;have q5:=r1 wr (ad _);have iL:=zh iY;have m4:IntKind.i64.wrap ((k:Int)+1)=(k:Int)+1:=aF _ (by omega) (by omega);clear bW dB dS g_ iY;go_wp2
   go_loopw [3,20] (fun o i wq=>∃j:Nat,j<=es.length/\i=.int .i64 j/\o=.int .i64 (BS n k j o0)/\aa w0 wq) (fun _ i _=>es.length-(intOf i).toNat)
   case atStart=>exact⟨0,Nat.zero_le _,rfl,rfl,Hs.out⟩
   case round=>
    obtain⟨j,hj,rfl,rfl,po⟩:=hrel;have jJ:=zh po;obtain⟨o1,dT⟩:∃o1,BS n k j o0=o1:=⟨_,rfl⟩
    have Zb:=tF n k j o0;rw[dT]at Zb ⊢;have HSu:=zh Zb;have rP:=zh dT;clear Zb dT
    by_cases mH:j<es.length
    ·obtain⟨⟨x1,x2⟩,hx⟩:=aM es j mH;obtain⟨b1,oZ,rfl,j6,iq⟩:=r9.out j _ hx;have t1:=ae j6 wr jJ.out;have t2:=ae iq wr jJ.out
     have I7:gj n k j=(x1,x2):=by unfold gj;rw[iL.out];exact au hx
     have m3:IntKind.i64.wrap ((j:Int)+1)=(j:Int)+1:=aF _ (by omega) (by omega);obtain⟨w8,kH⟩:∃w8,w8=wr.alloc (.cells #[.int .i64 x1,.int .i64 x2] 83):=⟨_,rfl⟩
     have mc:aa w0 w8:=by rw[kH];exact ag _ jJ.out
     have Kc:=zh kH
     have d00:w8.cell? ⟨wr.heap.size,0,none⟩=some (.int .i64 x1):=by rw[kH];simp
     have I8:w8.cell? ⟨wr.heap.size,1,none⟩=some (.int .i64 x2):=by rw[kH];simp
     have kt:=zh mc;have YN:=zh I7
     have hav:=Pf Hn.out hlt (i:=j) (by rw[iL.out];exact mH)
     obtain⟨d,hd⟩:∃d,mq n k j=d:=⟨_,rfl⟩
     rw[hd]at hav;have Hd:=zh hd
     have kG:=zh (EH _ _ _ n k j w8 (H.out.keep mc.below) Hn.out hlt (by rw[iL.out];exact mH))
     clear hx j6 iq kH I7 hd;go_upto_region 8 with(fail);rw[<- Kc.out];clear t1 t2;cases hg:yB (x1,x2) ((k:Int),(j:Int))
     ·have Tq:qN n k o1 j=qM o1 d:=by unfold qN;rw[YN.out,if_neg (by unfold yB at hg;exact of_decide_eq_false hg),Hd.out]
      have Hgp:=zh Tq;have m5:IntKind.i64.wrap (d+1)=d+1:=aF _ (by omega) (by omega);clear Tq hav;go_wp2_with fail;refine kG.out.mono ?_;rw[Hd.out];rintro e w9 ⟨rfl,km⟩;have z7:=zh (kt.out.after km);clear km d00 I8 mc po;go_upto_region 10 with(fail);refine aS 12 (aa w9) (ad _) ?_;simp only[zT]
      iterate 3 (refine bU rfl ?_;simp only[zA])
      iterate 3 (refine im rfl rfl ?_;simp only[zA])
      iterate 4 (apply gZ rfl rfl;(intro hb bj;intro W hW;go_simp;with_reducible rfl);simp only[zA])
      refine Mt rfl rfl rfl ?_;simp only[zA]
      (first | refine bC rfl rfl ?_ | (refine bU rfl ?_));simp only[zA]
      intro W hW;have HW:=zh (z7.out.after hW);clear hW
      cases zJ:(decide (0<=d)&&((o1==0)||decide (d+1<o1)))
      ·have jd:qM o1 d=o1:=by
        unfold qM;rw[if_neg];rintro⟨h1,h2⟩;rw[Bool.and_eq_false_iff]at zJ;rcases zJ with h3 | h3
        ·exact(of_decide_eq_false h3) h1
        ·rw[Bool.or_eq_false_iff]at h3;rcases h2 with h4 | h4
         ·rw[h4]at h3;simp at h3
         ·exact(of_decide_eq_false h3.2) h4
       have mn:=zh jd;clear jd;go_wp2;go_roundw
       case rel=>exact⟨j+1,by omega,by first | rfl | go_num,by rw[HSu.out,Hgp.out,mn.out],HW.out⟩
       case measure=>simp[intOf];omega
      ·have jd:qM o1 d=d+1:=by
        unfold qM;rw[if_pos];rw[Bool.and_eq_true,Bool.or_eq_true]at zJ;exact⟨of_decide_eq_true zJ.1,zJ.2.elim (fun h=>.inl (by simpa using h)) (fun h=>.inr (of_decide_eq_true h))⟩
       have mn:=zh jd;clear jd;go_wp2;go_roundw
       case rel=>exact⟨j+1,by omega,by first | rfl | go_num,by rw[HSu.out,Hgp.out,mn.out],HW.out⟩
       case measure=>simp[intOf];omega
     ·have Tq:qN n k o1 j=o1:=by unfold qN;rw[YN.out,if_pos (by unfold yB at hg;exact of_decide_eq_true hg)]
      have Hgp:=zh Tq;clear Tq po;go_wp2;go_roundw
      case rel=>exact⟨j+1,by omega,by first | rfl | go_num,by rw[HSu.out,Hgp.out],kt.out⟩
      case measure=>simp[intOf];omega
    ·obtain rfl:j=es.length:=by omega
     have oy:Hid (Qc n (k+1)=o1):=by show _=_;rw[xt,Ho0.out,iL.out,rP.out]
     clear po bA;go_wp2;go_roundw
     case rel=>exact⟨k+1,by omega,by first | rfl | go_num,by rw[oy.out],jJ.out⟩
     case measure=>simp[intOf];omega
  ·obtain rfl:k=n.ends.length:=by omega
   have hb:rb=o0:=by rw[<- iF.out];exact Ho0.out
   subst hb;clear bA;go_wp2;go_ret;exact⟨rfl,aa.after aT.out Hs.out⟩
theorem Cg (ve vi vn:Value) (n:ak) (w:World) (h:aQ w ve vi vn n) (hn:al n=true):
  Calls Tryz.prog 170 #[.agg #[ve,vi,vn]] w fun e w'=>e=.returned (.bool (sA n))/\Below w.heap.size w w':=by
 have Hn:=zh hn
 obtain⟨w0,A,c,A2,c2,A3,c3,rfl,rfl,rfl,eV,hm,fJ,fB,HA,bK,aT,H,dL,dR,dU⟩:=zB h;clear h
 have HE:=zh (QY hn);clear hn
 go_enter Tryz.func170,Tryz.ntmps170
 go_upto_region 1 with(fail);rw[<- bK.out];refine aS 9 (aa w0) (ad _) ?_;simp only[zT]
 refine bU rfl ?_;simp only[zA]
 refine fI ?_ rfl ?_ ?_;rotate_left;(intro W hW;unfold dr;go_simp;(with_reducible refine(Gs _ _ _ n W (H.out.keep hW.below) Hn.out).mono ?_);rintro e W' ⟨rfl,bN⟩;first | (refine⟨?_,aa.trans hW bN⟩;with_reducible rfl) | (subst bN;refine⟨?_,hW⟩;with_reducible rfl))
 simp only[zA]
 iterate 2 (refine bU rfl ?_;simp only[zA])
 refine im rfl rfl ?_;simp only[zA]
 refine dA (v:=?_) rfl rfl ?_ ?_;rotate_left;(intro hb;intro W hW;unfold dr;go_simp;(with_reducible refine(EJ _ _ _ n W (H.out.keep hW.below) Hn.out).mono ?_);rintro e W' ⟨rfl,bN⟩;first | (refine⟨?_,aa.trans hW bN⟩;with_reducible rfl) | (subst bN;refine⟨?_,hW⟩;with_reducible rfl))
 simp only[zA]
 refine im rfl rfl ?_;simp only[zA]
 (first | refine bC rfl rfl ?_ | (refine bU rfl ?_));simp only[zA]
 refine bU rfl ?_;simp only[zA]
 intro W hW;go_wp2;go_ret;exact⟨bQ HE.out.symm,aa.after aT.out hW⟩
def H6 (n:ak) (k:Nat):Prop:=∀v,v<k->mp n v=true
theorem yk {n:ak} (h:H6 n n.ends.length):iT n=true:=by
 unfold iT;rw[List.all_eq_true];exact fun v hv=>h v (List.mem_range.1 hv)
theorem EK (n:ak) (p:Nat):(fa (bn n) (p:Int) (bn n).length).length=jz n p:=by
 unfold fa jz jU
 rw[List.length_map,show(bn n).length=n.ends.length by simp[bn]]
 congr 1
 apply List.filter_congr
 intro v hv;have hv:=List.mem_range.1 hv
 rw[show(bn n).getD v 0=((ai n v:Nat):Int)from au (by unfold bn;rw[List.getElem?_map,List.getElem?_range hv];rfl)]
 simp only[Int.ofNat_inj]
theorem Ln (ve vi vn:Value) (n:ak) (s:Int) (w:World) (h:aQ w ve vi vn n) (hn:al n=true) (hs:1<=s/\s<=5):
  Calls Tryz.prog 106 #[.agg #[ve,vi,vn],.int .i64 s] w fun e w'=>e=.returned (.tuple #[.bool (e_ n s),.bool (lq n s)])/\Below w.heap.size w w':=by
 have eS:=aE hn;have rg:=eS.1;have rh:=eS.2;have Hn:=zh hn
 obtain⟨w0,A,c,A2,c2,A3,c3,rfl,rfl,rfl,eV,hm,fJ,fB,HA,bK,aT,H,dL,dR,dU⟩:=zB h;clear h
 have bB:aa w0 w0:=ad _;obtain⟨r0,vr⟩:∃r,e_ n s=r:=⟨_,rfl⟩
 obtain⟨r1,oD⟩:∃r,lq n s=r:=⟨_,rfl⟩
 have EL:=zh vr;have qL:=zh oD;rw[vr,oD];clear hn eS vr oD
 go_enter Tryz.func106,Tryz.ntmps106
 by_cases h1:s=1
 ·subst h1
  have e0:r0=ll n:=by rw[<- EL.out];unfold e_;rw[if_pos rfl]
  have e1:r1=true:=by rw[<- qL.out];unfold lq;rw[if_neg (by decide)]
  subst e0 e1;go_upto_region 1 with(fail);rw[<- bK.out];go_wp2_with fail;refine(Al _ _ _ n w0 H.out Hn.out).mono ?_;rintro e w1 ⟨u,rfl,ho,hb⟩;have dC:Hid (aa w0 w1):=hb;clear ho hb bB;go_wp2
  go_ret2
  exact⟨rfl,aa.after aT.out dC.out⟩
 by_cases h2:s=2
 ·subst h2
  have e0:r0=I2 (fE n):=by rw[<- EL.out];unfold e_;rw[if_neg h1,if_pos rfl]
  have e1:r1=(fE n).isSome:=by rw[<- qL.out];unfold lq;rw[if_pos rfl]
  subst e0 e1;go_upto_region 1 with(fail);rw[<- bK.out];go_wp2_with fail;refine(uX _ _ _ n w0 H.out Hn.out).mono ?_;rintro e w1 ⟨u,rfl,ho,hb⟩;have dC:Hid (aa w0 w1):=hb;clear ho hb bB;go_wp2
  go_ret2
  exact⟨rfl,aa.after aT.out dC.out⟩
 have e1:r1=true:=by rw[<- qL.out];unfold lq;rw[if_neg h2]
 subst e1
 by_cases h3:s=3
 ·subst h3
  have e0:r0=sA n:=by rw[<- EL.out];unfold e_;rw[if_neg h1,if_neg h2,if_pos rfl]
  subst e0;go_upto_region 1 with(fail);rw[<- bK.out];go_wp2_with fail;refine(Cg _ _ _ n w0 H.out Hn.out).mono ?_;rintro e w1 ⟨rfl,hb⟩;have dC:Hid (aa w0 w1):=hb;clear hb bB;go_wp2
  go_ret2
  exact⟨rfl,aa.after aT.out dC.out⟩
 have b1:(s==1)=false:=by simpa using h1
 have b2:(s==2)=false:=by simpa using h2
 have b3:(s==3)=false:=by simpa using h3
 by_cases hid:n.ids.length=0
 ·have e0:r0=false:=by rw[<- EL.out];unfold e_;rw[if_neg h1,if_neg h2,if_neg h3,if_pos hid]
  subst e0;have QT:((n.ids.length:Int)==0)=true:=by simpa using hid
  clear h1 h2 h3 hid;go_upto_region 1 with(fail);rw[<- bK.out];go_wp2
  go_ret2
  exact⟨rfl,aT.out⟩
 have QT:((n.ids.length:Int)==0)=false:=by simpa using hid
 have UF:¬n.ids=[]:=fun e=>hid (by rw[e];rfl)
 by_cases h4:s=4
 ·subst h4
  have e0:r0=eL n:=by rw[<- EL.out];unfold e_;rw[if_neg h1,if_neg h2,if_neg h3,if_neg hid,if_pos rfl]
  subst e0;clear h1 h2 h3 b1 b2 b3 hid;go_upto_region 1 with(fail);rw[<- bK.out];go_wp2_with fail;refine(xA _ _ _ n w0 H.out Hn.out).mono ?_;rintro e w1 ⟨u,rfl,ho,hb⟩;have dC:Hid (aa w0 w1):=hb;clear ho hb bB;go_wp2
  go_ret2
  exact⟨rfl,aa.after aT.out dC.out⟩
 have b4:(s==4)=false:=by simpa using h4
 have e0:r0=iT n:=by rw[<- EL.out];unfold e_;rw[if_neg h1,if_neg h2,if_neg h3,if_neg hid,if_neg h4]
 have He0:Hid (iT n=r0):=e0.symm;clear e0 h1 h2 h3 h4 hid;go_upto_region 1 with(fail);rw[<- bK.out];go_wp2_with fail;refine(jh _ _ _ n w0 H.out Hn.out).mono ?_;rintro e w2 ⟨u2,rfl,dl,bj⟩;have d9:(bn n).length=n.ends.length:=by simp[bn]
 obtain⟨gc,cc,rfl⟩:∃gc cc,u2=.slice (some ⟨gc,0,none⟩) n.ends.length cc:=by
  obtain⟨x,hx⟩:=aM (bn n) 0 (by omega);obtain⟨g,c,h1,-⟩:=ma dl hx;exact⟨g,c,by rw[h1,d9]⟩
 have eX:=zh dl;have b_:Hid (aa w0 w2):=bj;have Q5:=zh d9;clear dl bj bB d9;go_wp2
 go_loopw [55] (fun i wr=>∃k:Nat,k<=n.ends.length/\i=.int .i64 k/\H6 n k/\aa w2 wr) (fun i _=>n.ends.length-(intOf i).toNat)
 case atStart=>exact⟨0,Nat.zero_le _,rfl,fun v hv=>by omega,ad _⟩
 case round=>
  obtain⟨k,hk,rfl,Mf,bA⟩:=hrel;have Hev:=zh Mf;have Hs:=zh bA;clear Mf bA
  by_cases hlt:k<n.ends.length
  ·have m3:IntKind.i64.wrap ((k:Int)+1)=(k:Int)+1:=aF _ (by omega) (by omega);obtain⟨p,hp⟩:∃p,ai n k=p:=⟨_,rfl⟩
   have LY:=zh (eX.out.since Hs.out)
   have c1:=LY.out.cell (show(bn n)[k]?=some (p:Int)by rw[<- hp];unfold bn;rw[List.getElem?_map,List.getElem?_range hlt];rfl)
   have Hp:=zh hp;have HI:Hid (aY wr (.slice (some ⟨gc,0,none⟩) n.ends.length cc) (bn n)):=LY.out.ints;have jF:=EK n p;rw[Q5.out]at jF;obtain⟨z,hz⟩:∃z,jz n p=z:=⟨_,rfl⟩
   have hzl:z<=n.ends.length:=by rw[<- hz];exact Ah n p _
   rw[hz]at jF;have HSz:=zh jF;have Hz:=zh hz;clear hp jF hz;go_wp2_with fail
   refine(uJ _ (bn n) (p:Int) wr HI.out (by rw[Q5.out];omega)).mono ?_
   rintro e w3 ⟨u3,rfl,eH,bN⟩;rw[Q5.out]at eH
   obtain⟨A3',Dy,rfl⟩:∃A c,u3=.slice A z c:=by
    rcases eH.cases with⟨rfl,e1⟩ | ⟨g,c,rfl,-,-⟩
    ·have:=congrArg List.length e1;rw[HSz.out,List.length_nil]at this;exact⟨none,0,by rw[this]⟩
    ·exact⟨_,c,by rw[HSz.out]⟩
   have ew:=zh (Hs.out.after bN);clear eH bN c1
   by_cases Fx:z%2=1
   ·have t1:Int.tmod (z:Int) 2=1:=by rw[Int.tmod_eq_emod_of_nonneg (by omega)];omega
    have t2:(z:Int)%2=1:=by omega
    have iA:iT n=false:=sy hlt (by unfold mp;rw[Hp.out,Hz.out,Fx];rfl)
    rw[He0.out]at iA;subst iA;go_wp2
    go_ret2
    exact⟨rfl,aa.after aT.out (b_.out.after ew.out)⟩
   ·have t1:Int.tmod (z:Int) 2=0:=by rw[Int.tmod_eq_emod_of_nonneg (by omega)];omega
    have t2:(z:Int)%2=0:=by omega
    have acK:Hid (H6 n (k+1)):=fun v hv=>by
     rcases Nat.lt_or_ge v k with h1 | h1
     ·exact Hev.out v h1
     ·rw[show v=k by omega]
      unfold mp;rw[Hp.out,Hz.out]
      have:(z%2==1)=false:=by simpa using Fx
      rw[this];rfl
    clear Fx;go_wp2;go_roundw
    case rel=>exact⟨k+1,by omega,by first | rfl | go_num,acK.out,ew.out⟩
    case measure=>simp[intOf];omega
  ·obtain rfl:k=n.ends.length:=by omega
   have NH:=yk Hev.out;rw[He0.out]at NH;subst NH;go_wp2
   go_ret2
   exact⟨rfl,aa.after aT.out (b_.out.after Hs.out)⟩
theorem jk (ve vi vn:Value) (n:ak) (s:Int) (w:World) (h:aQ w ve vi vn n) (_ : -9223372036854775808<=s/\s<=9223372036854775807) (_:iK n<=1048576):
  Calls Tryz.prog 34 #[.agg #[ve,vi,vn],.int .i64 s] w fun e w'=>e=.returned (.tuple #[.bool (aB n s),.bool (aC n s)])/\Below w.heap.size w w':=by
 obtain⟨w0,A,c,A2,c2,A3,c3,rfl,rfl,rfl,eV,hm,fJ,fB,HA,bK,aT,H,dL,dR,dU⟩:=zB h;clear h
 obtain⟨r0,vr⟩:∃r,aB n s=r:=⟨_,rfl⟩
 obtain⟨r1,oD⟩:∃r,aC n s=r:=⟨_,rfl⟩
 have EL:=zh vr;have qL:=zh oD;rw[vr,oD];clear vr oD
 go_enter Tryz.func34,Tryz.ntmps34
 go_upto_region 1 with(fail);rw[<- bK.out];refine aS 8 (aa w0) (ad _) ?_;simp only[zT]
 refine bU rfl ?_;simp only[zA]
 refine fI ?_ rfl ?_ ?_;rotate_left;(intro W hW;unfold dr;go_simp;(with_reducible refine(q_ _ _ _ n W (H.out.keep hW.below)).mono ?_);rintro e W' ⟨rfl,bN⟩;first | (refine⟨?_,aa.trans hW bN⟩;with_reducible rfl) | (subst bN;refine⟨?_,hW⟩;with_reducible rfl))
 simp only[zA]
 iterate 2 (refine bU rfl ?_;simp only[zA])
 refine im rfl rfl ?_;simp only[zA]
 refine dA (v:=?_) rfl rfl ?_ ?_;rotate_left;(intro hb;intro W hW;unfold dr;go_simp;(with_reducible refine(qW _ W).mono ?_);rintro e W' ⟨rfl,bN⟩;first | (refine⟨?_,aa.trans hW bN⟩;with_reducible rfl) | (subst bN;refine⟨?_,hW⟩;with_reducible rfl))
 simp only[zA]
 refine im rfl rfl ?_;simp only[zA]
 (first | refine dO rfl rfl ?_ | (refine bU rfl ?_));simp only[zA]
 intro W hW;have HW:=zh hW
 cases hg:(!al n || !ey 1 5 s)
 ·simp only[Bool.or_eq_false_iff,Bool.not_eq_false']at hg
  have e0:r0=e_ n s:=by rw[<- EL.out];unfold aB qm;rw[hg.1,hg.2];rfl
  have e1:r1=lq n s:=by rw[<- qL.out];unfold aC qm;rw[hg.1,hg.2];rfl
  have Hn:=zh hg.1;have Hs:=zh (ap.1 hg.2)
  have he:(!al n || !ey 1 5 s)=false:=by rw[hg.1,hg.2];rfl
  subst e0 e1;clear hg;go_wp2_with fail;refine(Ln _ _ _ n s W (H.out.keep HW.out.below) Hn.out Hs.out).mono ?_;rintro e w1 ⟨rfl,hb⟩;have dC:=zh (HW.out.after hb);clear hb hW;go_wp2
  go_ret2
  exact⟨rfl,aa.after aT.out dC.out⟩
 ·have iA:qm n s=false:=by unfold qm;revert hg;cases al n <;> cases ey 1 5 s <;> simp
  have e0:r0=false:=by rw[<- EL.out];unfold aB;rw[iA];rfl
  have e1:r1=false:=by rw[<- qL.out];unfold aC;rw[iA];rfl
  subst e0 e1;clear hW iA;go_wp2
  go_ret2
  exact⟨rfl,aa.after aT.out HW.out⟩
theorem H7 {n:ak} {v:Nat} (h:(jT n (ai n v)).length=1):jy n v=true:=by unfold jy;rw[h];rfl
theorem fY (ve vi vn:Value) (n:ak) (s:Int) (w:World) (h:aQ w ve vi vn n) (_ : -9223372036854775808<=s/\s<=9223372036854775807) (eP:iK n<=1048576):
  Calls Tryz.prog 23 #[.agg #[ve,vi,vn],.int .i64 s] w fun e w'=>e=.returned (.tuple #[.bool (aB n s),.bool (aC n s)])/\Below w.heap.size w w':=by
 have si:Hid (n.ids.length<=17592186044416):=by show _<=_;unfold iK at eP;omega
 clear eP
 obtain⟨w0,A,c,A2,c2,A3,c3,rfl,rfl,rfl,eV,hm,fJ,fB,HA,bK,aT,H,dL,dR,dU⟩:=zB h;clear h
 obtain⟨r0,vr⟩:∃r,aB n s=r:=⟨_,rfl⟩
 obtain⟨r1,oD⟩:∃r,aC n s=r:=⟨_,rfl⟩
 have EL:=zh vr;have qL:=zh oD;rw[vr,oD];clear vr oD
 go_enter Tryz.func23,Tryz.ntmps23
 go_upto_region 1 with(fail);rw[<- bK.out];refine aS 8 (aa w0) (ad _) ?_;simp only[zT]
 refine bU rfl ?_;simp only[zA]
 refine fI ?_ rfl ?_ ?_;rotate_left;(intro W hW;unfold dr;go_simp;(with_reducible refine(j1 _ _ _ n W (H.out.keep hW.below) si.out).mono ?_);rintro e W' ⟨rfl,bN⟩;first | (refine⟨?_,aa.trans hW bN⟩;with_reducible rfl) | (subst bN;refine⟨?_,hW⟩;with_reducible rfl))
 simp only[zA]
 iterate 2 (refine bU rfl ?_;simp only[zA])
 refine im rfl rfl ?_;simp only[zA]
 refine dA (v:=?_) rfl rfl ?_ ?_;rotate_left;(intro hb;intro W hW;unfold dr;go_simp;(with_reducible refine(ax _ W).mono ?_);rintro e W' ⟨rfl,bN⟩;first | (refine⟨?_,aa.trans hW bN⟩;with_reducible rfl) | (subst bN;refine⟨?_,hW⟩;with_reducible rfl))
 simp only[zA]
 refine im rfl rfl ?_;simp only[zA]
 (first | refine dO rfl rfl ?_ | (refine bU rfl ?_));simp only[zA]
 intro W hW;have HW:=zh hW
 cases hg:(!al n || !ey 1 5 s)
 ·simp only[Bool.or_eq_false_iff,Bool.not_eq_false']at hg
  have e0:r0=e_ n s:=by rw[<- EL.out];unfold aB qm;rw[hg.1,hg.2];rfl
  have e1:r1=lq n s:=by rw[<- qL.out];unfold aC qm;rw[hg.1,hg.2];rfl
  have Hn:=zh hg.1;have bA:=ap.1 hg.2;have eS:=aE hg.1;have rg:=eS.1;have rh:=eS.2
  have he:(!al n || !ey 1 5 s)=false:=by rw[hg.1,hg.2];rfl
  have TT:=zh e0;have HE1:=zh e1;clear hg eS e0 e1
  by_cases h1:s=1
  ·subst h1
   have e0:r0=ll n:=by rw[TT.out];unfold e_;rw[if_pos rfl]
   have e1:r1=true:=by rw[HE1.out];unfold lq;rw[if_neg (by decide)]
   subst e0 e1;go_wp2_with fail;refine(mP _ _ _ n W (H.out.keep HW.out.below) Hn.out).mono ?_;rintro e w1 ⟨u,rfl,ho,hb⟩;have dC:=zh (HW.out.after hb);clear ho hb hW;go_wp2
   go_ret2
   exact⟨rfl,aa.after aT.out dC.out⟩
  by_cases h2:s=2
  ·subst h2
   have e0:r0=I2 (fE n):=by rw[TT.out];unfold e_;rw[if_neg h1,if_pos rfl]
   have e1:r1=(fE n).isSome:=by rw[HE1.out];unfold lq;rw[if_pos rfl]
   subst e0 e1;go_wp2_with fail;refine(rm _ _ _ n W (H.out.keep HW.out.below) Hn.out).mono ?_;rintro e w1 ⟨u,rfl,ho,hb⟩;have dC:=zh (HW.out.after hb);have Ho:=zh ho;clear ho hb hW
   cases hR:fE n with
   | none=>
    rw[hR]at Ho;obtain rfl:u=.slice none 0 0:=Ho.out
    go_wp2
    go_ret2
    rw[hR];exact⟨rfl,aa.after aT.out dC.out⟩
   | some q=>
    cases q with
    | none=>
     rw[hR]at Ho;obtain rfl:u=.slice none 0 0:=Ho.out
     go_wp2
     go_ret2
     rw[hR];exact⟨rfl,aa.after aT.out dC.out⟩
    | some l=>
     rw[hR]at Ho;obtain⟨g,c9,rfl⟩:∃g c,u=.slice (some ⟨g,0,none⟩) n.ends.length c:=Ho.out
     go_wp2
     go_ret2
     rw[hR];exact⟨rfl,aa.after aT.out dC.out⟩
  have e1:r1=true:=by rw[HE1.out];unfold lq;rw[if_neg h2]
  subst e1
  by_cases h3:s=3
  ·subst h3
   have e0:r0=sA n:=by rw[TT.out];unfold e_;rw[if_neg h1,if_neg h2,if_pos rfl]
   subst e0;go_wp2_with fail;refine(Cf _ _ _ n W (H.out.keep HW.out.below) Hn.out).mono ?_;rintro e w1 ⟨rfl,hb⟩;have dC:=zh (HW.out.after hb);clear hb hW;go_wp2
   go_ret2
   exact⟨rfl,aa.after aT.out dC.out⟩
  have b1:(s==1)=false:=by simpa using h1
  have b2:(s==2)=false:=by simpa using h2
  have b3:(s==3)=false:=by simpa using h3
  have aaL:=dR W hW
  by_cases hid:n.ids.length=0
  ·have e0:r0=false:=by rw[TT.out];unfold e_;rw[if_neg h1,if_neg h2,if_neg h3,if_pos hid]
   subst e0;have QT:((n.ids.length:Int)==0)=true:=by simpa using hid
   clear h1 h2 h3 hid hW;go_wp2
   go_ret2
   exact⟨rfl,aa.after aT.out HW.out⟩
  have QT:((n.ids.length:Int)==0)=false:=by simpa using hid
  have UF:¬n.ids=[]:=fun e=>hid (by rw[e];rfl)
  by_cases h4:s=4
  ·subst h4
   have e0:r0=eL n:=by rw[TT.out];unfold e_;rw[if_neg h1,if_neg h2,if_neg h3,if_neg hid,if_pos rfl]
   have Fp:Hid (eL n=r0):=e0.symm;clear e0 h1 h2 h3 b1 b2 b3 hid;go_wp2_with fail;refine(uK _ _ _ n W (H.out.keep HW.out.below) Hn.out).mono ?_;rintro e w3 ⟨b,D,U,rfl,hm,Ff,td,hb⟩;have Hm:=zh hm;have Jc:=zh Ff;have ew:=zh (HW.out.after hb);have yM:Hid (w0.heap.size<=b):=Nat.le_trans HW.out.below.size td;obtain⟨r,hr⟩:∃r,w3.heap.size=r:=⟨_,rfl⟩
   have yT:Hid (w0.heap.size<=r):=by show _<=_;rw[<- hr];exact ew.out.below.size
   clear hm Ff td hb hW aaL
   go_wp2_with (first | (at_range;refine wpList_range_own _ rfl _ 112 rfl 3 25 DN Tryz.underlying112 vy b 100 D rfl Hm.out ?_;rw[hr];intro w4 vJ y6 nj;have Hrg:=zh vJ;have mG:Hid (aa w0 w4):=Below.grown ew.out y6 ew.out.below.size (fun j hj=>by simp at hj);clear vJ y6 nj))
   go_frame
   clear hr
   go_loopw [11] (fun _ wr=>∃left cnt,wr.ranges Tryz.prog 3 vy b r 100 D left cnt/\(∀kl,left kl=true->Maps.has D kl=true)/\(∀v,v<n.ends.length->left (kI (ai n v))=false->jy n v=true)/\aa w0 wr) (fun _ wr=>wr.rangeLeft b r)
   case atStart=>exact⟨_,_,Hrg.out,fun _ h=>h,fun v hv h=>absurd ((Jc.out.all v hv).symm.trans h) (by simp),mG.out⟩
   case round=>
    obtain⟨left,cnt,vJ,rN,lL,Pg⟩:=hrel;have Ph:=zh vJ;have LV:=zh rN;have tH:=zh lL;have H8:=zh Pg;clear vJ rN lL Pg
    go_wp2_with (first | (at_next;refine wpList_next_ranges _ rfl _ rfl 3 DN vy (Value.int .i64) (fun c:Option Addr×Nat×Nat=>Value.slice c.1 c.2.1 c.2.2) (fun rJ kl R6=>by obtain⟨x,rfl,_⟩:=Go.Maps.keyOf_int_inv Tryz.underlying3 R6;exact⟨x,rfl⟩) (fun v y hv=>by rcases mO hv with⟨m,c,rfl,_⟩ | ⟨g,m,c,rfl,_⟩ <;> exact⟨(_,_,_),rfl⟩) b r 100 D left cnt rfl Ph.out ?_ ?_))
    ·intro h0 hl
     have ay:r0=true:=by
      rw[<- Fp.out];exact xz (fun v hv=>tH.out v hv (hl _))
     subst ay;go_wp2
     go_ret2
     exact⟨rfl,aa.after aT.out H8.out⟩
    ·intro x cA cn cc kl y1 y2 w5 acL R6 VT hv Q9 H9 Pj hg5 vx W8
     (try dsimp only at hv)
     (try dsimp only at W8)
     (try dsimp only)
     obtain⟨v0,C3,rfl⟩:=Jc.out.keys kl (LV.out kl VT);obtain⟨p,hp⟩:∃p,ai n v0=p:=⟨_,rfl⟩
     rw[hp]at R6 VT Q9 H9
     have Re:cn=(jT n p).length:=by
      have e1:=Jc.out.val p
      have e2:(y1,y2)=(D.atKey (kI p) zD,[]):=by
       have e3:=Q9 zD;rcases mO hv with⟨_,_,_,e4⟩ | ⟨_,_,_,_,e4⟩
       ·rw[e3,(Prod.mk.inj e4).2]
       ·rw[e3,(Prod.mk.inj e4).2]
      rw[<- e2]at e1;have e5:=I_ hv e1;have e6:=Jc.out.own p;rw[<- e5]at e6;rcases e6.cases with⟨e7,e8⟩ | ⟨g,c0,e7,-,-⟩
      ·simp only[Value.slice.injEq]at e7
       have:=congrArg List.length e8
       rw[List.length_map,List.length_nil]at this;unfold jT;omega
      ·simp only[Value.slice.injEq]at e7;rw[List.length_map]at e7;unfold jT;omega
     have Pk:=zh H9
     have nl:Hid (aa w0 w5):=Below.grown H8.out hg5 H8.out.below.size (fun j hj=>by simp only[Option.some.injEq]at hj;have:=yT.out;omega)
     have WY:=zh Re;have Hp:=zh hp;have VU:=zh Pj;clear R6 VT hv Q9 H9 Pj hg5 vx hp Re
     by_cases h1:cn=1
     ·subst h1
      have YO:Hid (∀v,v<n.ends.length->(left (kI (ai n v)) && !(kI (ai n v)).sameKey (kI p))=false->jy n v=true):=fun v hv hc=>by
       rcases Bool.and_eq_false_iff.1 hc with h2 | h2
       ·exact tH.out v hv h2
       ·have h3:ai n v=p:=xB (WideAt.sameKey_eq (by simpa using h2))
        exact H7 (by rw[h3];exact WY.out.symm)
      go_wp2;go_roundw
      case rel=>exact⟨_,_,Pk.out,fun kl hk=>LV.out kl (by rw[Bool.and_eq_true]at hk;exact hk.1),YO.out,nl.out⟩
      case measure=>rw[Pk.out.left_eq,Ph.out.left_eq];exact VU.out
     ·have iA:=rp C3 (by rw[Hp.out,<- WY.out];exact h1)
      rw[Fp.out]at iA;subst iA
      have h2:((cn:Int) != 1)=true:=by simp;omega
      have h3:((cn:Int)==1)=false:=by simp;omega
      go_wp2
      go_ret2
      exact⟨rfl,aa.after aT.out nl.out⟩
  have e0:r0=iT n:=by rw[TT.out];unfold e_;rw[if_neg h1,if_neg h2,if_neg h3,if_neg hid,if_neg h4]
  have Fp:Hid (iT n=r0):=e0.symm;have b4:(s==4)=false:=by simpa using h4
  clear e0 h1 h2 h3 h4 hid;go_wp2_with fail;refine(rq _ _ _ n W (H.out.keep HW.out.below) Hn.out).mono ?_;rintro e w3 ⟨b,D,rfl,hm,Ff,td,hb⟩;have Hm:=zh hm;have Jc:=zh Ff;have ew:=zh (HW.out.after hb);obtain⟨r,hr⟩:∃r,w3.heap.size=r:=⟨_,rfl⟩
  have yT:Hid (w0.heap.size<=r):=by show _<=_;rw[<- hr];exact ew.out.below.size
  clear hm Ff td hb hW aaL
  go_wp2_with (first | (at_range;refine wpList_range_own _ rfl _ 114 rfl 3 3 DN Tryz.underlying114 (plainElem (H:=Unit) Tryz.prog 3) b n.ends.length D rfl Hm.out ?_;rw[hr];intro w4 vJ y6 nj;have Hrg:=zh vJ;have mG:Hid (aa w0 w4):=Below.grown ew.out y6 ew.out.below.size (fun j hj=>by simp at hj);clear vJ y6 nj))
  go_frame
  clear hr
  go_loopw [13] (fun _ wr=>∃left cnt,wr.ranges Tryz.prog 3 (plainElem (H:=Unit) Tryz.prog 3) b r n.ends.length D left cnt/\(∀kl,left kl=true->Maps.has D kl=true)/\(∀v,v<n.ends.length->left (kI (ai n v))=false->mp n v=true)/\aa w0 wr) (fun _ wr=>wr.rangeLeft b r)
  case atStart=>exact⟨_,_,Hrg.out,fun _ h=>h,fun v hv h=>absurd ((Jc.out.all v hv).symm.trans h) (by simp),mG.out⟩
  case round=>
   obtain⟨left,cnt,vJ,rN,lL,Pg⟩:=hrel;have Ph:=zh vJ;have LV:=zh rN;have tH:=zh lL;have H8:=zh Pg;clear vJ rN lL Pg
   go_wp2_with (first | (at_next;refine wpList_next_ranges_ii _ rfl _ rfl 3 3 .i64 .i64 DN Tryz.underlying3 Tryz.underlying3 b r n.ends.length D left cnt rfl Ph.out ?_ ?_))
   ·intro h0 hl
    have ay:r0=true:=by
     rw[<- Fp.out];exact yk (fun v hv=>tH.out v hv (hl _))
    subst ay;go_wp2
    go_ret2
    exact⟨rfl,aa.after aT.out H8.out⟩
   ·intro x c9 w5 acL hwx hwc VT Q9 H9 Pj hg5 vx W8;obtain⟨v0,C3,mh⟩:=Jc.out.keys _ (LV.out _ VT);obtain⟨p,hp⟩:∃p,ai n v0=p:=⟨_,rfl⟩
    rw[hp]at mh;rw[mh]at VT Q9 H9
    have Re:c9=((jz n p:Nat):Int):=by
     have e1:=(Q9 (lI 0)).symm.trans (Jc.out.val p);exact pp e1
    obtain⟨z,hz⟩:∃z,jz n p=z:=⟨_,rfl⟩
    rw[hz]at Re;subst Re;have Pk:=zh H9
    have nl:Hid (aa w0 w5):=Below.grown H8.out hg5 H8.out.below.size (fun j hj=>by simp only[Option.some.injEq]at hj;have:=yT.out;omega)
    have Hz:=zh hz;have Hp:=zh hp;have VU:=zh Pj;clear hwx hwc VT Q9 H9 Pj hg5 vx hp hz mh
    by_cases Fx:z%2=1
    ·have t1:Int.tmod (z:Int) 2=1:=by rw[Int.tmod_eq_emod_of_nonneg (by omega)];omega
     have t2:(z:Int)%2=1:=by omega
     have iA:iT n=false:=sy C3 (by unfold mp;rw[Hp.out,Hz.out,Fx];rfl)
     rw[Fp.out]at iA;subst iA;go_wp2
     go_ret2
     exact⟨rfl,aa.after aT.out nl.out⟩
    ·have t1:Int.tmod (z:Int) 2=0:=by rw[Int.tmod_eq_emod_of_nonneg (by omega)];omega
     have t2:(z:Int)%2=0:=by omega
     have YO:Hid (∀v,v<n.ends.length->(left (kI (ai n v)) && !(kI (ai n v)).sameKey (kI p))=false->mp n v=true):=fun v hv hc=>by
      rcases Bool.and_eq_false_iff.1 hc with h2 | h2
      ·exact tH.out v hv h2
      ·have h3:ai n v=p:=xB (WideAt.sameKey_eq (by simpa using h2));unfold mp;rw[h3,Hz.out]
       have:(z%2==1)=false:=by simpa using Fx
       rw[this];rfl
     clear Fx;go_wp2;go_roundw
     case rel=>exact⟨_,_,Pk.out,fun kl hk=>LV.out kl (by rw[Bool.and_eq_true]at hk;exact hk.1),YO.out,nl.out⟩
     case measure=>rw[Pk.out.left_eq,Ph.out.left_eq];exact VU.out
 ·have iA:qm n s=false:=by unfold qm;revert hg;cases al n <;> cases ey 1 5 s <;> simp
  have e0:r0=false:=by rw[<- EL.out];unfold aB;rw[iA];rfl
  have e1:r1=false:=by rw[<- qL.out];unfold aC;rw[iA];rfl
  subst e0 e1;clear hW iA;go_wp2
  go_ret2
  exact⟨rfl,aa.after aT.out HW.out⟩
theorem Pl (ve vi vn:Value) (n:ak) (L:List Int) (w:World) (h:aQ w ve vi vn n) (hn:al n=true) (hL:(if ll n=true then ml n else [])=L):
  Calls Tryz.prog 104 #[.agg #[ve,vi,vn],.int .i64 1] w fun e w'=>∃u,e=.returned u/\Own w' w.heap.size u L/\Below w.heap.size w w':=by
 have Hn:=zh hn;have HL:=zh hL;clear hn hL;obtain⟨bb,td⟩:∃z,z=ll n:=⟨_,rfl⟩
 obtain⟨w0,A,c,A2,c2,A3,c3,rfl,rfl,rfl,eV,hm,fJ,fB,HA,bK,aT,H,dL,dR,dU⟩:=zB h;clear h
 go_enter Tryz.func104,Tryz.ntmps104
 go_upto_region 1 with(fail);rw[<- bK.out];have bB:aa w0 w0:=ad _;go_wp2_with fail;refine(Al _ _ _ n w0 H.out Hn.out).mono ?_;rintro e w1 ⟨u,rfl,ho,ay⟩;rw[HL.out]at ho;rw[<- td];clear td;have Ho:=zh ho;have dC:=zh (show aa w0 w1 from ay);obtain⟨AU,cU,rfl,-,-,-⟩:=id ho.ints;clear ho ay bB;go_wp2;go_ret;exact⟨_,rfl,Ho.out.mono aT.out.size,aa.trans aT.out dC.out⟩
theorem Pm (ve vi vn:Value) (n:ak) (l:List Int) (w:World) (h:aQ w ve vi vn n) (hn:al n=true) (hl:fE n=some (some l)):
  Calls Tryz.prog 104 #[.agg #[ve,vi,vn],.int .i64 2] w fun e w'=>∃u,e=.returned u/\Own w' w.heap.size u l/\Below w.heap.size w w':=by
 have Hn:=zh hn;have Hl:=zh hl;clear hn hl
 obtain⟨w0,A,c,A2,c2,A3,c3,rfl,rfl,rfl,eV,hm,fJ,fB,HA,bK,aT,H,dL,dR,dU⟩:=zB h;clear h
 go_enter Tryz.func104,Tryz.ntmps104
 go_upto_region 1 with(fail);rw[<- bK.out];have bB:aa w0 w0:=ad _;go_wp2_with fail;refine(uX _ _ _ n w0 H.out Hn.out).mono ?_;rintro e w1 ⟨u,rfl,ho,ay⟩;have ho:=ho l Hl.out;have Ho:=zh ho;have dC:=zh (show aa w0 w1 from ay);obtain⟨AU,cU,rfl,-,-,-⟩:=id ho.ints;clear ho ay bB;go_wp2;go_ret;exact⟨_,rfl,Ho.out.mono aT.out.size,aa.trans aT.out dC.out⟩
theorem EM (ve vi vn:Value) (n:ak) (s:Int) (w:World) (h:aQ w ve vi vn n) (hn:al n=true) (hs:1<=s/\s<=5) (hh:e_ n s=true):
  Calls Tryz.prog 104 #[.agg #[ve,vi,vn],.int .i64 s] w fun e w'=>∃u,e=.returned u/\Own w' w.heap.size u (oh n s)/\Below w.heap.size w w':=by
 unfold e_ at hh;unfold oh
 by_cases e1:s=1
 ·subst e1;rw[if_pos rfl];exact Pl ve vi vn n _ w h hn rfl
 ·rw[if_neg e1]at hh ⊢
  by_cases e2:s=2
  ·subst e2;rw[if_pos rfl]at hh ⊢
   cases hR:fE n with
   | none=>rw[hR]at hh;cases hh
   | some R=>
    cases R with
    | none=>rw[hR]at hh;cases hh
    | some l=>exact Pm ve vi vn n l w h hn hR
  ·rw[if_neg e2]at hh ⊢
   by_cases e3:s=3
   ·subst e3;rw[if_pos rfl];exact O_ ve vi vn n w h hn
   ·rw[if_neg e3]at hh ⊢
    by_cases e0:n.ids.length=0
    ·rw[if_pos e0]at hh;cases hh
    ·rw[if_neg e0]at hh
     by_cases e4:s=4
     ·subst e4;rw[if_pos rfl]at hh ⊢;exact Pb ve vi vn n w h hn e0 hh
     ·obtain rfl:s=5:=by omega
      rw[if_neg e4];exact Pc ve vi vn n w h hn e0
theorem Lo {n:ak} {s:Int} (h:e_ n s=true):lq n s=true:=by
 unfold lq
 by_cases e:s=2
 ·subst e;rw[if_pos rfl];unfold e_ at h;rw[if_neg (by decide),if_pos rfl]at h
  cases hR:fE n with
  | none=>rw[hR]at h;cases h
  | some R=>rfl
 ·rw[if_neg e]
def aJ (n:ak) (s:Int):Bool:=qm n s&&e_ n s
def aD (n:ak) (s:Int):List Int:=if aJ n s=true then oh n s else []
theorem Ch (n:ak) (s:Int):(!aC n s || !aB n s) = !aJ n s:=by
 unfold aC aB aJ
 cases qm n s
 ·rfl
 ·cases hh:e_ n s
  ·simp
  ·rw[Lo hh];rfl
theorem iw (ve vi vn:Value) (n:ak) (s:Int) (w:World) (h:aQ w ve vi vn n) (hs : -9223372036854775808<=s/\s<=9223372036854775807) (eP:iK n<=1048576):
  Calls Tryz.prog 33 #[.agg #[ve,vi,vn],.int .i64 s] w fun e w'=>∃u,e=.returned (.tuple #[u,.bool (aJ n s)])/\Own w' w.heap.size u (aD n s)/\Below w.heap.size w w':=by
 have jF:=zh eP;have K3:=zh hs;clear eP hs
 obtain⟨w0,A,c,A2,c2,A3,c3,rfl,rfl,rfl,eV,hm,fJ,fB,HA,bK,aT,H,dL,dR,dU⟩:=zB h;clear h
 obtain⟨r0,vr⟩:∃r,aB n s=r:=⟨_,rfl⟩
 obtain⟨r1,oD⟩:∃r,aC n s=r:=⟨_,rfl⟩
 obtain⟨q1,oC⟩:∃r,aJ n s=r:=⟨_,rfl⟩
 have ht:=Ch n s;rw[vr,oD,oC]at ht;have EL:=zh vr;have qL:=zh oD;have Pn:=zh oC;have Ht:=zh ht;rw[oC];clear vr oD oC ht
 go_enter Tryz.func33,Tryz.ntmps33
 go_upto_region 1 with(fail);rw[<- bK.out];have bB:aa w0 w0:=ad _;go_wp2_with fail;refine(jk _ _ _ n s w0 H.out K3.out jF.out).mono ?_;rintro e w1 ⟨rfl,ay⟩;rw[EL.out,qL.out];have cY:aa w0 w1:=ay;have dC:=zh cY;clear ay bB;cases q1
 ·have hd:aD n s=[]:=by unfold aD;rw[Pn.out];rfl
  have Hd:=zh hd;clear hd
  have hr:r1=false\/(r1=true/\r0=false):=by have:=Ht.out;revert this;cases r0 <;> cases r1 <;> simp
  rcases hr with rfl | ⟨rfl,rfl⟩
  ·go_wp2
   go_ret2
   rw[Hd.out];exact⟨_,rfl,bH _ _,aa.trans aT.out dC.out⟩
  ·go_wp2
   go_ret2
   rw[Hd.out];exact⟨_,rfl,bH _ _,aa.trans aT.out dC.out⟩
 ·have hd:aD n s=oh n s:=by unfold aD;rw[Pn.out];rfl
  have hq:=Pn.out
  unfold aJ qm at hq
  rw[Bool.and_eq_true,Bool.and_eq_true,ap]at hq;have Hq:=zh hq;have Hd:=zh hd
  obtain⟨rfl,rfl⟩:r0=true/\r1=true:=by have:=Ht.out;revert this;cases r0 <;> cases r1 <;> simp
  clear hd hq;go_wp2_with fail;refine(EM _ _ _ n s w1 (H.out.keep dC.out.below) Hq.out.1.1 Hq.out.1.2 Hq.out.2).mono ?_;rintro e w2 ⟨u,rfl,ho,bj⟩;obtain⟨AU,cU,rfl,-,-,-⟩:=id ho.ints;have Ho:=zh ho;have b_:=zh (aa.after dC.out bj);clear ho bj cY;go_wp2
  go_ret2
  rw[Hd.out];exact⟨_,rfl,Ho.out.mono (Nat.le_trans aT.out.size dC.out.below.size),aa.trans aT.out b_.out⟩
structure lG (cb:Nat) (A:Option Addr) (L c P0 K:Nat) (wS:World) (q:Nat) (W:World):Prop where
 cur:dm W cb A L c (P0+K*q)
 rel:C2 cb cb wS W
theorem lG.start {cb:Nat} {A:Option Addr} {L c P0 K:Nat} {wS W:World} (hc:dm wS cb A L c P0) (hs:aa wS W):lG cb A L c P0 K wS 0 W:=⟨hc.since hs,C2.since hs⟩
theorem lG.since {cb:Nat} {A:Option Addr} {L c P0 K q:Nat} {wS W W':World} (h:lG cb A L c P0 K wS q W) (hs:aa W W'):lG cb A L c P0 K wS q W':=⟨h.cur.since hs,h.rel.trans (C2.since hs)⟩
theorem lG.call {cb:Nat} {A:Option Addr} {L c P0 K q:Nat} {wS W W':World} (h:lG cb A L c P0 K wS q W) (hC:CB cb W.heap.size W W') {P':Nat} (fh:dm W' cb A L c P') (hP:P'<=P0+K*q+K):lG cb A L c P0 K wS (q+1) W':=
 ⟨fh.mono (by rw[Nat.mul_add];omega),h.rel.trans (C2.of hC)⟩
theorem lG.next {cb:Nat} {A:Option Addr} {L c P0 K q:Nat} {wS W W':World} (h:lG cb A L c P0 K wS q W) (hs:aa W W'):lG cb A L c P0 K wS (q+1) W':=
 ⟨(h.cur.since hs).mono (by rw[Nat.mul_add];omega),h.rel.trans (C2.since hs)⟩
def rG (B k q:Nat) (u:Value) (W:World):Prop:=∃g ls,u=.slice (some ⟨g,0,none⟩) k q/\ls.length=k/\Own W B u ls
theorem rG.rel {cb rb B k q:Nat} (hc:cb<B) (hr:rb<B):∀u W W',C2 cb rb W W'->rG B k q u W->rG B k q u W':=by
 rintro u W W' h ⟨g,ls,h1,h2,h3⟩;exact⟨g,ls,h1,h2,h.own hc hr h3⟩
def zt (u:Value) (_:World):Prop:=∃x:Int,u=.int .i64 x
def Po (n:ak) (s aU ng:Int):Bool:=al n&&ey 1 5 s&&ey 0 999999999999 aU&&ey 0 200000 ng
def fD (n:ak) (s aU ng:Int):Int:=if Po n s aU ng then (SU n s 0 aU ng).2.1 else 0
def nh (n:ak) (s aU ng:Int):List Int:=if Po n s aU ng then (SU n s 0 aU ng).1 else []
theorem JE {n:ak} {s:Int} {ls:List Int} (hl:ls.length=n.ends.length):(sB n s ls).length=0↔dQ n s ls:=by
 unfold sB dQ fc
 rw[List.length_eq_zero_iff,List.filter_eq_nil_iff];unfold gK;constructor
 ·intro h v hv
  have:=h (v:Int) (List.mem_map.2 ⟨v,List.mem_range.2 (by omega),rfl⟩)
  simpa using this
 ·intro h x hx;obtain⟨v,hv,rfl⟩:=List.mem_map.1 hx
  have:=h v (by have:=List.mem_range.1 hv;omega)
  simpa using this
structure acM (n:ak) (s aU ng:Int):Prop where
 net:al n=true
 sch:1<=s/\s<=5
 nm:0<=aU/\aU<=999999999999
structure abv (n:ak) (s aU ng:Int):Prop where
 cnt:decide (0<fT n s aU)=decide (fC n s aU=0)
 rej:aX n s (fU n s aU)=true
 num:((aI n s (fU n s aU)).length:Int)=fC n s aU
 yes:fD n s aU ng=1->fT n s aU≠0
 no:fD n s aU ng=2->¬0<fT n s aU
 fst:fC n s aU=0->fD n s aU ng=1->fU n s aU=nh n s aU ng
theorem AM (n:ak) (s:Int):(aD n s).length<=100:=by
 unfold aD
 split
 ·rename_i h
  unfold aJ qm at h
  rw[Bool.and_eq_true,Bool.and_eq_true,ap]at h;rw[(TR h.1.1 h.1.2 h.2).len]
  have:=(aE h.1.1).2
  omega
 ·exact Nat.zero_le _
theorem Lp {n:ak} {s:Int} {ls:List Int} (h:dY n s ls=true) (v:Nat) (x:Int) (h0:0<=x) (h1:x<=999999999999):dY n s (ls.set v x)=true:=by
 unfold dY at *
 simp only[Bool.and_eq_true,beq_iff_eq,List.length_set]at *
 refine⟨h.1,?_⟩
 unfold sw at *
 rw[List.all_eq_true]at *
 intro y hy;rcases List.mem_or_eq_of_mem_set hy with hy | rfl
 ·exact h.2 y hy
 ·exact ap.2 ⟨h0,h1⟩
def zu (n:ak) (s:Int) (ls:List Int) (v:Nat) (x:Int):Bool:=!fR n s (ls.set v x) v
def bm (n:ak) (s:Int) (ls:List Int) (v aU:Int):Bool:=dY n s ls&&ey 0 ((n.ends.length:Int)-1) v&&ey 0 1000 aU
def bJ (n:ak) (s:Int) (ls:List Int) (v aU:Int):List Int:=if bm n s ls v aU then fc (zu n s ls v.toNat) (gK (aU.toNat+1)) else []
theorem H_ {W:World} {base b k:Nat} {u:Value} {xs:List Int} (h:Own W base u xs) (hd:u.ownBlock≠some b) (v:Value):Own (W.setCell ⟨b,k,none⟩ v) base u xs:=
 aK h fun j hj=>Below.heap_setCell W _ v j (fun e=>hd (by simp at hj;rw[hj,e]))
end Go.Proofs.YtgmdpppljkmabaaGreat
