/- Parts of the proof: walks of functions and plain laws. -/
import Derived.Test.YtnioemnkfojmkaaGreatP1
import Derived.Deep.SlicePairs
set_option maxRecDepth 100000
set_option maxHeartbeats 16000000
namespace Go.Proofs.YtnioemnkfojmkaaGreat
open Go Go.RowKit
theorem fq {k:Nat} {p:Nat->Bool}:(List.range (k+1)).all p=((List.range k).all p&&p k):=by rw[Zaa,List.all_append];simp
theorem b_ {n k:Nat} {p:Nat->Bool} (hk:k<n) (h:p k=false):(List.range n).all p=false:=by
 rw[List.all_eq_false];exact⟨k,Zab.2 hk,by simp[h]⟩
def uF (lo hi:Int) (xs:List Int):Bool:=(List.range xs.length).all fun i=>jK lo hi (xs.getD i 0)&&(i==0||decide (xs.getD (i-1) 0<xs.getD i 0))
theorem ag {α:Type} {xs:List α} {k:Nat} {x d:α} (h:xs[k]?=some x):xs.getD k d=x:=by simp[h]
theorem zp (v:Value) (xs:List Int) (lo hi:Int) (w:World) (h:bs w v xs):
  Calls Tryz.prog 135 #[v,.int .i64 lo,.int .i64 hi] w fun e w'=>e=.returned (.bool (uF lo hi xs))/\w=w':=by
 obtain⟨A,c,rfl,fR,hm,hA⟩:=h;unfold maxLen at hm;have HA:=zh hA;clear hA
 go_enter Tryz.func135,Tryz.ntmps135
 go_wp2
 go_loop [11] (fun i=>∃k:Nat,k<=xs.length/\i=.int .i64 k/\((List.range k).all fun i=>jK lo hi (xs.getD i 0)&&(i==0||decide (xs.getD (i-1) 0<xs.getD i 0)))=true) (fun i=>xs.length-(intOf i).toNat)
 case atStart=>exact⟨0,Zac _,rfl,rfl⟩
 case round=>
  obtain⟨k,hk,rfl,c_⟩:=hrel;have gS:=zh c_;clear c_
  by_cases aA:k<xs.length
  ·obtain⟨x,hx⟩:=au xs k aA;obtain⟨b,off,rfl,dU⟩:=HA k x hx;have Hx:=zh hx;cases hb:jK lo hi x
   ·have Hb:=zh hb;clear hx
    go_wp2_with (go_at_call 34;refine(ie _ _ _ _).mono ?_;rintro e w' ⟨rfl,rfl⟩)
    go_ret
    exact⟨aJ (b_ aA (by rw[ag Hx.out,Hb.out];rfl)),rfl⟩
   ·have Hb:=zh hb
    by_cases VA:k=0
    ·subst VA;simp only[Nat.add_zero]at dU;clear hx
     go_wp2_with (go_at_call 34;refine(ie _ _ _ _).mono ?_;rintro e w' ⟨rfl,rfl⟩)
     go_round
     exact⟨0+1,zO,zM,by rw[fq,gS.out,ag Hx.out,Hb.out];rfl⟩
     simp[intOf];omega
    ·obtain⟨y,hy⟩:=au xs (k-1) zO;obtain⟨b',nf,he,adT⟩:=HA (k-1) y hy
     injection he with he
     injection he with e1 e2
     subst e1 e2;have Hy:=zh hy;have lW:0<k:=zO
     cases UX:decide (x<=y)
     all_goals
      have Hyx:=zh UX
     ·have hn:¬x<=y:=by simpa using UX
      clear hx hy UX
      go_wp2_with (go_at_call 34;refine(ie _ _ _ _).mono ?_;rintro e w' ⟨rfl,rfl⟩)
      go_round
      exact⟨k+1,zO,zM,by rw[fq,gS.out,ag Hx.out,ag Hy.out,Hb.out];simp;omega⟩
      simp[intOf];omega
     ·have hn:x<=y:=by simpa using UX
      clear hx hy UX
      go_wp2_with (go_at_call 34;refine(ie _ _ _ _).mono ?_;rintro e w' ⟨rfl,rfl⟩)
      go_ret
      exact⟨aJ (b_ aA (by rw[ag Hx.out,ag Hy.out,Hb.out];simp;omega)),rfl⟩
  ·obtain rfl:k=xs.length:=zO
   go_wp2;go_ret;exact⟨eT gS,rfl⟩
def ED (ids:List Int) (nodes:Int):Bool:=ids.isEmpty||((ids.length:Int)==nodes&&uF 1 999999 (ids.mergeSort fun x y=>decide (x<=y)))
theorem zq {w w1 w2:World} {v:Value} {xs:List Int} (h:Below w.heap.size w w1) (ho:Own w1 w.heap.size v xs) (hg:w1.grownBy w2 v.ownBlock):Below w.heap.size w w2:=
 h.grown hg h.size (fun k hk=>(Zad ho k hk).1)
theorem wu (v:Value) (ids:List Int) (nodes:Int) (w:World) (h:bs w v ids) (hl:ids.length<=17592186044416):
  Calls Tryz.prog 78 #[v,.int .i64 nodes] w fun e w'=>e=.returned (.bool (ED ids nodes))/\Below w.heap.size w w':=by
 have H:=zh h;obtain⟨A,c,rfl,fR,hm,hA⟩:=h;clear hA;unfold maxLen at hm
 by_cases h0:ids.length=0
 ·obtain rfl:ids=[]:=Zae h0
  go_enter Tryz.func78,Tryz.ntmps78
  go_wp2;go_ret;exact⟨rfl,Zaf _ _⟩
 ·have h0':(((ids.length:Nat):Int)==0)=false:=by simp;intro h;simp[h]at h0
  have aby:ids.isEmpty=false:=by cases ids <;> simp_all
  have Hr:=zh (show ED ids nodes=((ids.length:Int)==nodes&&uF 1 999999 (ids.mergeSort fun x y=>decide (x<=y)))by simp[ED,aby])
  clear aby h0;cases hn:((ids.length:Int)==nodes)
  all_goals
   have Hn:=zh hn
   go_enter Tryz.func78,Tryz.ntmps78
   go_wp2_with fail;refine(Ds _ ids _ H hl).mono ?_;rintro e w1 ⟨u,rfl,ho,hb⟩;obtain⟨Ho,Hb⟩:=A_ ho hb;clear ho hb;go_wp2_with fail;refine(zl _ ids _ _ Ho hl).mono ?_;rintro e w2 ⟨rfl,dD,hg⟩;obtain⟨mg,oN⟩:=A_ dD (zq Hb.out Ho.out hg);clear dD hg;go_wp2_with fail
  ·go_ret
   exact⟨aJ (by rw[Hr.out,Hn.out];rfl),oN⟩
  ·refine(zp _ _ _ _ _ mg.ints).mono ?_;rintro e w3 ⟨rfl,rfl⟩;go_wp2;go_ret
   exact⟨bG (by rw[Hr.out,Hn.out];rfl),oN⟩
def pB (agT:List Int) (nodes:Int):Bool:=(agT.length:Int)==nodes&&agT.all (jK 0 9)
theorem uG (v:Value) (xs:List Int) (nodes:Int) (w:World) (h:bs w v xs):
  Calls Tryz.prog 79 #[v,.int .i64 nodes] w fun e w'=>e=.returned (.bool (pB xs nodes))/\Below w.heap.size w w':=by
 have H:=zh h;obtain⟨A,c,rfl,fR,hm,hA⟩:=h;clear hA;unfold maxLen at hm;unfold pB;cases hn:((xs.length:Int)==nodes)
 all_goals
  go_enter Tryz.func79,Tryz.ntmps79
  go_wp2_with fail
 ·go_ret;exact⟨rfl,Zaf _ _⟩
 ·refine(tf _ xs _ _ _ H).mono ?_;rintro e w1 ⟨rfl,hb⟩;have Hb:=zh hb;clear hb;go_wp2;go_ret;exact⟨rfl,Hb⟩
theorem xz (ve vi vn:Value) (ep:List (List (Int×Int))) (v:Int) (w:World) (h:oD w ve ep):
  Calls Tryz.prog 118 #[.agg #[ve,vi,vn],.int .i64 v] w fun e w'=>e=.returned (.bool (jK 0 ((ep.length:Int)-1) v))/\Below w.heap.size w w':=by
 obtain⟨A,c,rfl,fR,hm,hA⟩:=h;clear hA;unfold maxLen at hm
 go_enter Tryz.func118,Tryz.ntmps118
 go_wp2_with (go_at_call 34;refine(ie _ _ _ _).mono ?_;rintro e w' ⟨rfl,rfl⟩)
 go_ret;exact⟨rfl,am _ _⟩
def bg (ep:List (List (Int×Int))) (v i:Int):Bool:=jK 0 ((ep.length:Int)-1) v&&jK 0 (((ep.getD v.toNat []).length:Int)-1) i
theorem qY (ve vi vn:Value) (ep:List (List (Int×Int))) (v i:Int) (w:World) (h:oD w ve ep):
  Calls Tryz.prog 68 #[.agg #[ve,vi,vn],.int .i64 v,.int .i64 i] w fun e w'=>e=.returned (.bool (bg ep v i))/\Below w.heap.size w w':=by
 have ks:Below w.heap.size w (w.alloc (.cells #[ve,vi,vn] 30)):=am _ _;have H:=zh (h.agU ks);obtain⟨A,c,rfl,fR,hm,hA⟩:=h;unfold maxLen at hm;have aY:=zh ks;clear ks;unfold bg;cases hn:jK 0 ((ep.length:Int)-1) v
 ·clear hA
  go_enter Tryz.func68,Tryz.ntmps68
  go_wp2_with fail;refine(xz _ _ _ ep v _ H).mono ?_;rintro e w1 ⟨rfl,aP⟩;have jR:=zh (aY.out.trans (aP.mono zS));clear aP;go_wp2;go_ret;exact⟨rfl,jR⟩
 ·obtain⟨Qv,hv1⟩:=aB.1 hn;obtain⟨k,rfl⟩:=Int.eq_ofNat_of_zero_le Qv;have hk:k<ep.length:=zO
  obtain⟨es,aU⟩:=au ep k hk;obtain⟨b,off,u,rfl,dk,hr⟩:=hA k es aU;obtain⟨A1,z1,rfl,dP,dY,_⟩:=hr;unfold maxLen at dY;have hg:=zh (show(ep.getD ((k:Int)).toNat [])=es by rw[Zag,ag aU])
  rw[hg.out];have jT:=bc aY dk;clear hA aU dk
  go_enter Tryz.func68,Tryz.ntmps68
  go_wp2_with fail;refine(xz _ _ _ ep k _ H).mono ?_;rintro e w1 ⟨rfl,aP⟩;have pC:=bc aP jT;have JS:w1.cell? ⟨w.heap.size,0,none⟩=some (.slice (some ⟨b,off,none⟩) ep.length c):=bc aP zS;have jR:=zh (aY.out.trans (aP.mono zS));clear aP jT
  go_wp2_with (go_at_call 34;refine(ie _ _ _ _).mono ?_;rintro e w' ⟨rfl,rfl⟩)
  go_ret;exact⟨rfl,jR⟩
def kz (ep:List (List (Int×Int))) (v i:Nat) (e:Int×Int):Bool:=bg ep e.1 e.2&&wg ((ep.getD e.1.toNat []).getD e.2.toNat (0,0)) ((v:Int),(i:Int))
def iy (ep:List (List (Int×Int))) (v:Nat) (es:List (Int×Int)):Bool:=decide (es.length<=6)&&(List.range es.length).all fun i=>kz ep v i (es.getD i (0,0))
def ar (n:ao):Bool:=jK 1 40 n.ends.length&&ED n.ids n.ends.length&&pB n.agT n.ends.length&&(List.range n.ends.length).all fun v=>iy n.ends v (n.ends.getD v [])
theorem fZ (ve vi vn:Value) (n:ao) (w:World) (h:aR w ve vi vn n) (hl:n.ids.length<=17592186044416):
  Calls Tryz.prog 32 #[.agg #[ve,vi,vn]] w fun e w'=>e=.returned (.bool (ar n))/\Below w.heap.size w w':=by
 have ks:Below w.heap.size w (w.alloc (.cells #[ve,vi,vn] 30)):=am _ _;have H:=zh (h.agU ks);obtain⟨h1,h2,h3⟩:=h;obtain⟨A,c,rfl,fR,hm,hA⟩:=h1;obtain⟨A2,c2,rfl,_,gC,_⟩:=h2;obtain⟨A3,c3,rfl,_,jz,_⟩:=h3;unfold maxLen at hm gC jz;obtain⟨aY,HA⟩:=A_ ks hA;clear ks hA;cases t1:jK 1 40 (n.ends.length:Int)
 ·have hr:=zh (show ar n=false by simp[ar,t1])
  go_enter Tryz.func32,Tryz.ntmps32
  go_wp2_with (go_at_call 34;refine(ie _ _ _ _).mono ?_;rintro e w' ⟨rfl,rfl⟩)
  go_ret;exact⟨aJ hr,aY⟩
 ·cases t2:ED n.ids n.ends.length
  ·have hr:=zh (show ar n=false by simp[ar,t2])
   go_enter Tryz.func32,Tryz.ntmps32
   go_wp2_with (go_at_call 34;refine(ie _ _ _ _).mono ?_;rintro e w' ⟨rfl,rfl⟩)
   refine(wu _ n.ids _ _ H.2.1 hl).mono ?_;rintro e w1 ⟨rfl,aP⟩;have jR:=zh (aY.out.trans (aP.mono zS));clear aP;go_wp2;go_ret;exact⟨aJ hr,jR⟩
  ·cases t3:pB n.agT n.ends.length
   ·have hr:=zh (show ar n=false by simp[ar,t3])
    go_enter Tryz.func32,Tryz.ntmps32
    go_wp2_with (go_at_call 34;refine(ie _ _ _ _).mono ?_;rintro e w' ⟨rfl,rfl⟩)
    refine(wu _ n.ids _ _ H.2.1 hl).mono ?_;rintro e w1 ⟨rfl,aP⟩;obtain⟨jR,H1⟩:=A_ (aY.out.trans (aP.mono zS)) (H.out.agU aP);have d0:w1.cell? ⟨w.heap.size,0,none⟩=some (.slice A n.ends.length c):=bc aP zS;have d2:w1.cell? ⟨w.heap.size,2,none⟩=some (.slice A3 n.agT.length c3):=bc aP zS;clear aP;go_wp2_with fail;refine(uG _ n.agT _ _ H1.2.2).mono ?_;rintro e w2 ⟨rfl,aS⟩;have oN:=zh (jR.out.trans (aS.mono jR.out.size));clear aS;go_wp2;go_ret;exact⟨aJ hr,oN⟩
   ·have hr:=zh (show ar n=(List.range n.ends.length).all fun v=>iy n.ends v (n.ends.getD v [])by simp[ar,t1,t2,t3])
    go_enter Tryz.func32,Tryz.ntmps32
    go_wp2_with (go_at_call 34;refine(ie _ _ _ _).mono ?_;rintro e w' ⟨rfl,rfl⟩)
    refine(wu _ n.ids _ _ H.2.1 hl).mono ?_;rintro e w1 ⟨rfl,aP⟩;obtain⟨jR,H1⟩:=A_ (aY.out.trans (aP.mono zS)) (H.out.agU aP);have d0:w1.cell? ⟨w.heap.size,0,none⟩=some (.slice A n.ends.length c):=bc aP zS;have d1:w1.cell? ⟨w.heap.size,1,none⟩=some (.slice A2 n.ids.length c2):=bc aP zS;have d2:w1.cell? ⟨w.heap.size,2,none⟩=some (.slice A3 n.agT.length c3):=bc aP zS;clear aP;go_wp2_with fail;refine(uG _ n.agT _ _ H1.2.2).mono ?_;rintro e w2 ⟨rfl,aS⟩;obtain⟨oN,H2⟩:=A_ (jR.out.trans (aS.mono jR.out.size)) (H1.out.agU aS);have e0:=bc aS d0;have e1:=bc aS d1;have e2:=bc aS d2;have fD:w.heap.size<w2.heap.size:=World.block_lt_of_cell? w2 _ e0;have E:=zh (And.intro e0 (And.intro e1 e2));clear aS d0 d1 d2 H H1;go_wp2
    go_loopw [33] (fun i wr=>∃k:Nat,k<=n.ends.length/\i=.int .i64 k/\((List.range k).all fun v=>iy n.ends v (n.ends.getD v []))=true/\Below w2.heap.size w2 wr) (fun i _=>n.ends.length-(intOf i).toNat)
    case atStart=>exact⟨0,Zac _,rfl,rfl,Zaf _ _⟩
    case round=>
     obtain⟨k,hk,rfl,c_,r_⟩:=hrel;obtain⟨gS,FM⟩:=A_ c_ r_;clear c_ r_
     by_cases aA:k<n.ends.length
     ·obtain⟨es,aU⟩:=au n.ends k aA;obtain⟨b,off,u,rfl,dk,aG⟩:=HA k es aU;have Zc:=oN.trans (FM.mono oN.size);have jT:=bc Zc dk;have dT:=zh (aG.agU Zc);obtain⟨A1,z1,rfl,dP,dY,ja⟩:=aG;have JT:=zh ja;unfold maxLen at dY;obtain⟨ni,VB⟩:=A_ aU Zc;clear aU Zc dk ja
      by_cases h6:es.length<=6
      ·go_wp2;obtain⟨wo,rfl⟩:=J_ (wr:World)
       go_loopw [43] (fun i wq=>∃j:Nat,j<=es.length/\i=.int .i64 j/\((List.range j).all fun i=>kz n.ends k i (es.getD i (0,0)))=true/\Below wo.heap.size wo wq) (fun i _=>es.length-(intOf i).toNat)
       case atStart=>exact⟨0,Zac _,rfl,rfl,Zaf _ _⟩
       case round=>
        obtain⟨j,hj,rfl,Gl,L7⟩:=hrel;obtain⟨Gm,Hbq⟩:=A_ Gl L7;have hbB:=VB.trans (L7.mono VB.size);have Zd:=FM.trans (L7.mono FM.size);clear Gl L7
        by_cases ij:j<es.length
        ·obtain⟨⟨x1,x2⟩,he⟩:=au es j ij;obtain⟨b1,CH,rfl,qD,jL⟩:=JT j _ he;have q1:=bc hbB qD;have q2:=bc hbB jL;obtain⟨n0,n1,n2⟩:=E.out;have m0:=bc Zd n0;have m1:=bc Zd n1;have m2:=bc Zd n2;have af8:w.heap.size<wr.heap.size:=World.block_lt_of_cell? wr _ m0;obtain⟨He,VC,HN⟩:=B_ he hbB (H2.out.1.agU Zd);clear he hbB Zd n0 n1 n2 qD jL jT;cases hp:bg n.ends x1 x2
         ·have Hp:=zh hp;go_wp2;obtain⟨w0,bj⟩:=K_ (wr.alloc (Obj.cells #[Value.int IntKind.i64 x1,Value.int IntKind.i64 x2] 104))
          rw[bj]
          have FN:Below wr.heap.size wr w0:=by rw[<- bj];exact am _ _
          have PO:∀W,ab w0 W->W.cell? ⟨w.heap.size,0,none⟩=some (.slice (some ⟨b,off,none⟩) n.ends.length c):=fun W hW=>bc hW (bc FN m0)
          have yy:∀W,ab w0 W->W.cell? ⟨w.heap.size,1,none⟩=some (.slice A2 n.ids.length c2):=fun W hW=>bc hW (bc FN m1)
          have yz:∀W,ab w0 W->W.cell? ⟨w.heap.size,2,none⟩=some (.slice A3 n.agT.length c3):=fun W hW=>bc hW (bc FN m2)
          have hi3:∀W,ab w0 W->W.cell? ⟨wr.heap.size,0,none⟩=some (.int .i64 x1):=fun W hW=>bc hW (by rw[<- bj];simp)
          have hi4:∀W,ab w0 W->W.cell? ⟨wr.heap.size,1,none⟩=some (.int .i64 x2):=fun W hW=>bc hW (by rw[<- bj];simp)
          obtain⟨HN0,Ze⟩:=A_ (HN.out.agU FN) FN;clear bj FN m0 m1 m2;refine ap 23 (ab w0) zK zK zS (ab.drew w0) ?_;simp only[zT]
          iterate 5 (refine ch rfl ?_;simp only[zA])
          refine dE (.bool false) rfl (fun W hW=>?_) ?_
          ·unfold a_
           go_simp
           refine(qY _ _ _ n.ends x1 x2 W (HN0.agU hW)).mono ?_;rintro e W' ⟨rfl,er⟩;exact⟨by rw[Hp.out],hW.trans er⟩
          simp only[zA]
          iterate 2 (refine ch rfl ?_;simp only[zA])
          iterate 14 (refine Du rfl ?_;simp only[zA])
          iterate 1 (refine ch rfl ?_;simp only[zA])
          intro W hW;have HW:=zh hW;clear hW;go_wp2;go_ret
          exact⟨aJ (by rw[hr.out];refine b_ aA ?_;rw[ag ni.out];simp only[iy];rw[Zah];exact .inr (b_ ij (by rw[ag He.out];simp[kz,Hp.out]))),(VC.out.trans (Ze.out.mono VC.out.size)).trans ((show Below w0.heap.size w0 W from HW.out).mono (zY VC.out.size Ze.out.size))⟩
         ·have Hp:=zh hp;have vP:=hp;unfold bg at vP;rw[Zai]at vP;obtain⟨p1,p2⟩:=vP;obtain⟨p3,p4⟩:=aB.1 p1;obtain⟨k1,rfl⟩:=Int.eq_ofNat_of_zero_le p3;have lW:k1<n.ends.length:=zO
          obtain⟨L8,Gn⟩:=au n.ends k1 lW;rw[Zag,ag Gn]at p2;obtain⟨p5,p6⟩:=aB.1 p2;obtain⟨i1,rfl⟩:=Int.eq_ofNat_of_zero_le p5;have yy:i1<L8.length:=zO
          obtain⟨⟨y1,y2⟩,hy⟩:=au L8 i1 yy;obtain⟨b2,wv,u',wb,pC,Qw⟩:=HA k1 L8 Gn
          injection wb with wb
          injection wb with q3 q4
          subst q3 q4;obtain⟨JU,z1',rfl,VD,Zf,JV⟩:=Qw;obtain⟨b3,VE,rfl,Zg,XN⟩:=JV i1 _ hy;unfold maxLen at Zf;obtain⟨Hy,Nk⟩:=A_ hy Gn;have g3:=bc VC pC;have g5:=bc VC Zg;have g6:=bc VC XN;clear Gn hy pC Zg XN JV p1 p2 hp;go_wp2;obtain⟨w0,bj⟩:=K_ (wr.alloc (Obj.cells #[Value.int IntKind.i64 (k1:Int),Value.int IntKind.i64 (i1:Int)] 104))
          rw[bj]
          have FN:Below wr.heap.size wr w0:=by rw[<- bj];exact am _ _
          have i0:∀W,ab w0 W->W.cell? ⟨w.heap.size,0,none⟩=some (.slice (some ⟨b,off,none⟩) n.ends.length c):=fun W hW=>bc hW (bc FN m0)
          have i1':∀W,ab w0 W->W.cell? ⟨w.heap.size,1,none⟩=some (.slice A2 n.ids.length c2):=fun W hW=>bc hW (bc FN m1)
          have i2:∀W,ab w0 W->W.cell? ⟨w.heap.size,2,none⟩=some (.slice A3 n.agT.length c3):=fun W hW=>bc hW (bc FN m2)
          have i3:∀W,ab w0 W->W.cell? ⟨wr.heap.size,0,none⟩=some (.int .i64 (k1:Int)):=fun W hW=>bc hW (by rw[<- bj];simp)
          have i4:∀W,ab w0 W->W.cell? ⟨wr.heap.size,1,none⟩=some (.int .i64 (i1:Int)):=fun W hW=>bc hW (by rw[<- bj];simp)
          have i5:∀W,ab w0 W->W.cell? ⟨b,off+k1,none⟩=some (.slice (some ⟨b3,VE,none⟩) L8.length z1'):=fun W hW=>bc hW (bc FN g3)
          have i6:∀W,ab w0 W->W.cell? ⟨b3,VE+i1*2,none⟩=some (.int .i64 y1):=fun W hW=>bc hW (bc FN g5)
          have i7:∀W,ab w0 W->W.cell? ⟨b3,VE+i1*2+1,none⟩=some (.int .i64 y2):=fun W hW=>bc hW (bc FN g6)
          obtain⟨HN0,Ze⟩:=A_ (HN.out.agU FN) FN;clear bj FN m0 m1 m2 g3 g5 g6;refine ap 23 (ab w0) zK zK zS (ab.drew w0) ?_;simp only[zT]
          iterate 5 (refine ch rfl ?_;simp only[zA])
          refine dE (.bool true) rfl (fun W hW=>?_) ?_
          ·unfold a_
           go_simp
           refine(qY _ _ _ n.ends k1 i1 W (HN0.agU hW)).mono ?_;rintro e W' ⟨rfl,er⟩;exact⟨by rw[Hp.out],hW.trans er⟩
          simp only[zA]
          iterate 15 (refine ch rfl ?_;simp only[zA])
          refine dE (.bool (!wg (y1,y2) ((k:Int),(j:Int)))) rfl (fun W hW=>?_) ?_
          ·unfold a_
           go_simp
           by_cases f1:y1=(k:Int)
           ·by_cases f2:y2=(j:Int)
            ·simp[f1,f2,wg,hW]
            ·simp[f1,f2,wg,hW]
           ·simp[f1,wg,hW]
          simp only[zA];cases hq:wg (y1,y2) ((k:Int),(j:Int))
          all_goals
           have Hq:=zh hq;clear hq
           iterate 1 (refine ch rfl ?_;simp only[zA])
           intro W hW;obtain⟨HW,HbW,adU⟩:=B_ hW ((VC.out.trans (Ze.out.mono VC.out.size)).trans ((show Below w0.heap.size w0 W from hW).mono (zY VC.out.size Ze.out.size))) ((Hbq.out.trans (Ze.out.mono Hbq.out.size)).trans ((show Below w0.heap.size w0 W from hW).mono (zY Hbq.out.size Ze.out.size)))
           clear hW;go_wp2
          ·go_ret
           exact⟨aJ (by rw[hr.out];refine b_ aA ?_;rw[ag ni.out];simp only[iy];rw[Zah];exact .inr (b_ ij (by rw[ag He.out];simp[kz,Hp.out,Nk.out,Hy.out,Hq.out]))),HbW⟩
          ·go_roundw
           exact⟨j+1,zO,zM,by rw[fq,Gm.out,ag He.out];simp[kz,Hp.out,Nk.out,Hy.out,Hq.out],adU⟩
           simp[intOf];omega
        ·obtain rfl:j=es.length:=zO
         have adV:=zh Zd;clear hbB Zd;go_wp2;go_roundw
         exact⟨k+1,zO,zM,by rw[fq,gS.out,ag ni.out,Bool.true_and];unfold iy;rw[Gm.out];simp[h6],adV⟩
         simp[intOf];omega
      ·go_wp2;go_ret
       exact⟨aJ (by rw[hr.out];exact b_ aA (by rw[ag ni.out];simp[iy,h6])),VB⟩
     ·obtain rfl:k=n.ends.length:=zO
      go_wp2;go_ret
      exact⟨eT (by rw[hr.out];exact gS),oN.trans (FM.mono oN.size)⟩
structure aV (S:List Nat) (w w':World):Prop where
 os:w'.os=w.os
 tape:w'.tape=w.tape
 output:w'.output=w.output
 size:w.heap.size<=w'.heap.size
 block:∀k,k<w.heap.size->k∉S->w'.heap[k]?=w.heap[k]?
theorem aV.refl (S:List Nat) (w:World):aV S w w:=⟨rfl,rfl,rfl,Zaj _,fun _ _ _=>rfl⟩
theorem aV.trans {S:List Nat} {a b c:World} (h:aV S a b) (k:aV S b c):aV S a c:=
 ⟨k.os.trans h.os,k.tape.trans h.tape,k.output.trans h.output,Zak h.size k.size,fun i hi hn=>(k.block i (Zal hi h.size) hn).trans (h.block i hi hn)⟩
theorem aV.mono {S T:List Nat} {a b:World} (h:aV S a b) (hs:∀k∈S,k∈T):aV T a b:=⟨h.os,h.tape,h.output,h.size,fun i hi hn=>h.block i hi (fun e=>hn (hs i e))⟩
theorem aV.below {S:List Nat} {a b:World} (h:aV S a b) (B:Nat) (hB:B<=a.heap.size) (hs:∀k∈S,B<=k):Below B a b:=⟨h.os,h.tape,h.output,h.size,fun i hi=>h.block i zO (fun e=>zX (hs i e))⟩
theorem aV.ag2 {S:List Nat} {a b:World} (h:Below a.heap.size a b):aV S a b:=⟨h.os,h.tape,h.output,h.size,fun i hi _=>h.block i hi⟩
theorem aV.agZ {a b:World} {row:Option Nat} (h:a.grownBy b row):aV row.toList a b:=⟨h.os,h.tape,h.output,h.size,fun i hi hn=>h.block i hi (fun e=>hn (by rw[<- e];simp))⟩
theorem aV.cell {S:List Nat} {a b:World} (h:aV S a b) {p:Addr} {u:Value} (hp:p.block∉S) (hc:a.cell? p=some u):b.cell? p=some u:=
 (Zam (h.block p.block (World.block_lt_of_cell? a _ hc) hp)).trans hc
theorem aV.setCell {S:List Nat} {a w:World} (h:aV S a w) {p:Addr} (hp:p.block∈S\/a.heap.size<=p.block) (u:Value):aV S a (w.setCell p u):=
 ⟨h.os,h.tape,h.output,by simpa[World.setCell]using h.size,fun i hi hn=>(Zan w p u i (by
  rintro rfl;rcases hp with hp | hp
  ·exact hn hp
  ·omega)).trans (h.block i hi hn)⟩
theorem aV.alloc {S:List Nat} {a w:World} (h:aV S a w) (o:Obj):aV S a (w.alloc o):=⟨h.os,h.tape,h.output,Zak h.size zS,fun i hi hn=>(Below.heap_alloc w o i (Zal hi h.size)).trans (h.block i hi hn)⟩
structure eG {β:Type} (R:World->Nat->Value->β->List Nat->Prop):Prop where
 agV:∀ {w w':World} {base:Nat} {v:Value} {x:β} {S:List Nat},R w base v x S->(∀k∈S,w'.heap[k]?=w.heap[k]?)->R w' base v x S
 range:∀ {w:World} {base:Nat} {v:Value} {x:β} {S:List Nat},R w base v x S->∀k∈S,base<=k/\k<w.heap.size
 nodup:∀ {w:World} {base:Nat} {v:Value} {x:β} {S:List Nat},R w base v x S->S.Nodup
 mono:∀ {w:World} {base mq:Nat} {v:Value} {x:β} {S:List Nat},R w base v x S->mq<=base->R w mq v x S
 one:∀ {w:World} {base:Nat} {v:Value} {x:β} {S:List Nat},R w base v x S->∃A n c,v=.slice A n c
section
variable {β : Type} {R : World → Nat → Value → β → List Nat → Prop}
theorem eG.agU (L:eG R) {w w':World} {base:Nat} {v:Value} {x:β} {S:List Nat} (h:R w base v x S) (hb:Below w.heap.size w w'):R w' base v x S:=L.agV h fun k hk=>hb.block k (L.range h k hk).2
theorem eG.only (L:eG R) {w w':World} {base:Nat} {v:Value} {x:β} {S T:List Nat} (h:R w base v x S) (hb:aV T w w') (hd:∀k∈S,k∉T):R w' base v x S:=L.agV h fun k hk=>hb.block k (L.range h k hk).2 (hd k hk)
end
def Qx {α:Type} (e:TypeId) (size:Nat) (enc:α->List Value) (w:World) (base:Nat) (v:Value) (xs:List α) (S:List Nat):Prop:=
 w.ownsRow base e size v xs.length (xs.flatMap enc)/\S=v.ownBlock.toList
theorem aD {w w':World} {base:Nat} {e:TypeId} {size:Nat} {v:Value} {n:Nat} {xs:List Value} (h:w.ownsRow base e size v n xs) (hs:∀k∈v.ownBlock.toList,w'.heap[k]?=w.heap[k]?):w'.ownsRow base e size v n xs:=by
 refine⟨h.1,h.2.imp id ?_⟩;rintro⟨g,cap,cur,rfl,h2,h3,h4⟩;exact⟨g,cap,cur,rfl,h2,(hs g (by simp[Value.ownBlock])).trans h3,h4⟩
theorem gW {w:World} {base mq:Nat} {e:TypeId} {size:Nat} {v:Value} {n:Nat} {xs:List Value} (h:w.ownsRow base e size v n xs) (hb:mq<=base):w.ownsRow mq e size v n xs:=
 ⟨h.1,h.2.imp id fun ⟨g,cap,cur,h1,h2,h3⟩=>⟨g,cap,cur,h1,Zak hb h2,h3⟩⟩
theorem qZ {w:World} {base:Nat} {e:TypeId} {size:Nat} {v:Value} {n:Nat} {xs:List Value} (h:w.ownsRow base e size v n xs):∃A m c,v=.slice A m c:=by
 rcases h.2 with⟨rfl,_⟩ | ⟨g,cap,cur,rfl,_⟩
 ·exact⟨_,_,_,rfl⟩
 ·exact⟨_,_,_,rfl⟩
theorem Gp {α:Type} (e:TypeId) (size:Nat) (enc:α->List Value):eG (Qx (α:=α) e size enc) where
 agV:=fun ⟨h,hS⟩ hs=>⟨aD h (fun k hk=>hs k (by rw[hS];exact hk)),hS⟩
 range:=fun ⟨h,hS⟩ k hk=>Zad h k (by rw[hS]at hk;simpa using hk)
 nodup:=fun {_ _ v _ _} ⟨_,hS⟩=>by rw[hS];cases v.ownBlock <;> simp
 mono:=fun ⟨h,hS⟩ hb=>⟨gW h hb,hS⟩
 one:=fun ⟨h,_⟩=>qZ h
def aZ {β:Type} (e:TypeId) (R:World->Nat->Value->β->List Nat->Prop) (w:World) (base:Nat) (v:Value) (xs:List β) (S:List Nat):Prop:=
 ∃(vs:List Value) (Ss:List (List Nat)),w.ownsRow base e 1 v xs.length vs/\Ss.length=xs.length /\
  (∀(k:Nat) u x T,vs[k]?=some u->xs[k]?=some x->Ss[k]?=some T->R w base u x T)/\S=v.ownBlock.toList++Ss.flatten/\S.Nodup
theorem mw {β:Type} {R:World->Nat->Value->β->List Nat->Prop} (e:TypeId) (L:eG R):eG (aZ e R) where
 agV:=fun {w w' base v xs S} h hs=>by
  obtain⟨vs,Ss,h1,h2,h3,h4,h5⟩:=h
  refine⟨vs,Ss,aD h1 (fun k hk=>hs k (by rw[h4];simp[hk])),h2,fun k u x T hu hx hT=>L.agV (h3 k u x T hu hx hT) (fun j hj=>hs j ?_),h4,h5⟩
  rw[h4];exact Zao _ (Zap.2 ⟨T,Zaq hT,hj⟩)
 range:=fun {w base v xs S} h k hk=>by
  obtain⟨vs,Ss,h1,h2,h3,h4,h5⟩:=h;rw[h4]at hk;rcases Zar.1 hk with hk | hk
  ·exact Zad h1 k (by simpa using hk)
  ·obtain⟨T,hT,hkT⟩:=Zap.1 hk;obtain⟨j,hj⟩:=List.mem_iff_getElem?.1 hT;have aA:j<Ss.length:=ah hj;have xA:vs.length=xs.length:=by simpa using h1.1
   obtain⟨u,hu⟩:=au vs j zO;obtain⟨x,hx⟩:=au xs j zO;exact L.range (h3 j u x T hu hx hj) k hkT
 nodup:=fun ⟨_,_,_,_,_,_,h5⟩=>h5
 mono:=fun {w base mq v xs S} h hb=>by
  obtain⟨vs,Ss,h1,h2,h3,h4,h5⟩:=h;exact⟨vs,Ss,gW h1 hb,h2,fun k u x T hu hx hT=>L.mono (h3 k u x T hu hx hT) hb,h4,h5⟩
 one:=fun ⟨_,_,h1,_⟩=>qZ h1
section
variable {β : Type} {R : World → Nat → Value → β → List Nat → Prop} {e : TypeId} {w : World} {base g c n : Nat} {xs : List β} {S : List Nat}
theorem fS {e:TypeId} {size:Nat} {m:Nat} {ys:List Value} (h:w.ownsRow base e size (.slice (some ⟨g,0,none⟩) n c) m ys):m=n:=by
 rcases h.2 with⟨h',_⟩ | ⟨g',CC,cur,h',_⟩
 ·simp at h'
 ·simp only[Value.slice.injEq]at h';exact h'.2.1.symm
theorem gX {e:TypeId} {size:Nat} {m:Nat} {ys:List Value} (h:w.ownsRow base e size (.slice (some ⟨g,0,none⟩) n c) m ys) (k:Nat):w.frozen? ⟨g,k,none⟩=false:=by
 obtain rfl:=fS h
 exact h.frozenAt k
theorem cj {e:TypeId} {size:Nat} {m:Nat} {ys:List Value} {v:Value} (h:w.ownsRow base e size v m ys):(v=.slice none 0 0/\m=0)\/∃g c,v=.slice (some ⟨g,0,none⟩) m c/\base<=g/\g<w.heap.size/\m<=c/\c<=maxLen:=by
 rcases h.2 with h | ⟨g,cap,cur,rfl,hb,hg,JI,hm,UU,Qp⟩
 ·exact .inl h
 ·exact .inr ⟨g,cap,rfl,hb,(Zas.1 hg).1,JI,hm⟩
theorem aZ.at_ (h:aZ e R w base (.slice (some ⟨g,0,none⟩) n c) xs S) {k:Nat} {x:β} (hx:xs[k]?=some x):∃u T,w.cell? ⟨g,k,none⟩=some u/\w.frozen? ⟨g,k,none⟩=false/\R w base u x T/\(∀j∈T,j∈S)/\g∉T/\g∈S:=by
 obtain⟨vs,Ss,h1,h2,h3,h4,h5⟩:=h;have hk:k<xs.length:=ah hx;have hn:=fS h1;have xA:vs.length=xs.length:=by simpa using h1.1
 obtain⟨u,hu⟩:=au vs k zO;obtain⟨T,hT⟩:=au Ss k zO;subst hn;refine⟨u,T,?_,h1.frozenAt k,h3 k u x T hu hx hT,fun j hj=>?_,fun hg=>?_,?_⟩
 ·rw[h1.cellAt (cap:=c) k zO];exact hu
 ·rw[h4];exact Zao _ (Zap.2 ⟨T,Zaq hT,hj⟩)
 ·rw[h4]at h5
  have:=(Zat.1 h5).2.2 g (by simp[Value.ownBlock]) g (Zap.2 ⟨T,Zaq hT,hg⟩)
  exact this rfl
 ·rw[h4];simp[Value.ownBlock]
theorem ik {Ss:List (List Nat)} {k j:Nat} {T:List Nat} (h:j∈(Ss.set k T).flatten):j∈Ss.flatten\/j∈T:=by
 obtain⟨U,hU,hj⟩:=Zap.1 h;rcases List.mem_or_eq_of_mem_set hU with h1 | h1
 ·exact .inl (Zap.2 ⟨U,h1,hj⟩)
 ·subst h1;exact .inr hj
theorem ny {Ss:List (List Nat)} {k:Nat} {T:List Nat} (h:Ss.flatten.Nodup) (hT:T.Nodup) (hd:∀i j U,i≠k->Ss[i]?=some U->j∈U->j∉T):(Ss.set k T).flatten.Nodup:=by
 induction Ss generalizing k with
 | nil=>simp
 | cons U Ss ih=>
  rw[List.flatten_cons,Zat]at h
  cases k with
  | zero=>
   rw[List.set_cons_zero,List.flatten_cons,Zat];refine⟨hT,h.2.1,fun a ha b hb oe=>?_⟩
   subst oe;obtain⟨V,hV,hbV⟩:=Zap.1 hb;obtain⟨i,hi⟩:=List.mem_iff_getElem?.1 hV;exact hd (i+1) a V zO (by simpa using hi) hbV ha
  | succ k=>
   rw[List.set_cons_succ,List.flatten_cons,Zat];refine⟨h.1,ih h.2.1 (fun i j V hi hV hj=>hd (i+1) j V zO (by simpa using hV) hj),fun a ha b hb oe=>?_⟩
   subst oe;rcases ik hb with hb | hb
   ·exact h.2.2 a ha a hb rfl
   ·exact hd 0 a U zO zS ha hb
theorem pD {Ss:List (List Nat)} (h:Ss.flatten.Nodup) {i j x:Nat} {U V:List Nat} (PP:i≠j) (hU:Ss[i]?=some U) (hV:Ss[j]?=some V) (hx:x∈U):x∉V:=by
 induction Ss generalizing i j with
 | nil=>simp at hU
 | cons W Ss ih=>
  rw[List.flatten_cons,Zat]at h
  cases i with
  | zero=>
   cases j with
   | zero=>omega
   | succ j=>
    simp at hU hV
    subst hU;exact fun hxV=>h.2.2 x hx x (Zap.2 ⟨V,Zaq hV,hxV⟩) rfl
  | succ i=>
   cases j with
   | zero=>
    simp at hU hV
    subst hV;exact fun hxV=>h.2.2 x hxV x (Zap.2 ⟨U,Zaq hU,hx⟩) rfl
   | succ j=>exact ih (i:=i) (j:=j) h.2.1 zO (by simpa using hU) (by simpa using hV)
theorem aZ.store (L:eG R) (h:aZ e R w base (.slice (some ⟨g,0,none⟩) n c) xs S) (k:Nat) {u:Value} {x:β} {T:List Nat} (hR:R w base u x T) (hd:∀j∈T,j∉S):
  ∃S',aZ e R (w.setCell ⟨g,k,none⟩ u) base (.slice (some ⟨g,0,none⟩) n c) (xs.set k x) S'/\(∀j∈S',j∈S\/j∈T):=by
 obtain⟨vs,Ss,h1,h2,h3,h4,h5⟩:=h;have hn:=fS h1;subst hn;have xA:vs.length=xs.length:=by simpa using h1.1
 have uH:=h5;rw[h4,Zat]at uH
 have zr:g∈S:=by rw[h4];simp[Value.ownBlock]
 have XO:g∉Ss.flatten:=fun hg=>uH.2.2 g (by simp[Value.ownBlock]) g hg rfl
 have hst:∀j,j≠g->(w.setCell ⟨g,k,none⟩ u).heap[j]?=w.heap[j]?:=fun j hj=>Zan w _ _ j hj
 refine⟨(Value.slice (some ⟨g,0,none⟩) xs.length c).ownBlock.toList++(Ss.set k T).flatten,⟨vs.set k u,Ss.set k T,?_,by simp[h2],?_,rfl,?_⟩,?_⟩
 ·have:=(h1.stored k u).1
  rw[Zau];exact this
 ·intro j u' x' T' hu hx hT
  have hj:j<xs.length:=by have:=ah hx;simpa using this
  by_cases sU:k=j
  ·subst sU;rw[Zav zO]at hu hx hT
   cases hu;cases hx;cases hT
   exact L.agV hR (fun i hi=>hst i (fun e=>hd i hi (e ▸ zr)))
  ·rw[Zaw sU]at hu hx hT;refine L.agV (h3 j u' x' T' hu hx hT) (fun i hi=>hst i (fun e=>XO ?_))
   subst e;exact Zap.2 ⟨T',Zaq hT,hi⟩
 ·rw[Zat];refine⟨uH.1,ny uH.2.1 (L.nodup hR) (fun i j U _ hU hj hjT=>hd j hjT ?_),fun a ha b hb oe=>?_⟩
  ·rw[h4];exact Zao _ (Zap.2 ⟨U,Zaq hU,hj⟩)
  ·subst oe;simp[Value.ownBlock]at ha
   subst ha;rcases ik hb with hb | hb
   ·exact XO hb
   ·exact hd a hb zr
 ·intro j hj;rcases Zar.1 hj with hj | hj
  ·left;rw[h4];exact Zax _ hj
  ·rcases ik hj with hj | hj
   ·left;rw[h4];exact Zao _ hj
   ·exact .inr hj
theorem aZ.ahn (L:eG R) (h:aZ e R w base (.slice (some ⟨g,0,none⟩) n c) xs S) {k:Nat} {x:β} (hx:xs[k]?=some x):
  ∃u T,w.cell? ⟨g,k,none⟩=some u/\R w base u x T/\(∀j∈T,j∈S)/\(∀(x':β) (w':World),R w' base u x' T->aV T w w'->aZ e R w' base (.slice (some ⟨g,0,none⟩) n c) (xs.set k x') S):=by
 obtain⟨vs,Ss,h1,h2,h3,h4,h5⟩:=h;have hk:k<xs.length:=ah hx;have hn:=fS h1;subst hn;have xA:vs.length=xs.length:=by simpa using h1.1
 obtain⟨u,hu⟩:=au vs k zO;obtain⟨T,hT⟩:=au Ss k zO;have uH:=h5;rw[h4,Zat]at uH;have XO:g∉Ss.flatten:=fun hg=>uH.2.2 g (by simp[Value.ownBlock]) g hg rfl
 refine⟨u,T,by rw[h1.cellAt (cap:=c) k zO];exact hu,h3 k u x T hu hx hT,fun j hj=>by rw[h4];exact Zao _ (Zap.2 ⟨T,Zaq hT,hj⟩),fun x' w' hR ho=>?_⟩
 have CI:g∉T:=fun hg=>XO (Zap.2 ⟨T,Zaq hT,hg⟩)
 refine⟨vs,Ss,?_,by simp[h2],?_,h4,h5⟩
 ·rw[Zau];refine aD h1 (fun j hj=>?_)
  simp[Value.ownBlock]at hj
  subst hj;exact ho.block j (Zad h1 j (by simp[Value.ownBlock])).2 CI
 ·intro j u' y T' zt hy ww
  by_cases sU:k=j
  ·subst sU;rw[Zav zO]at hy;cases hy
   rw[hu]at zt;cases zt
   rw[hT]at ww;cases ww
   exact hR
  ·rw[Zaw sU]at hy;refine L.only (h3 j u' y T' zt hy ww) ho (fun i hi hiT=>?_)
   exact pD uH.2.1 sU hT ww hiT hi
theorem aZ.made {x0:β} (m:Nat) (hm:m<=maxLen) (h0:∀w base,R w base (.slice none 0 0) x0 []) (w:World):
  aZ e R (w.alloc (.cells (List.replicate m (Value.slice none 0 0)).toArray e)) w.heap.size (.slice (some ⟨w.heap.size,0,none⟩) m m) (List.replicate m x0) [w.heap.size]:=by
 refine⟨List.replicate m (Value.slice none 0 0),List.replicate m [],?_,zS,?_,by simp[Value.ownBlock],zS⟩
 ·have:=World.ownsRow_lit (base:=w.heap.size) (e:=e) (size:=1) w (List.replicate m (Value.slice none 0 0)).toArray m (Zaj _) hm zS
  simpa using this
 ·intro k u x T hu hx hT;have zt:=Zaq hu;have FO:=Zaq hx;have ww:=Zaq hT;rw[List.mem_replicate]at zt FO ww;rw[zt.2,FO.2,ww.2];exact h0 _ _
end
def oO (e:Int×Int):List Value:=[.int .i64 e.1,.int .i64 e.2]
def eE:World->Nat->Value->List (Int×Int)->List Nat->Prop:=Qx 104 2 oO
theorem gY:eG eE:=Gp _ _ _
def zu:World->Nat->Value->List (List (Int×Int))->List Nat->Prop:=aZ 59 eE
theorem nA:eG zu:=mw _ gY
def mx (w:World) (base:Nat) (v:Value) (xs:List Int) (S:List Nat):Prop:=Own w base v xs/\S=v.ownBlock.toList
theorem fT:eG mx where
 agV:=fun ⟨h,hS⟩ hs=>⟨aD h (fun k hk=>hs k (by rw[hS];exact hk)),hS⟩
 range:=fun ⟨h,hS⟩ k hk=>Zad h k (by rw[hS]at hk;simpa using hk)
 nodup:=fun {_ _ v _ _} ⟨_,hS⟩=>by rw[hS];cases v.ownBlock <;> simp
 mono:=fun ⟨h,hS⟩ hb=>⟨gW h hb,hS⟩
 one:=fun ⟨h,_⟩=>qZ h
theorem q8 {es:List (Int×Int)} {k:Nat} {x:Int×Int} (h:es[k]?=some x):(es.flatMap oO)[k*2]?=some (.int .i64 x.1)/\(es.flatMap oO)[k*2+1]?=some (.int .i64 x.2):=by
 induction es generalizing k with
 | nil=>simp at h
 | cons e es ih=>
  cases k with
  | zero=>simp at h;subst h;simp[oO]
  | succ k=>
   have:=ih (k:=k) (by simpa using h)
   rw[List.flatMap_cons,show(k+1)*2=k*2+2 by omega]
   simp only[oO,List.cons_append,List.nil_append]
   exact⟨by simpa using this.1,by rw[show k*2+2+1=(k*2+1)+1+1 by omega];simpa using this.2⟩
theorem Qy {es:List (Int×Int)} {k:Nat} (x:Int×Int) (h:k<es.length):((es.flatMap oO).set (k*2) (.int .i64 x.1)).set (k*2+1) (.int .i64 x.2)=(es.set k x).flatMap oO:=by
 induction es generalizing k with
 | nil=>simp at h
 | cons e es ih=>
  cases k with
  | zero=>simp[oO]
  | succ k=>
   have:=ih (k:=k) (by simpa using h)
   rw[List.flatMap_cons,show(k+1)*2=k*2+1+1 by omega]
   simp only[oO,List.cons_append,List.nil_append,List.set_cons_succ,List.flatMap_cons]at this ⊢
   rw[this]
theorem Gq (es:List (Int×Int)):(es.flatMap oO).length=es.length*2:=by
 induction es with
 | nil=>rfl
 | cons e es ih=>rw[List.flatMap_cons,Zay,ih,Zaz];simp[oO];omega
theorem eE.read {w:World} {base:Nat} {v:Value} {es:List (Int×Int)} {S:List Nat} (h:eE w base v es S):CF w v es:=by
 obtain⟨h,hS⟩:=h;rcases cj h with⟨rfl,h0⟩ | ⟨g,c,rfl,hb,hg,hc,hm⟩
 ·obtain rfl:es=[]:=Zae h0
  exact⟨none,0,rfl,Zaj _,Zac _,fun k x hk=>by simp at hk⟩
 ·refine⟨_,c,rfl,hc,hm,fun k x hk=>⟨g,0,rfl,?_,?_⟩⟩
  ·have:=ah hk
   rw[Zba,h.cellAt (cap:=c) _ zO];exact(q8 hk).1
  ·have:=ah hk
   rw[Zba,h.cellAt (cap:=c) _ zO];exact(q8 hk).2
theorem zu.read {w:World} {base:Nat} {v:Value} {ep:List (List (Int×Int))} {S:List Nat} (h:zu w base v ep S):oD w v ep:=by
 obtain⟨vs,Ss,h1,h2,h3,h4,h5⟩:=h;rcases cj h1 with⟨rfl,h0⟩ | ⟨g,c,rfl,hb,hg,hc,hm⟩
 ·obtain rfl:ep=[]:=Zae h0
  exact⟨none,0,rfl,Zaj _,Zac _,fun k x hk=>by simp at hk⟩
 ·have xA:vs.length=ep.length:=by simpa using h1.1
  refine⟨_,c,rfl,hc,hm,fun k x hk=>?_⟩
  have aA:=ah hk;obtain⟨u,hu⟩:=au vs k zO;obtain⟨T,hT⟩:=au Ss k zO
  exact⟨g,0,u,rfl,by rw[Zba,h1.cellAt (cap:=c) _ zO];exact hu,eE.read (h3 k u x T hu hk hT)⟩
def tg:List (List (Int×Int))->Nat
 | []=>0
 | es::r=>2*es.length+tg r
theorem eE.cells {w:World} {base g c n:Nat} {es:List (Int×Int)} {S:List Nat} (h:eE w base (.slice (some ⟨g,0,none⟩) n c) es S) {k:Nat} {x:Int×Int} (hx:es[k]?=some x):
  w.cell? ⟨g,k*2,none⟩=some (.int .i64 x.1)/\w.cell? ⟨g,k*2+1,none⟩=some (.int .i64 x.2)/\w.frozen? ⟨g,k*2,none⟩=false/\w.frozen? ⟨g,k*2+1,none⟩=false:=by
 obtain⟨h,_⟩:=h;have hn:=fS h;subst hn
 have:=ah hx
 exact⟨by rw[h.cellAt (cap:=c) _ zO];exact(q8 hx).1,by rw[h.cellAt (cap:=c) _ zO];exact(q8 hx).2,h.frozenAt _,h.frozenAt _⟩
theorem eE.set {w:World} {base g c n:Nat} {es:List (Int×Int)} {S:List Nat} (h:eE w base (.slice (some ⟨g,0,none⟩) n c) es S) {k:Nat} (hk:k<es.length) (x:Int×Int):
  eE ((w.setCell ⟨g,k*2,none⟩ (.int .i64 x.1)).setCell ⟨g,k*2+1,none⟩ (.int .i64 x.2)) base (.slice (some ⟨g,0,none⟩) n c) (es.set k x) S:=by
 obtain⟨h,hS⟩:=h;have hn:=fS h;subst hn;have h1:=(h.stored (k*2) (.int .i64 x.1)).1;have h2:=(h1.stored (k*2+1) (.int .i64 x.2)).1;rw[Qy x hk]at h2;refine⟨?_,hS⟩;rw[Zau];exact h2
def aw (w:World) (base:Nat) (ve vi vn:Value) (n:ao) (S:List Nat):Prop:=
 ∃S1 S2 S3,zu w base ve n.ends S1/\mx w base vi n.ids S2/\mx w base vn n.agT S3/\S=S1++(S2++S3)/\S.Nodup
theorem aw.read {w:World} {base:Nat} {ve vi vn:Value} {n:ao} {S:List Nat} (h:aw w base ve vi vn n S):aR w ve vi vn n:=by
 obtain⟨S1,S2,S3,h1,h2,h3,_⟩:=h;exact⟨zu.read h1,h2.1.ints,h3.1.ints⟩
theorem aw.range {w:World} {base:Nat} {ve vi vn:Value} {n:ao} {S:List Nat} (h:aw w base ve vi vn n S):∀k∈S,base<=k/\k<w.heap.size:=by
 obtain⟨S1,S2,S3,h1,h2,h3,h4,_⟩:=h;intro k hk;rw[h4]at hk;rcases Zar.1 hk with hk | hk
 ·exact nA.range h1 k hk
 ·rcases Zar.1 hk with hk | hk
  ·exact fT.range h2 k hk
  ·exact fT.range h3 k hk
theorem aw.agV {w w':World} {base:Nat} {ve vi vn:Value} {n:ao} {S:List Nat} (h:aw w base ve vi vn n S) (hs:∀k∈S,w'.heap[k]?=w.heap[k]?):aw w' base ve vi vn n S:=by
 obtain⟨S1,S2,S3,h1,h2,h3,h4,h5⟩:=h
 exact⟨S1,S2,S3,nA.agV h1 (fun k hk=>hs k (by rw[h4];simp[hk])),fT.agV h2 (fun k hk=>hs k (by rw[h4];simp[hk])),fT.agV h3 (fun k hk=>hs k (by rw[h4];simp[hk])),h4,h5⟩
theorem aw.agU {w w':World} {base:Nat} {ve vi vn:Value} {n:ao} {S:List Nat} (h:aw w base ve vi vn n S) (hb:Below w.heap.size w w'):aw w' base ve vi vn n S:=
 h.agV fun k hk=>hb.block k (h.range k hk).2
theorem aw.mono {w:World} {base mq:Nat} {ve vi vn:Value} {n:ao} {S:List Nat} (h:aw w base ve vi vn n S) (hb:mq<=base):aw w mq ve vi vn n S:=by
 obtain⟨S1,S2,S3,h1,h2,h3,h4,h5⟩:=h;exact⟨S1,S2,S3,nA.mono h1 hb,fT.mono h2 hb,fT.mono h3 hb,h4,h5⟩
def Qz (x y:List Int):Bool:=decide (x=y)
theorem L9:(Tryz.prog.info? 59).map (fun i=>(i.zero,i.size,i.bytes))=some (some (.slice none 0 0),1,24):=zK
theorem zv:(Tryz.prog.info? 104).map (fun i=>(i.zero,i.size,i.bytes))=some (some (.agg #[.int .i64 0,.int .i64 0]),2,16):=zK
theorem zx (z:Value) (n:Nat):madeCells #[z] (n*1)=Array.replicate n z:=by
 apply Array.ext'
 rw[toList_madeCells_one];simp
theorem Gs (n:Nat) (hn:n<=1000000) (W:World):(Instr.makeSlice 27 (.int .i64 (n:Int)) (.int .i64 (n:Int))).run Tryz.prog W=.ok (.slice (some ⟨W.heap.size,0,none⟩) n n) (W.alloc (.cells (Array.replicate n (Value.slice none 0 0)) 59)):=by
 obtain⟨i0,hi,e_,dP,dY⟩:=info_parts L9
 have hr:=run_make (P:=Tryz.prog) W 27 59 i0 (.slice none 0 0) Tryz.underlying27 hi e_ .i64 .i64 n n zO (Int.le_refl _) (by rw[dY];omega) zO
 rw[dP]at hr;simp only[Zag]at hr;rw[show(Value.slice none 0 0).cells=#[Value.slice none 0 0]from rfl,zx]at hr
 exact hr
theorem q9 (n:Nat) (hn:n<=1000000) (W:World):(Instr.makeSlice 28 (.int .i64 (n:Int)) (.int .i64 (n:Int))).run Tryz.prog W=.ok (.slice (some ⟨W.heap.size,0,none⟩) n n) (W.alloc (.cells (Array.replicate n (Value.int .i64 0)) 3)):=by
 obtain⟨i0,hi,e_,dP,dY⟩:=info_parts mp
 have hr:=run_make (P:=Tryz.prog) W 28 3 i0 (.int .i64 0) Tryz.underlying28 hi e_ .i64 .i64 n n zO (Int.le_refl _) (by rw[dY];omega) zO
 rw[dP]at hr;simp only[Zag]at hr;rw[show(Value.int IntKind.i64 0).cells=#[Value.int .i64 0]from rfl,zx]at hr
 exact hr
def dQ (n:Nat):ao:={ ends:=List.replicate n [],ids:=[],agT:=List.replicate n 0 }
theorem uI (w:World) (base:Nat):eE w base (.slice none 0 0) [] []:=⟨World.ownsRow_nil w base _ _,rfl⟩
theorem my (w:World) (base:Nat):mx w base (.slice none 0 0) [] []:=⟨fA w base,rfl⟩
theorem Gt (w:World) (n:Nat) (hn:n<=1000000):mx (w.alloc (.cells (Array.replicate n (Value.int .i64 0)) 3)) w.heap.size (.slice (some ⟨w.heap.size,0,none⟩) n n) (List.replicate n 0) [w.heap.size]:=by
 have:=dS w (List.replicate n 0) (by simp[maxLen];omega)
 simp only[Zbb,List.map_replicate,List.toArray_replicate]at this;exact⟨this,rfl⟩
theorem zy (w:World) (n:Nat) (hn:n<=1000000):zu (w.alloc (.cells (Array.replicate n (Value.slice none 0 0)) 59)) w.heap.size (.slice (some ⟨w.heap.size,0,none⟩) n n) (List.replicate n []) [w.heap.size]:=
 by have:=aZ.made (R:=eE) (e:=59) n (by simp[maxLen];omega) uI w;rw[List.toArray_replicate]at this;exact this
theorem JW (w:World) (B:Obj) (n:Nat) (hn:n<=1000000):
  aw (((w.alloc B).alloc (.cells (Array.replicate n (Value.slice none 0 0)) 59)).alloc (.cells (Array.replicate n (Value.int .i64 0)) 3)) w.heap.size
   (.slice (some ⟨w.heap.size+1,0,none⟩) n n) (.slice none 0 0) (.slice (some ⟨w.heap.size+1+1,0,none⟩) n n) (dQ n) [w.heap.size+1,w.heap.size+1+1]:=by
 have h1:=zy (w.alloc B) n hn;have h2:=Gt ((w.alloc B).alloc (.cells (Array.replicate n (Value.slice none 0 0)) 59)) n hn;simp only[World.size_alloc]at h1 h2;exact⟨[w.heap.size+1],[],[w.heap.size+1+1],nA.mono (nA.agU h1 (am _ _)) zO,my _ _,fT.mono h2 zO,rfl,zS⟩
theorem Gu (w:World) (B:Obj) (n:Nat) (hn:n<=1000000):
  aw (((w.alloc B).alloc (.cells (Array.replicate n (Value.int .i64 0)) 3)).alloc (.cells (Array.replicate n (Value.slice none 0 0)) 59)) w.heap.size
   (.slice (some ⟨w.heap.size+1+1,0,none⟩) n n) (.slice none 0 0) (.slice (some ⟨w.heap.size+1,0,none⟩) n n) (dQ n) [w.heap.size+1+1,w.heap.size+1]:=by
 have h1:=Gt (w.alloc B) n hn;have h2:=zy ((w.alloc B).alloc (.cells (Array.replicate n (Value.int .i64 0)) 3)) n hn;simp only[World.size_alloc]at h1 h2;exact⟨[w.heap.size+1+1],[],[w.heap.size+1],nA.mono h2 zO,my _ _,fT.mono (fT.agU h1 (am _ _)) zO,rfl,zS⟩
theorem QB (w:World) (a b c:Obj):Below w.heap.size w (((w.alloc a).alloc b).alloc c):=(((Zaf _ _).alloc (Zaj _) _).alloc zS _).alloc (by simp;omega) _
theorem aw.drew {w:World} {base:Nat} {ve vi vn:Value} {n:ao} {S:List Nat} (h:aw w base ve vi vn n S):aw w.drew base ve vi vn n S:=h.agV fun _ _=>rfl
def tB (w:World) (n:ao) (e:Ending) (w':World):Prop:=∃ve vi vn S,e=.returned (.agg #[ve,vi,vn])/\aw w' w.heap.size ve vi vn n S/\Below w.heap.size w w'
theorem aw.ag0 {w:World} {base g c n:Nat} {vi vn:Value} {N:ao} {S:List Nat} (h:aw w base (.slice (some ⟨g,0,none⟩) n c) vi vn N S) {k:Nat} {x:List (Int×Int)} (hx:N.ends[k]?=some x):
  ∃u T,w.cell? ⟨g,k,none⟩=some u/\w.frozen? ⟨g,k,none⟩=false/\eE w base u x T/\base<=g/\g<w.heap.size/\g∈S:=by
 obtain⟨S1,S2,S3,h1,_,_,h4,_⟩:=h;obtain⟨u,T,a,b,c,_,_,d⟩:=aZ.at_ h1 hx
 exact⟨u,T,a,b,c,(nA.range h1 g d).1,(nA.range h1 g d).2,by rw[h4];exact Zax _ d⟩
def bB (w:World) (b:Nat) (x y z:Value):Prop:=∃r,w.heap[b]?=some (.cells #[x,y,z] r)
theorem bB.cells {w:World} {b:Nat} {x y z:Value} (h:bB w b x y z):w.cell? ⟨b,0,none⟩=some x/\w.cell? ⟨b,1,none⟩=some y/\w.cell? ⟨b,2,none⟩=some z/\w.frozen? ⟨b,0,none⟩=false/\w.frozen? ⟨b,1,none⟩=false/\w.frozen? ⟨b,2,none⟩=false:=by
 obtain⟨r,h⟩:=h;simp[World.cell?,World.frozen?,h]
theorem bB.lt {w:World} {b:Nat} {x y z:Value} (h:bB w b x y z):b<w.heap.size:=by
 obtain⟨r,h⟩:=h;exact(Zas.1 h).1
theorem bB.below {w w':World} {B b:Nat} {x y z:Value} (h:bB w b x y z) (hb:Below B w w') (hB:b<B):bB w' b x y z:=by
 obtain⟨r,h⟩:=h;exact⟨r,(hb.block b hB).trans h⟩
theorem bB.set {w:World} {b:Nat} {x y z u:Value} {a:Addr} (h:bB w b x y z) (ha:a.block≠b):bB (w.setCell a u) b x y z:=by
 obtain⟨r,h⟩:=h;exact⟨r,(Zan w a u b (Ne.symm ha)).trans h⟩
theorem bB.alloc {w:World} {b:Nat} {x y z:Value} (h:bB w b x y z) (o:Obj):bB (w.alloc o) b x y z:=h.below (am w o) h.lt
theorem bB.new (w:World) (x y z:Value) (t:TypeId):bB (w.alloc (.cells #[x,y,z] t)) w.heap.size x y z:=⟨t,by show(w.heap.push _)[w.heap.size]?=_;rw[Zbc]⟩
theorem sa {w:World} {ops:Array Oper} {rest:List Oper} {o:Oper} {a:Act} {Q:Exit->Act->World->Prop} (gT:o.guard=none) (s x:Operand)
  (ho:o.op=.call { callee:=.builtin .append,args:=#[s,x],argTypes:=#[28,28] }) {base:Nat} {v:Value} {xs:List Int} (hs:a.eval s=v) (h:Own w base v xs) (b:Nat) (y:Int)
  (hx:a.eval x=.slice (some ⟨b,0,none⟩) 1 1) (hc:w.cell? ⟨b,0,none⟩=some (.int .i64 y)) (hl:xs.length+1<=17592186044416) (mz:base<=w.heap.size)
  (k:∀g cap w',Own w' base (.slice (some ⟨g,0,none⟩) (xs.length+1) cap) (xs++[y])->w.grownBy w' v.ownBlock->(v.ownBlock=some g\/g=w.heap.size)->g<w'.heap.size->wpList Tryz.prog ops Q rest (a.put o.dst (.slice (some ⟨g,0,none⟩) (xs.length+1) cap)) w'):wpList Tryz.prog ops Q (o::rest) a w:=by
 obtain⟨i0,hi,e_,dP,dY⟩:=info_parts mp
 refine wpList_append_lies w gT s x 28 ho base 3 i0 (.int .i64 0) 1 8 Tryz.underlying28 hi e_ dP dY rfl (by decide) v xs.length (xs.map (Value.int .i64)) hs h ⟨b,0,none⟩ 1 1 [.int .i64 y] hx rfl
  (by intro j u hj;match j,hj with | 0,hj=>(simp at hj;subst hj;simpa[Addr.add]using hc) | j+1,hj=>simp at hj) (by simp[Value.oneCell']) zO (by unfold maxLen;omega) zO mz w.heap.size rfl ?_
 intro g cap w' h1 h2 h3 h4;refine k g cap w' ?_ h2 h3 h4;unfold Own;simpa using h1
theorem aZ.grow {β:Type} {R:World->Nat->Value->β->List Nat->Prop} {e:TypeId} {w:World} {base g c n:Nat} {xs:List β} {S:List Nat} (L:eG R) (h:aZ e R w base (.slice (some ⟨g,0,none⟩) n c) xs S) {k:Nat} {x:β} (hx:xs[k]?=some x):
  ∃u T,w.cell? ⟨g,k,none⟩=some u/\R w base u x T/\(∀j∈T,j∈S)/\g∉T/\(∀(u':Value) (x':β) (T':List Nat) (w':World),R w' base u' x' T'->aV T w w'->(∀j∈T',j∈T\/w.heap.size<=j)->∃S',aZ e R (w'.setCell ⟨g,k,none⟩ u') base (.slice (some ⟨g,0,none⟩) n c) (xs.set k x') S'/\∀j∈S',j∈S\/w.heap.size<=j):=by
 have hS:=(mw e L).range h;obtain⟨vs,Ss,h1,h2,h3,h4,h5⟩:=h;have hk:k<xs.length:=ah hx;have hn:=fS h1;subst hn;have xA:vs.length=xs.length:=by simpa using h1.1
 obtain⟨u,hu⟩:=au vs k zO;obtain⟨T,hT⟩:=au Ss k zO;have uH:=h5;rw[h4,Zat]at uH
 have zr:g∈S:=by rw[h4];simp[Value.ownBlock]
 have XO:g∉Ss.flatten:=fun hg=>uH.2.2 g (by simp[Value.ownBlock]) g hg rfl
 have VF:∀j∈T,j∈S:=fun j hj=>by rw[h4];exact Zao _ (Zap.2 ⟨T,Zaq hT,hj⟩)
 have CI:g∉T:=fun hg=>XO (Zap.2 ⟨T,Zaq hT,hg⟩)
 refine⟨u,T,by rw[h1.cellAt (cap:=c) k zO];exact hu,h3 k u x T hu hx hT,VF,CI,fun u' x' T' w' hR ho ww=>?_⟩
 have adW:=(hS g zr).2
 have QC:g∉T':=fun hg=>by
  rcases ww g hg with h | h
  ·exact CI h
  ·omega
 have QD:w'.ownsRow base e 1 (.slice (some ⟨g,0,none⟩) xs.length c) xs.length vs:=aD h1 (fun j hj=>by
  simp[Value.ownBlock]at hj
  subst hj
  exact ho.block _ adW CI)
 have hst:∀j,j≠g->(w'.setCell ⟨g,k,none⟩ u').heap[j]?=w'.heap[j]?:=fun j hj=>Zan w' _ _ j hj
 refine⟨(Value.slice (some ⟨g,0,none⟩) xs.length c).ownBlock.toList++(Ss.set k T').flatten,⟨vs.set k u',Ss.set k T',?_,by simp[h2],?_,rfl,?_⟩,?_⟩
 ·have:=(QD.stored k u').1
  rw[Zau];exact this
 ·intro j u2 x2 T2 EE uJ QE
  by_cases sU:k=j
  ·subst sU;rw[Zav zO]at EE uJ QE
   cases EE;cases uJ;cases QE
   exact L.agV hR (fun i hi=>hst i (fun e=>QC (e ▸ hi)))
  ·rw[Zaw sU]at EE uJ QE;have h0:=h3 j u2 x2 T2 EE uJ QE;refine L.agV h0 (fun i hi=>(hst i (fun e=>XO ?_)).trans (ho.block i (L.range h0 i hi).2 (pD uH.2.1 (Ne.symm sU) QE hT hi)))
   subst e;exact Zap.2 ⟨T2,Zaq QE,hi⟩
 ·rw[Zat];refine⟨uH.1,ny uH.2.1 (L.nodup hR) (fun i j U nS hU hj hjT=>?_),fun a ha b hb oe=>?_⟩
  ·rcases ww j hjT with h | h
   ·exact pD uH.2.1 nS hU hT hj h
   ·have:=(hS j (by rw[h4];exact Zao _ (Zap.2 ⟨U,Zaq hU,hj⟩))).2
    omega
  ·subst oe;simp[Value.ownBlock]at ha
   subst ha;rcases ik hb with hb | hb
   ·exact XO hb
   ·exact QC hb
 ·intro j hj;rcases Zar.1 hj with hj | hj
  ·left;rw[h4];exact Zax _ hj
  ·rcases ik hj with hj | hj
   ·left;rw[h4];exact Zao _ hj
   ·rcases ww j hj with h | h
    ·exact .inl (VF j h)
    ·exact .inr h
theorem aw.ag5 {w:World} {base g c n:Nat} {vi vn:Value} {N:ao} {S:List Nat} (h:aw w base (.slice (some ⟨g,0,none⟩) n c) vi vn N S) {k:Nat} {x:List (Int×Int)} (hx:N.ends[k]?=some x):
  ∃u T,w.cell? ⟨g,k,none⟩=some u/\w.frozen? ⟨g,k,none⟩=false/\eE w base u x T/\(∀j∈T,j∈S)/\g∉T/\g∈S/\(∀(u':Value) (x':List (Int×Int)) (T':List Nat) (w':World),eE w' base u' x' T'->aV T w w'->(∀j∈T',j∈T\/w.heap.size<=j) ->
   ∃S',aw (w'.setCell ⟨g,k,none⟩ u') base (.slice (some ⟨g,0,none⟩) n c) vi vn { N with ends:=N.ends.set k x' } S'/\∀j∈S',j∈S\/w.heap.size<=j):=by
 have JX:=h.range;obtain⟨S1,S2,S3,h1,h2,h3,h4,h5⟩:=h;obtain⟨_,_,_,hf,_,_,_,tC⟩:=aZ.at_ h1 hx;obtain⟨u,T,hu,hR,VF,CI,qk⟩:=aZ.grow gY h1 hx
 have Zh:∀j∈T,j∈S:=fun j hj=>by rw[h4];exact Zax _ (VF j hj)
 have zr:g∈S:=by rw[h4];exact Zax _ tC
 refine⟨u,T,hu,hf,hR,Zh,CI,zr,fun u' x' T' w' XP ho ww=>?_⟩
 obtain⟨S1',o1,hs⟩:=qk u' x' T' w' XP ho ww;rw[h4,Zat]at h5;obtain⟨n1,n2,n3⟩:=h5;have dD:aV (g::T) w (w'.setCell ⟨g,k,none⟩ u'):=(ho.mono (fun j hj=>Zbd _ hj)).setCell (.inl zS) _
 have d:∀j∈S2++S3,j∉g::T:=fun j hj hg'=>by
  rcases Zbe.1 hg' with rfl | hg'
  ·exact n3 _ tC _ hj rfl
  ·exact n3 _ (VF j hg') _ hj rfl
 refine⟨S1'++(S2++S3),⟨S1',S2,S3,o1,fT.only h2 dD (fun j hj=>d j (Zax _ hj)),fT.only h3 dD (fun j hj=>d j (Zao _ hj)),rfl,?_⟩,?_⟩
 ·rw[Zat];refine⟨nA.nodup o1,n2,fun a ha b hb oe=>?_⟩
  subst oe;rcases hs a ha with h | h
  ·exact n3 a h a hb rfl
  ·have:=(JX a (by rw[h4];exact Zao _ hb)).2
   omega
 ·intro j hj;rcases Zar.1 hj with hj | hj
  ·rcases hs j hj with h | h
   ·exact .inl (by rw[h4];exact Zax _ h)
   ·exact .inr h
  ·exact .inl (by rw[h4];exact Zao _ hj)
theorem JY (w:World) (base:Nat):aw w base (.slice none 0 0) (.slice none 0 0) (.slice none 0 0) ⟨[],[],[]⟩ []:=
 ⟨[],[],[],⟨[],[],World.ownsRow_nil w base _ _,rfl,fun k u x T h=>by simp at h,rfl,zS⟩,my _ _,my _ _,rfl,zS⟩
theorem bf {w w':World} (hb:Below w.heap.size w w') {a:Addr} {u:Value} (h:w.cell? a=some u) (hf:w.frozen? a=false):w'.frozen? a=false:=(hb.frozen (World.block_lt_of_cell? w _ h)).trans hf
theorem aV.fz {S:List Nat} {a b:World} (h:aV S a b) {p:Addr} {u:Value} (hp:p.block∉S) (hc:a.cell? p=some u) (hf:a.frozen? p=false):b.frozen? p=false:=
 (World.frozen?_of_block (h.block p.block (World.block_lt_of_cell? a _ hc) hp)).trans hf
open Go.ChangeShapes Go.WideShapes Go.ChangeAt Go.RowKit Go.Joins Go.Deep
section
variable {H : Type} {enc : TypeId × Value → H} {W : World}
end
def left (l:Int) (n:Nat):Int:=if l-n<0 then -1 else l-n
def EF (ep:List (List (Int×Int))):Nat:=(ep.map List.length).sum
def Zi (ep:List (List (Int×Int))):Nat:=ep.length+EF ep
def qm (n:ao):Nat:=Zi n.ends+n.ids.length+n.agT.length
section
variable {ops : Array Oper} {rest : List Oper} {o : Oper} {a : Act} {Q : Exit → Act → World → Prop}
end
section
variable {ops : Array Oper} {rest : List Oper} {o : Oper} {a : Act} {Q : Exit → Act → World → Prop}
end
theorem bB.ahb {w:World} {b:Nat} {x y z u:Value} (h:bB w b x y z):bB (w.setCell ⟨b,0,none⟩ u) b u y z:=by
 obtain⟨r,h⟩:=h;exact⟨r,by simp[World.setCell,Zbf,h]⟩
theorem bB.ahh {w:World} {b:Nat} {x y z u:Value} (h:bB w b x y z):bB (w.setCell ⟨b,1,none⟩ u) b x u z:=by
 obtain⟨r,h⟩:=h;exact⟨r,by simp[World.setCell,Zbf,h]⟩
theorem bB.ahe {w:World} {b:Nat} {x y z u:Value} (h:bB w b x y z):bB (w.setCell ⟨b,2,none⟩ u) b x y u:=by
 obtain⟨r,h⟩:=h;exact⟨r,by simp[World.setCell,Zbf,h]⟩
def uK (ids:List Int) (nodes:Int):Bool:=((List.range ids.length).all fun i=>jK 1 999999 (ids.getD i 0) && !((ids.take i).contains (ids.getD i 0)))&&((ids.length:Int)==0||(ids.length:Int)==nodes)
theorem kA {ids:List Int} {i:Nat} (h:i<ids.length):ids.getD i 0=ids[i]:=by simp[zDd,h]
theorem Gv (ids:List Int):(∀i (h:i<ids.length),ids[i]∉ids.take i)↔ids.Nodup:=by
 unfold List.Nodup;rw[Zbg];constructor
 ·intro h i j hi hj PP e
  refine h j hj (List.mem_iff_getElem.2 ⟨i,by simp;omega,?_⟩)
  rw[List.getElem_take];exact e
 ·intro h i hi hm;obtain⟨j,hj,e⟩:=List.mem_iff_getElem.1 hm;simp at hj
  rw[List.getElem_take]at e;exact h j i zO hi zO e
theorem JZ (lo up:Int) (s:List Int):uF lo up s=true↔(∀x∈s,jK lo up x=true)/\s.Pairwise (· < ·):=by
 unfold uF;rw[Zbh];constructor
 ·intro h
  have h':∀i (hl:i<s.length),jK lo up s[i]=true/\(i=0\/s.getD (i-1) 0<s[i]):=fun i hl=>by
   have:=h i (Zab.2 hl)
   rw[kA hl]at this;simpa using this
  refine⟨fun x hx=>?_,?_⟩
  ·obtain⟨i,hi,rfl⟩:=List.mem_iff_getElem.1 hx;exact(h' i hi).1
  ·rw[Zbg];intro i j hi hj PP
   induction j with
   | zero=>omega
   | succ j ih=>
    have hs:=(h' (j+1) hj).2;rw[Nat.add_sub_cancel,kA (show j<s.length by omega)]at hs
    rcases Zbi i j with h1 | h1
    ·have:=ih zO h1
     omega
    ·obtain rfl:i=j:=zO
     omega
 ·rintro⟨h1,h2⟩ i hi;have hl:=Zab.1 hi;rw[kA hl];rw[Zbg]at h2;rw[Zai];refine⟨h1 _ (Zbj hl),?_⟩;rcases Zbk i with h0 | h0
  ·simp[h0]
  ·have:=h2 (i-1) i zO hl zO
   rw[kA (show i-1<s.length by omega)]
   simp[this]
theorem QF (ids:List Int) (nodes:Int):uK ids nodes=true↔(∀x∈ids,jK 1 999999 x=true)/\ids.Nodup/\((ids.length:Int)=0\/(ids.length:Int)=nodes):=by
 unfold uK;rw[Zai,Zbh,<- Gv];constructor
 ·rintro⟨h,h2⟩
  have h':∀i (hl:i<ids.length),jK 1 999999 ids[i]=true/\ids[i]∉ids.take i:=fun i hl=>by
   have:=h i (Zab.2 hl)
   rw[kA hl]at this;simpa using this
  refine⟨fun x hx=>?_,fun i hl=>(h' i hl).2,by simpa using h2⟩
  obtain⟨i,hi,rfl⟩:=List.mem_iff_getElem.1 hx;exact(h' i hi).1
 ·rintro⟨h1,h2,h3⟩;refine⟨fun i hi=>?_,by simpa using h3⟩
  have hl:=Zab.1 hi;rw[kA hl,Zai];exact⟨h1 _ (Zbj hl),by simpa using h2 i hl⟩
theorem L_ (ids:List Int) (nodes:Int):uK ids nodes=ED ids nodes:=by
 rw[Zbl,QF]
 cases Zj:ids with
 | nil=>simp[ED]
 | cons a l=>
  rw[<- Zj]
  have jh:ids.isEmpty=false:=by rw[Zj];rfl
  have XQ:¬(ids.length:Int)=0:=by rw[Zj];simp;omega
  unfold ED;rw[jh,Bool.false_or,Zai,JZ,beq_iff_eq];have hp:=List.mergeSort_perm ids (fun x y=>decide (x<=y))
  have hs:(ids.mergeSort fun x y=>decide (x<=y)).Pairwise fun a b=>decide (a<=b)=true:=
   List.pairwise_mergeSort (fun a b c h1 h2=>by simp at h1 h2 ⊢;omega) (fun a b=>by simp;omega) ids
  constructor
  ·rintro⟨h1,h2,h3⟩;refine⟨zO,fun x hx=>h1 x (hp.mem_iff.1 hx),?_⟩
   have hn:=hp.nodup_iff.2 h2
   exact(hs.and hn).imp fun {a b} ⟨h,h'⟩=>by simp at h;omega
  ·rintro⟨h1,h2,h3⟩;refine⟨fun x hx=>h2 x (hp.mem_iff.2 hx),hp.nodup_iff.1 (h3.imp fun {a b} h=>zO),.inr h1⟩
def nj (xs:List Int) (x:Int):Bool:=xs.contains x
theorem sc (v:Value) (xs:List Int) (x:Int) (w:World) (h:bs w v xs):Calls Tryz.prog 110 #[v,.int .i64 x] w fun e w'=>e=.returned (.bool (nj xs x))/\w=w':=by
 obtain⟨A,c,rfl,fR,hm,hA⟩:=h;unfold maxLen at hm;have HA:=zh hA;clear hA
 go_enter Tryz.func110,Tryz.ntmps110
 go_wp2
 go_loop [9] (fun i=>∃k:Nat,k<=xs.length/\i=.int .i64 k/\x∉xs.take k) (fun i=>xs.length-(intOf i).toNat)
 case atStart=>exact⟨0,Zac _,rfl,zS⟩
 case round=>
  obtain⟨k,hk,rfl,i_⟩:=hrel;have qo:=zh i_;clear i_
  by_cases aA:k<xs.length
  ·obtain⟨y,hy⟩:=au xs k aA;obtain⟨b,off,rfl,dU⟩:=HA k y hy;have Hy:=zh hy;clear hy
   by_cases uN:y=x
   ·subst uN;go_wp2;go_ret
    exact⟨eT (by unfold nj;simpa using Zaq Hy.out),rfl⟩
   ·go_wp2
    go_round
    case rel=>
     refine⟨k+1,zO,zS,?_⟩
     rw[bJ Hy.out];simp only[Zar,Zbm,not_or];exact⟨qo,fun e=>uN e.symm⟩
    simp[intOf];omega
  ·go_wp2;go_ret
   have:=qo.out
   rw[oB xs aA]at this
   exact⟨aJ (by unfold nj;simpa using this),rfl⟩
theorem bs.take {w:World} {A:Option Addr} {c:Nat} {xs:List Int} (h:bs w (.slice A xs.length c) xs) (k:Nat) (hk:k<=xs.length):bs w (.slice A k c) (xs.take k):=by
 obtain⟨A',c',hv,fR,hm,hA⟩:=h;cases hv
 refine⟨A,c,by simp[Nat.min_eq_left hk],by simp;omega,hm,fun j x hx=>?_⟩
 have hj:j<k:=by have:=ah hx;simp at this;omega
 rw[List.getElem?_take,if_pos hj]at hx;exact hA j x hx
theorem Nl (v:Value) (ids:List Int) (nodes:Int) (w:World) (h:bs w v ids):Calls Tryz.prog 100 #[v,.int .i64 nodes] w fun e w'=>e=.returned (.bool (uK ids nodes))/\w=w':=by
 have H:=zh h;obtain⟨A,c,rfl,fR,hm,hA⟩:=h;unfold maxLen at hm;have HA:=zh hA;clear hA
 go_enter Tryz.func100,Tryz.ntmps100
 go_wp2
 go_loop [9] (fun i=>∃k:Nat,k<=ids.length/\i=.int .i64 k/\∀j,j<k->jK 1 999999 (ids.getD j 0)=true/\nj (ids.take j) (ids.getD j 0)=false) (fun i=>ids.length-(intOf i).toNat)
 case atStart=>exact⟨0,Zac _,rfl,fun j hj=>zO⟩
 case round=>
  obtain⟨k,hk,rfl,i_⟩:=hrel;have qo:=zh i_;clear i_
  by_cases aA:k<ids.length
  ·obtain⟨y,hy⟩:=au ids k aA;obtain⟨b,off,rfl,dU⟩:=HA k y hy;have hgy:ids.getD k 0=y:=by simp[hy]
   have Hg:=zh hgy;clear hy hgy;cases hi:jK 1 999999 y
   ·go_wp2_with (go_at_call 52;refine(gA _ _ _ _).mono ?_;rintro e w' ⟨rfl,rfl⟩)
    go_ret;refine⟨aJ ?_,rfl⟩;unfold uK;rw[Zah]
    left
    rw[List.all_eq_false]
    exact⟨k,Zab.2 aA,by rw[Hg.out,hi];simp⟩
   ·cases hc:nj (ids.take k) y
    ·go_wp2_with (first | (go_at_call 52;refine(gA _ _ _ _).mono ?_;rintro e w' ⟨rfl,rfl⟩) | (go_at_call 110;refine(sc _ (ids.take k) y _ (H.take k hk)).mono ?_;rintro e w' ⟨rfl,rfl⟩))
     go_round
     case rel=>
      refine⟨k+1,zO,zS,fun j hj=>?_⟩
      rcases Zbi j k with h | h
      ·exact qo j h
      ·obtain rfl:j=k:=zO
       rw[Hg.out];exact⟨hi,hc⟩
     simp[intOf];omega
    ·go_wp2_with (first | (go_at_call 52;refine(gA _ _ _ _).mono ?_;rintro e w' ⟨rfl,rfl⟩) | (go_at_call 110;refine(sc _ (ids.take k) y _ (H.take k hk)).mono ?_;rintro e w' ⟨rfl,rfl⟩))
     go_ret;refine⟨aJ ?_,rfl⟩;unfold uK;rw[Zah]
     left
     rw[List.all_eq_false]
     exact⟨k,Zab.2 aA,by rw[Hg.out,hi];unfold nj at hc;rw[hc];simp⟩
  ·have c_:Hid (uK ids nodes=((ids.length:Int)==0||(ids.length:Int)==nodes)):=by
    show _=_
    unfold uK
    rw[show((List.range ids.length).all fun i=>jK 1 999999 (ids.getD i 0) && !((ids.take i).contains (ids.getD i 0)))=true from Zbh.2 (fun j hj=>by
     have:=qo.out j (zX (Zab.1 hj))
     unfold nj at this
     rw[this.1,this.2];rfl),Bool.true_and]
   by_cases h0:(ids.length:Int)=0
   ·go_wp2;go_ret
    exact⟨eT (by rw[c_.out];simp[h0]),rfl⟩
   ·have jh:¬ids=[]:=fun e=>h0 (by simp[e])
    go_wp2;go_ret;refine⟨bG ?_,rfl⟩;rw[c_.out,show((ids.length:Int)==0)=false by simpa using h0,Bool.false_or]
@[simp ↓] theorem XR (a b c d:Int) (w:World):(binOp .neq 104 (.agg #[.int .i64 a,.int .i64 b]) (.agg #[.int .i64 c,.int .i64 d])).run Tryz.prog w=.ok (.bool (!wg (a,b) (c,d))) w:=by
 go_simp
 by_cases f1:a=c
 ·by_cases f2:b=d
  ·simp[f1,f2,wg]
  ·simp[f1,f2,wg]
 ·simp[f1,wg]
@[simp ↓] theorem XS (a b c d:Int) (w:World):(binOp .eql 104 (.agg #[.int .i64 a,.int .i64 b]) (.agg #[.int .i64 c,.int .i64 d])).run Tryz.prog w=.ok (.bool (wg (a,b) (c,d))) w:=by
 go_simp
 by_cases f1:a=c
 ·by_cases f2:b=d
  ·simp[f1,f2,wg]
  ·simp[f1,f2,wg]
 ·simp[f1,wg]
theorem aR.es {w:World} {a b c:Value} {n:ao} (h:aR w a b c n):oD w a n.ends:=h.1
theorem aR.is {w:World} {a b c:Value} {n:ao} (h:aR w a b c n):bs w b n.ids:=h.2.1
theorem aR.ns {w:World} {a b c:Value} {n:ao} (h:aR w a b c n):bs w c n.agT:=h.2.2
theorem bU (z:Int) (h : -9223372036854775808<=z) (h2:z<=9223372036854775807):IntKind.i64.wrap z=z:=IntWalk.i64_in z ⟨h,h2⟩
theorem zw (k:Nat) (h:(k:Int)<9223372036854775807:=by omega):IntKind.i64.wrap ((k:Int)+1)=(k:Int)+1:=bU _ (by omega) (by omega)
end Go.Proofs.YtnioemnkfojmkaaGreat
