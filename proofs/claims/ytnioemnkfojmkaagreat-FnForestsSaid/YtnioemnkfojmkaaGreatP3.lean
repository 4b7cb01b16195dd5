/- Parts of the proof: walks of functions and plain laws. -/
import Derived.Test.YtnioemnkfojmkaaGreatP2
import Derived.Lib.SliceRun
import Derived.Laws.EntriesVeiled
set_option maxRecDepth 100000
set_option maxHeartbeats 16000000
namespace Go.Proofs.YtnioemnkfojmkaaGreat
open Go Go.RowKit
theorem pE (ve vi vn:Value) (n:ao) (w:World) (h:aR w ve vi vn n):
  Calls Tryz.prog 51 #[.agg #[ve,vi,vn]] w fun e w'=>e=.returned (.bool (ar n))/\Below w.heap.size w w':=by
 obtain⟨w0,bj⟩:=J_ (w.alloc (.cells #[ve,vi,vn] 30))
 have ks:Below w.heap.size w w0:=by rw[bj];exact am _ _
 have H:=zh (h.agU ks);obtain⟨h1,h2,h3⟩:=h.agU ks;obtain⟨A,c,rfl,fR,hm,hA⟩:=h1;obtain⟨A2,c2,rfl,_,gC,_⟩:=h2;obtain⟨A3,c3,rfl,_,jz,_⟩:=h3;unfold maxLen at hm gC jz
 have p0:∀W,ab w0 W->W.cell? ⟨w.heap.size,0,none⟩=some (.slice A n.ends.length c):=fun W hW=>bc hW (by rw[bj];simp)
 have p1:∀W,ab w0 W->W.cell? ⟨w.heap.size,1,none⟩=some (.slice A2 n.ids.length c2):=fun W hW=>bc hW (by rw[bj];simp)
 have p2:∀W,ab w0 W->W.cell? ⟨w.heap.size,2,none⟩=some (.slice A3 n.agT.length c3):=fun W hW=>bc hW (by rw[bj];simp)
 obtain⟨aY,HA,cD⟩:=B_ ks hA bj;clear ks hA h bj
 go_enter Tryz.func51,Tryz.ntmps51
 go_upto_region 1 with(fail);rw[<- cD.out];refine aM 29 (ab w0) (aa _) ?_;simp only[zT]
 iterate 3 (refine ch rfl ?_;simp only[zA])
 apply dE _ rfl;(intro W hW;unfold a_;go_simp;with_reducible exact zQ (gA _ _ _ W));simp only[zA]
 iterate 2 (refine ch rfl ?_;simp only[zA])
 iterate 5 (refine iT rfl rfl ?_;simp only[zA])
 apply bn rfl rfl;(intro hb;intro W hW;unfold a_;go_simp;with_reducible exact zQ (Nl _ n.ids _ W (H.out.is.agU hW.below)));simp only[zA]
 refine iT rfl rfl ?_;simp only[zA]
 (first | refine db rfl rfl ?_ | (refine ch rfl ?_));simp only[zA]
 refine ch rfl ?_;simp only[zA]
 iterate 7 (refine iT rfl rfl ?_;simp only[zA])
 (first | refine db rfl rfl ?_ | (refine ch rfl ?_));simp only[zA]
 refine ch rfl ?_;simp only[zA]
 iterate 2 (refine iT rfl rfl ?_;simp only[zA])
 apply bn rfl rfl;(intro hb;intro W hW;unfold a_;go_simp;with_reducible exact zQ (Dq _ n.agT _ _ W (H.out.ns.agU hW.below)));simp only[zA]
 refine iT rfl rfl ?_;simp only[zA]
 (first | refine db rfl rfl ?_ | (refine ch rfl ?_));simp only[zA]
 intro W hW
 cases hg:(!jK 1 40 (n.ends.length:Int) || !uK n.ids n.ends.length||((n.agT.length:Int) != n.ends.length) || !n.agT.all (jK 0 9))
 ·have hr:=zh (show ar n=(List.range n.ends.length).all fun v=>iy n.ends v (n.ends.getD v []) by
   simp only[Zbn,Zbo,bne_eq_false_iff_eq]at hg
   simp[ar,hg,<- L_,pB])
  obtain⟨Hg,HW⟩:=A_ hg hW;clear hg;go_wp2
  go_loopw [39] (fun i wr=>∃k:Nat,k<=n.ends.length/\i=.int .i64 k/\((List.range k).all fun v=>iy n.ends v (n.ends.getD v []))=true/\ab w0 wr) (fun i _=>n.ends.length-(intOf i).toNat)
  case atStart=>exact⟨0,Zac _,rfl,rfl,HW⟩
  case round=>
   obtain⟨k,hk,rfl,c_,r_⟩:=hrel;have gS:=zh c_;clear c_ hW
   by_cases aA:k<n.ends.length
   ·obtain⟨es,aU⟩:=au n.ends k aA;obtain⟨b,off,u,rfl,dk,aG⟩:=HA k es aU;have jT:=ae dk;obtain⟨A1,z1,rfl,dP,dY,ja⟩:=aG;have JT:=zh ja;unfold maxLen at dY;have ni:=zh aU;clear aU dk ja
    by_cases h6:es.length<=6
    ·go_wp2;obtain⟨wo,rfl⟩:=J_ (wr:World)
     go_loopw [49] (fun i wq=>∃j:Nat,j<=es.length/\i=.int .i64 j/\((List.range j).all fun i=>kz n.ends k i (es.getD i (0,0)))=true/\ab w0 wq) (fun i _=>es.length-(intOf i).toNat)
     case atStart=>exact⟨0,Zac _,rfl,rfl,r_⟩
     case round=>
      obtain⟨j,hj,rfl,Gl,L7⟩:=hrel;have Gm:=zh Gl;clear Gl r_
      by_cases ij:j<es.length
      ·obtain⟨⟨x1,x2⟩,he⟩:=au es j ij;obtain⟨b1,CH,rfl,qD,jL⟩:=JT j _ he;have q1:=ae qD;have q2:=ae jL;have He:=zh he;clear he qD jL;have tD:w.heap.size<wr.heap.size:=World.block_lt_of_cell? wr _ (p0 wr L7);go_wp2;obtain⟨w1,lD⟩:=K_ (wr.alloc (Obj.cells #[Value.int IntKind.i64 x1,Value.int IntKind.i64 x2] 104))
       rw[lD]
       have dw:ab w0 w1:=by rw[<- lD];exact ad _ L7
       have r0:=al p0 dw
       have r3:∀W,ab w1 W->W.cell? ⟨wr.heap.size,0,none⟩=some (.int .i64 x1):=ae (by rw[<- lD];simp)
       have r4:∀W,ab w1 W->W.cell? ⟨wr.heap.size,1,none⟩=some (.int .i64 x2):=ae (by rw[<- lD];simp)
       obtain⟨di,HP,HQ,Hbq⟩:=C_ dw (And.intro p0 (And.intro p1 p2)) (And.intro jT (And.intro q1 q2)) L7;clear lD dw p0 p1 p2 jT q1 q2 L7
       by_cases yj:jK 0 ((n.ends.length:Int)-1) x1=true
       ·obtain⟨p3,p4⟩:=aB.1 yj;obtain⟨k1,rfl⟩:=Int.eq_ofNat_of_zero_le p3;have lW:k1<n.ends.length:=zO
        obtain⟨L8,Gn⟩:=au n.ends k1 lW;obtain⟨b2,wv,u',wb,pC,Qw⟩:=HA k1 L8 Gn
        injection wb with wb
        injection wb with q3 q4
        subst q3 q4;obtain⟨JU,z1',rfl,VD,Zf,JV⟩:=Qw;unfold maxLen at Zf;have r5:=al (ae pC) di;obtain⟨Nk,adX⟩:=A_ Gn JV;clear Gn pC JV
        by_cases uJ:jK 0 ((L8.length:Int)-1) x2=true
        ·obtain⟨p5,p6⟩:=aB.1 uJ;obtain⟨i1,rfl⟩:=Int.eq_ofNat_of_zero_le p5;have yy:i1<L8.length:=zO
         obtain⟨⟨y1,y2⟩,hy⟩:=au L8 i1 yy;obtain⟨b3,VE,rfl,Zg,XN⟩:=adX i1 _ hy;have r6:=al (ae Zg) di;have r7:=al (ae XN) di;obtain⟨Hy,Hx⟩:=A_ hy (And.intro yj uJ);clear hy Zg XN yj uJ;have m1:IntKind.i64.wrap ((n.ends.length:Int)-1)=n.ends.length-1:=bU _ zO zO;have m2:IntKind.i64.wrap ((L8.length:Int)-1)=L8.length-1:=bU _ zO zO;refine ap 38 (ab w1) zK zK zS (aj (aa _)) ?_;simp only[zT]
         iterate 6 (refine ch rfl ?_;simp only[zA])
         apply dE _ rfl;(intro W hW;unfold a_;go_simp;with_reducible exact zQ (gA _ _ _ W));simp only[zA]
         iterate 2 (refine ch rfl ?_;simp only[zA])
         iterate 10 (refine iT rfl rfl ?_;simp only[zA])
         apply bn rfl rfl;(intro hb;intro W hW;unfold a_;go_simp;with_reducible exact zQ (gA _ _ _ W));simp only[zA]
         refine iT rfl rfl ?_;simp only[zA]
         (first | refine db rfl rfl ?_ | (refine ch rfl ?_));simp only[zA]
         refine ch rfl ?_;simp only[zA]
         iterate 14 (refine iT rfl rfl ?_;simp only[zA])
         (first | refine db rfl rfl ?_ | (refine ch rfl ?_));simp only[zA]
         intro W2 pt;have FP:=zh pt;rw[Hx.out.1,Hx.out.2];cases hq:wg (y1,y2) ((k:Int),(j:Int))
         all_goals
          have Hq:=zh hq;clear hq pt m1 m2;go_wp2
         ·go_ret
          exact⟨aJ (by rw[hr.out];refine b_ aA ?_;rw[ag ni.out];simp only[iy];rw[Zah];exact .inr (b_ ij (by rw[ag He.out];simp[kz,Nk.out,Hy.out,Hq.out]))),ab.after aY (di.after FP)⟩
         ·go_roundw
          exact⟨j+1,zO,zM,by rw[fq,Gm.out,ag He.out];simp[kz,bg,Hx.out.1,Hx.out.2,Nk.out,Hy.out,Hq.out],di.after FP⟩
          simp[intOf];omega
        ·have abz:jK 0 ((L8.length:Int)-1) x2=false:=by simpa using uJ
         have Hx:=zh (And.intro yj abz);clear yj uJ;have m1:IntKind.i64.wrap ((n.ends.length:Int)-1)=n.ends.length-1:=bU _ zO zO;have m2:IntKind.i64.wrap ((L8.length:Int)-1)=L8.length-1:=bU _ zO zO;refine ap 38 (ab w1) zK zK zS (aj (aa _)) ?_;simp only[zT]
         iterate 6 (refine ch rfl ?_;simp only[zA])
         apply dE _ rfl;(intro W hW;unfold a_;go_simp;with_reducible exact zQ (gA _ _ _ W));simp only[zA]
         iterate 2 (refine ch rfl ?_;simp only[zA])
         iterate 10 (refine iT rfl rfl ?_;simp only[zA])
         apply bn rfl rfl;(intro hb;intro W hW;unfold a_;go_simp;with_reducible exact zQ (gA _ _ _ W));simp only[zA]
         refine iT rfl rfl ?_;simp only[zA]
         (first | refine db rfl rfl ?_ | (refine ch rfl ?_));simp only[zA]
         refine ch rfl ?_;simp only[zA]
         iterate 14 (refine mf rfl rfl (by simp[*]) ?_;simp only[zA])
         (first | refine db rfl rfl ?_ | (refine ch rfl ?_));simp only[zA]
         intro W2 pt;have FP:=zh pt;rw[Hx.out.1,Hx.out.2];clear abz pt m1 m2;go_wp2;go_ret
         exact⟨aJ (by rw[hr.out];refine b_ aA ?_;rw[ag ni.out];simp only[iy];rw[Zah];exact .inr (b_ ij (by rw[ag He.out];simp[kz,bg,Nk.out,Hx.out.2]))),ab.after aY (di.after FP)⟩
       ·have abA:jK 0 ((n.ends.length:Int)-1) x1=false:=by simpa using yj
        have Hx:=zh abA;clear yj;have m1:IntKind.i64.wrap ((n.ends.length:Int)-1)=n.ends.length-1:=bU _ zO zO;refine ap 38 (ab w1) zK zK zS (aj (aa _)) ?_;simp only[zT]
        iterate 6 (refine ch rfl ?_;simp only[zA])
        apply dE _ rfl;(intro W hW;unfold a_;go_simp;with_reducible exact zQ (gA _ _ _ W));simp only[zA]
        iterate 2 (refine ch rfl ?_;simp only[zA])
        iterate 12 (refine mf rfl rfl (by simp[*]) ?_;simp only[zA])
        (first | refine db rfl rfl ?_ | (refine ch rfl ?_));simp only[zA]
        refine ch rfl ?_;simp only[zA]
        iterate 14 (refine mf rfl rfl (by simp[*]) ?_;simp only[zA])
        (first | refine db rfl rfl ?_ | (refine ch rfl ?_));simp only[zA]
        intro W2 pt;have FP:=zh pt;rw[Hx.out];clear abA pt m1;go_wp2;go_ret
        exact⟨aJ (by rw[hr.out];refine b_ aA ?_;rw[ag ni.out];simp only[iy];rw[Zah];exact .inr (b_ ij (by rw[ag He.out];simp[kz,bg,Hx.out]))),ab.after aY (di.after FP)⟩
      ·obtain rfl:j=es.length:=zO
       go_wp2;go_roundw
       exact⟨k+1,zO,zM,by rw[fq,gS.out,ag ni.out,Bool.true_and];unfold iy;rw[Gm.out];simp[h6],L7⟩
       simp[intOf];omega
    ·go_wp2;go_ret
     exact⟨aJ (by rw[hr.out];exact b_ aA (by rw[ag ni.out];simp[iy,h6])),ab.after aY r_⟩
   ·obtain rfl:k=n.ends.length:=zO
    go_wp2;go_ret
    exact⟨eT (by rw[hr.out];exact gS),ab.after aY r_⟩
 ·have hr:=zh (show ar n=false by
   simp only[Zbp,Bool.not_eq_true',bne_iff_ne,ne_eq]at hg
   rcases hg with((hg | hg) | hg) | hg <;> simp[ar,hg,<- L_,pB])
  obtain⟨Hg,HW⟩:=A_ hg hW;clear hg;go_wp2;go_ret;exact⟨aJ hr,ab.after aY HW⟩
def iJ (ep:List (List (Int×Int))) (v i:Int):Int×Int:=(ep.getD v.toNat []).getD i.toNat (0,0)
theorem wy {n:ao} (h:ar n=true) {v i:Int} (hp:bg n.ends v i=true):
  bg n.ends (iJ n.ends v i).1 (iJ n.ends v i).2=true/\iJ n.ends (iJ n.ends v i).1 (iJ n.ends v i).2=(v,i):=by
 unfold bg at hp;rw[Zai]at hp;obtain⟨p1,p2⟩:=hp;obtain⟨p3,p4⟩:=aB.1 p1;obtain⟨k,rfl⟩:=Int.eq_ofNat_of_zero_le p3;have hk:k<n.ends.length:=zO
 obtain⟨es,aU⟩:=au n.ends k hk;rw[Zag,ag aU]at p2;obtain⟨p5,p6⟩:=aB.1 p2;obtain⟨j,rfl⟩:=Int.eq_ofNat_of_zero_le p5;have hj:j<es.length:=zO
 obtain⟨⟨y1,y2⟩,hy⟩:=au es j hj;have e:iJ n.ends (k:Int) (j:Int)=(y1,y2):=by simp[iJ,aU,hy]
 rw[e];unfold ar at h;rw[Zai,Zbh]at h
 have:=h.2 k (Zab.2 hk)
 rw[ag aU]at this;unfold iy at this;rw[Zai,Zbh]at this
 have:=this.2 j (Zab.2 hj)
 rw[ag hy]at this;unfold kz at this;rw[Zai]at this;exact⟨this.1,by simpa[wg,iJ]using this.2⟩
theorem bK {n:ao} (h:ar n=true):1<=n.ends.length/\n.ends.length<=40:=by
 unfold ar at h;simp only[Zai]at h
 have:=aB.1 h.1.1.1
 omega
theorem J0 {ep:List (List (Int×Int))} {v i:Int} (hp:bg ep v i=true):0<=v/\v<ep.length:=by
 unfold bg at hp;rw[Zai]at hp
 have:=aB.1 hp.1
 omega
theorem J1 (ve vi vn:Value) (n:ao) (v i:Int) (w:World) (h:aR w ve vi vn n):
  Calls Tryz.prog 69 #[.agg #[ve,vi,vn],.int .i64 v,.int .i64 i] w fun e w'=>e=.returned (.bool (ar n&&bg n.ends v i))/\Below w.heap.size w w':=by
 obtain⟨w0,A,c,A2,c2,A3,c3,rfl,rfl,rfl,fR,hm,gC,jz,HA,H,cD,aY,fp,fE,fM⟩:=zB h;clear h
 cases hv:jK 0 ((n.ends.length:Int)-1) v
 ·have hr:=zh (show(ar n&&bg n.ends v i)=false by simp[bg,hv])
  have m1:IntKind.i64.wrap ((n.ends.length:Int)-1)=n.ends.length-1:=bU _ zO zO
  go_enter Tryz.func69,Tryz.ntmps69
  go_upto_region 1 with(fail);rw[<- cD.out];refine aM 22 (ab w0) (aa _) ?_;simp only[zT]
  refine ch rfl ?_;simp only[zA]
  apply dE _ rfl;(intro W hW;unfold a_;go_simp;with_reducible exact zQ (pE _ _ _ n W (H.out.agU hW.below)));simp only[zA]
  refine ch rfl ?_;simp only[zA]
  iterate 5 (refine iT rfl rfl ?_;simp only[zA])
  apply bn rfl rfl;(intro hb;intro W hW;unfold a_;go_simp;with_reducible exact zQ (gA _ _ _ W));simp only[zA]
  (first | refine dy rfl rfl ?_ | (refine ch rfl ?_));simp only[zA]
  refine ch rfl ?_;simp only[zA]
  iterate 9 (refine mf rfl rfl (by simp[*]) ?_;simp only[zA])
  (first | refine dy rfl rfl ?_ | (refine ch rfl ?_));simp only[zA]
  refine ch rfl ?_;simp only[zA]
  intro W hW;have HW:=zh hW;clear hW m1;go_wp2;go_ret;exact⟨bG (by rw[hr.out]),ab.after aY HW⟩
 ·obtain⟨p3,p4⟩:=aB.1 hv;obtain⟨k,rfl⟩:=Int.eq_ofNat_of_zero_le p3;have hk:k<n.ends.length:=zO
  obtain⟨es,aU⟩:=au n.ends k hk;obtain⟨b,off,u,rfl,pC,aG⟩:=HA k es aU;obtain⟨A1,z1,rfl,dP,dY,_⟩:=aG;unfold maxLen at dY;have r5:=ae pC;have hr:=zh (show(ar n&&bg n.ends k i)=(ar n&&jK 0 ((n.ends.length:Int)-1) k&&jK 0 ((es.length:Int)-1) i)by simp[bg,aU,Bool.and_assoc])
  have m1:IntKind.i64.wrap ((n.ends.length:Int)-1)=n.ends.length-1:=bU _ zO zO;have m2:IntKind.i64.wrap ((es.length:Int)-1)=es.length-1:=bU _ zO zO;have Hv:=zh hv;clear aU pC hv
  go_enter Tryz.func69,Tryz.ntmps69
  go_upto_region 1 with(fail);rw[<- cD.out];refine aM 22 (ab w0) (aa _) ?_;simp only[zT]
  refine ch rfl ?_;simp only[zA]
  apply dE _ rfl;(intro W hW;unfold a_;go_simp;with_reducible exact zQ (pE _ _ _ n W (H.out.agU hW.below)));simp only[zA]
  refine ch rfl ?_;simp only[zA]
  iterate 5 (refine iT rfl rfl ?_;simp only[zA])
  apply bn rfl rfl;(intro hb;intro W hW;unfold a_;go_simp;with_reducible exact zQ (gA _ _ _ W));simp only[zA]
  (first | refine dy rfl rfl ?_ | (refine ch rfl ?_));simp only[zA]
  refine ch rfl ?_;simp only[zA]
  iterate 8 (refine iT rfl rfl ?_;simp only[zA])
  apply bn rfl rfl;(intro hb;intro W hW;unfold a_;go_simp;with_reducible exact zQ (gA _ _ _ W));simp only[zA]
  (first | refine dy rfl rfl ?_ | (refine ch rfl ?_));simp only[zA]
  refine ch rfl ?_;simp only[zA]
  intro W hW;have HW:=zh hW;clear hW m1 m2;go_wp2;go_ret;exact⟨bG (by rw[hr.out]),ab.after aY HW⟩
theorem Own.since {w w':World} {base:Nat} {v:Value} {xs:List Int} (h:Own w base v xs) (hs:ab w w'):Own w' base v xs:=h.agU hs
theorem oP {w w0:World} {ops:Array Oper} {rest:List Oper} {o:Oper} {a:Act} {Q:Exit->Act->World->Prop} (gT:o.guard=none) (s x:Operand)
  (ho:o.op=.call { callee:=.builtin .append,args:=#[s,x],argTypes:=#[28,28] }) {v:Value} {xs:List Int} (hs:a.eval s=v) (h:Own w w0.heap.size v xs) (b:Nat) (y:Int)
  (hx:a.eval x=.slice (some ⟨b,0,none⟩) 1 1) (hc:w.cell? ⟨b,0,none⟩=some (.int .i64 y)) (hl:xs.length+1<=17592186044416) (kj:ab w0 w)
  (k:∀g cap w',Own w' w0.heap.size (.slice (some ⟨g,0,none⟩) (xs.length+1) cap) (xs++[y])->ab w0 w'->wpList Tryz.prog ops Q rest (a.put o.dst (.slice (some ⟨g,0,none⟩) (xs.length+1) cap)) w'):wpList Tryz.prog ops Q (o::rest) a w:=by
 refine sa gT s x ho hs h b y hx hc hl kj.size ?_;intro g cap w' h1 h2 h3 h4;exact k g cap w' h1 (Below.grown kj h2 kj.size (fun j hj=>(Zad h j hj).1))
theorem iK {w:World} {v:Value} {ep:List (List (Int×Int))} {k:Nat} {es:List (Int×Int)} (h:oD w v ep) (aU:ep[k]?=some es):
  ∃(b off c:Nat) (u:Value),v=.slice (some ⟨b,off,none⟩) ep.length c/\k<ep.length/\w.cell? ⟨b,off+k,none⟩=some u/\CF w u es:=by
 obtain⟨A,c,rfl,fR,hm,hA⟩:=h;obtain⟨b,off,u,rfl,hc,aG⟩:=hA k es aU;exact⟨b,off,c,u,rfl,ah aU,hc,aG⟩
theorem zz (ve vi vn:Value) (n:ao) (k:Nat) (es:List (Int×Int)) (w:World) (h:aR w ve vi vn n) (aU:n.ends[k]?=some es) (EB:es.length<=1000000):
  Calls Tryz.prog 168 #[.agg #[ve,vi,vn],.int .i64 k] w fun e w'=>∃u,e=.returned u/\Own w' w.heap.size u (es.map (·.1))/\Below w.heap.size w w':=by
 obtain⟨w0,A,c,A2,c2,A3,c3,rfl,rfl,rfl,fR,hm,gC,jz,HA,H,cD,aY,fp,fE,fM⟩:=zB h;clear h
 obtain⟨b,off,c',u,hA,hk,dk,aG⟩:=iK H.es aU;cases hA;obtain⟨A1,z1,rfl,dP,dY,ja⟩:=aG;unfold maxLen at dY;have r1:=ae dk;have JT:=zh ja;clear dk ja aU
 go_enter Tryz.func168,Tryz.ntmps168
 go_upto_region 1 with(fail);rw[<- cD.out];have aK:ab w0 w0:=aa _;go_wp2
 go_loopw [5,14] (fun u i wr=>∃j:Nat,j<=es.length/\i=.int .i64 j/\Own wr w0.heap.size u ((es.take j).map (·.1))/\ab w0 wr) (fun _ i _=>es.length-(intOf i).toNat)
 case atStart=>exact⟨0,Zac _,rfl,by simpa using fA w0 w0.heap.size,aK⟩
 case round=>
  obtain⟨j,hj,rfl,ho,hs⟩:=hrel;have Ho:=zh ho;clear aK ho
  by_cases aA:j<es.length
  ·obtain⟨⟨x1,x2⟩,hx⟩:=au es j aA;obtain⟨b1,CH,rfl,qD,jL⟩:=JT j _ hx;have t1:=ae qD;have t2:=ae jL;have Hx:=zh hx;clear hx qD jL
   have ii:((es.take j).map (·.1)).length+1<=17592186044416:=by simp;omega
   have jb:=zh ii;clear ii
   go_wp2_with (at_builtin;refine oP rfl _ _ rfl rfl (Ho.since (ad _ (ad _ (aa _)))) (wr.heap.size+1) x1 rfl (by simp[go_sem]) jb (ad _ (ad _ hs)) ?_;intro g cc w2 dD fH)
   have E2:Hid (((es.take j).map (·.1)).length=j):=by show _=_;simp;omega
   have e1:(es.take j).map (·.1)++[x1]=(es.take (j+1)).map (·.1):=by rw[bJ Hx.out];simp
   rw[e1]at dD;obtain⟨mg,eU⟩:=A_ dD fH;clear dD fH hs e1;go_wp2;go_roundw
   exact⟨j+1,zO,zM,by first | exact mg.out | (have:=mg.out;rw[E2.out]at this;exact this),eU⟩
   simp[intOf];omega
  ·obtain rfl:j=es.length:=zO
   go_wp2;go_ret
   exact⟨_,rfl,by have:=Ho.out;rw[Zbq]at this;exact this.mono aY.size,ab.after aY hs⟩
theorem fO {n:ao} (h:ar n=true) {k:Nat} {es:List (Int×Int)} (aU:n.ends[k]?=some es):es.length<=6/\∀e∈es,0<=e.1/\e.1<n.ends.length:=by
 have hk:=ah aU;have h':=h;unfold ar at h;rw[Zai,Zbh]at h
 have:=h.2 k (Zab.2 hk)
 rw[ag aU]at this;unfold iy at this;rw[Zai,Zbh]at this;refine⟨by simpa using this.1,fun e he=>?_⟩
 obtain⟨j,hj⟩:=List.getElem?_of_mem he
 have:=this.2 j (Zab.2 (ah hj))
 rw[ag hj]at this;unfold kz at this;rw[Zai]at this;exact J0 this.1
theorem Own.grown {w w':World} {base:Nat} {v:Value} {xs:List Int} {row:Option Nat} (h:Own w base v xs) (hg:w.grownBy w' row) (hd:∀q,v.ownBlock=some q->row≠some q):Own w' base v xs:=
 aD h fun q hq=>hg.block q (Zad h q (by simpa using hq)).2 (fun e=>hd q (by simpa using hq) e.symm)
theorem Gw {w:World} {ops:Array Oper} {rest:List Oper} {o:Oper} {a:Act} {Q:Exit->Act->World->Prop} (gT:o.guard=none) (s x:Operand)
  (ho:o.op=.call { callee:=.builtin .append,args:=#[s,x],argTypes:=#[28,28] }) {base:Nat} {v:Value} {xs:List Int} (hs:a.eval s=v) (h:Own w base v xs) (b off c:Nat) (ys:List Int)
  (hx:a.eval x=.slice (some ⟨b,off,none⟩) ys.length c) (hc:∀j y,ys[j]?=some y->w.cell? ⟨b,off+j,none⟩=some (.int .i64 y)) (hy:0<ys.length) (hl:xs.length+ys.length<=17592186044416) (mz:base<=w.heap.size)
  (k:∀g cap w',Own w' base (.slice (some ⟨g,0,none⟩) (xs.length+ys.length) cap) (xs++ys)->w.grownBy w' v.ownBlock->(v.ownBlock=some g\/g=w.heap.size)->g<w'.heap.size->wpList Tryz.prog ops Q rest (a.put o.dst (.slice (some ⟨g,0,none⟩) (xs.length+ys.length) cap)) w'):wpList Tryz.prog ops Q (o::rest) a w:=by
 obtain⟨i0,hi,e_,dP,dY⟩:=info_parts mp
 refine wpList_append_lies w gT s x 28 ho base 3 i0 (.int .i64 0) 1 8 Tryz.underlying28 hi e_ dP dY rfl (by decide) v xs.length (xs.map (Value.int .i64)) hs h ⟨b,off,none⟩ ys.length c (ys.map (Value.int .i64)) hx zS
  (by
   intro j u hj;rw[Zbr]at hj
   cases J2:ys[j]? with
   | none=>rw[J2]at hj;simp at hj
   | some y=>
    rw[J2]at hj;simp at hj
    subst hj;rw[Go.Addr.add_lit]
    exact hc j y J2) (by simp[Value.oneCell']) hy (by unfold maxLen;omega) zO mz w.heap.size rfl ?_
 intro g cap w' h1 h2 h3 h4;refine k g cap w' ?_ h2 h3 h4;unfold Own;simpa using h1
theorem Nn (v:Value) (xs:List Int) (w:World) (h:bs w v xs) (h0':0<xs.length) (hl:xs.length<=17592186044416):
  Calls Tryz.prog 101 #[v] w fun e w'=>∃u,e=.returned u/\Own w' w.heap.size u xs/\Below w.heap.size w w':=by
 obtain⟨A,c,rfl,fR,hm,hA⟩:=h;unfold maxLen at hm;have ho:=dS w [] (by simp[maxLen]);simp only[List.map_nil,List.length_nil]at ho;obtain⟨y0,PQ⟩:=au xs 0 zO;obtain⟨b,off,rfl,_⟩:=hA 0 y0 PQ
 have HA:Hid (∀j y,xs[j]?=some y->w.cell? ⟨b,off+j,none⟩=some (.int .i64 y)):=fun j y hj=>by
  obtain⟨b',nf,e,hc⟩:=hA j y hj;cases e;exact hc
 have Ho:=zh ho;clear hA PQ ho
 go_enter Tryz.func101,Tryz.ntmps101
 go_wp2_with (at_builtin;refine Gw rfl _ _ rfl rfl Ho b off c xs rfl (fun j y hj=>bc (am _ _) (HA j y hj)) h0' (by simpa using hl) zS ?_;intro g cc w2 dD ut _ _)
 simp only[List.length_nil,Zba,List.nil_append]at dD ⊢
 have mg:=zh dD;have oN:Hid (Below w.heap.size w w2):=(am w _).grown ut zS (fun j hj=>(Zad Ho j hj).1)
 clear dD ut;go_wp2;go_ret;exact⟨_,rfl,mg,oN⟩
theorem sd {n:ao} (h:qm n<=1048576):n.ids.length<=17592186044416:=by unfold qm at h;omega
def lX (ls:List Int) (lo hi:Int):Bool:=ls.all (jK lo hi)
theorem yA (v:Value) (xs:List Int) (lo hi:Int) (w:World) (h:bs w v xs):
  Calls Tryz.prog 87 #[v,.int .i64 lo,.int .i64 hi] w fun e w'=>e=.returned (.bool (lX xs lo hi))/\w=w':=Dq v xs lo hi w h
theorem jN (v:Value) (xs:List Int) (lo hi:Int) (w:World) (h:bs w v xs):
  Calls Tryz.prog 83 #[v,.int .i64 lo,.int .i64 hi] w fun e w'=>e=.returned (.bool (lX xs lo hi))/\Below w.heap.size w w':=tf v xs lo hi w h
structure aq where
 labels:Int
 degree:Int
 nodes:List (List Int)
 agW:List (List Int)
def dz (xs:List Int):List Int:=xs.mergeSort fun x y=>decide (x<=y)
def eu:List Int->List Int->Int
 | [],[]=>0
 | [],_::_ => -1
 | _::_,[]=>1
 | a::x,b::y=>if a<b then -1 else if b<a then 1 else eu x y
theorem sf (x:List Int):eu x x=0:=by
 induction x with
 | nil=>rfl
 | cons a x ih=>simp[eu,ih]
theorem VG {x y:List Int} (h:eu x y=0):x=y:=by
 induction x generalizing y with
 | nil=>cases y with
  | nil=>rfl
  | cons b y=>simp[eu]at h
 | cons a x ih=>cases y with
  | nil=>simp[eu]at h
  | cons b y=>
   simp only[eu]at h
   split at h
   ·omega
   ·split at h
    ·omega
    ·rw[ih h,show a=b by omega]
theorem nT {x y z:List Int} (h:eu x y<0) (k:eu y z<0):eu x z<0:=by
 induction x generalizing y z with
 | nil=>cases z with
  | nil=>cases y with
   | nil=>simp[eu]at k
   | cons=>simp[eu]at k
  | cons=>simp[eu]
 | cons a x ih=>
  cases y with
  | nil=>simp[eu]at h
  | cons b y=>
   cases z with
   | nil=>simp[eu]at k
   | cons c z=>
    simp only[eu]at h k ⊢
    split at h
    ·split at k
     ·rw[if_pos zO];omega
     ·split at k
      ·omega
      ·rw[if_pos zO];omega
    ·split at h
     ·omega
     ·split at k
      ·rw[if_pos zO];omega
      ·split at k
       ·omega
       ·rw[if_neg zO,if_neg zO];exact ih h k
theorem oQ {x y:List Int} (k:Nat) (h:x.take k=y.take k) (hx:k<=x.length) (hy:k<=y.length):eu x y=eu (x.drop k) (y.drop k):=by
 induction k generalizing x y with
 | zero=>simp
 | succ k ih=>
  cases x with
  | nil=>simp at hx
  | cons a x=>cases y with
   | nil=>simp at hy
   | cons b y=>
    simp only[List.take_succ_cons,List.cons.injEq]at h;simp only[eu,List.drop_succ_cons];rw[if_neg zO,if_neg zO];exact ih h.2 (by simpa using hx) (by simpa using hy)
theorem Dw {x y:List Int} (k:Nat) {a b:Int} (h:x.take k=y.take k) (hx:x[k]?=some a) (hy:y[k]?=some b) (oe:a≠b):eu x y=if a<b then -1 else 1:=by
 have h1:=(Zbs.1 hx);have h2:=(Zbs.1 hy);obtain⟨l1,e1⟩:=h1;obtain⟨l2,e2⟩:=h2;rw[oQ k h zO zO,Zbt l1,Zbt l2,e1,e2];simp only[eu]
 split
 ·rfl
 ·rw[if_pos zO]
def eR (l:List (List Int)):Prop:=∀(i j:Nat) (x y:List Int),i<j->l[i]?=some x->l[j]?=some y->eu x y<0
theorem CJ {l:List (List Int)} (h:∀(i:Nat) (x y:List Int),l[i]?=some x->l[i+1]?=some y->eu x y<0):eR l:=by
 intro i j x y PP hx hy
 induction j generalizing y with
 | zero=>omega
 | succ j ih=>
  rcases Zbi i j with h1 | h1
  ·obtain⟨z,hz⟩:∃z,l[j]?=some z:=by
    have:=(Zbs.1 hy).1
    exact⟨l[j]' zO,Zbu zO⟩
   exact nT (ih z h1 hz) (h j z y hz hy)
  ·obtain rfl:i=j:=zO
   exact h i x y hx hy
theorem QG {l:List (List Int)} {t:List Int} {i:Nat} (hs:eR l) (h1:∀k x,k<i->l[k]?=some x->eu x t<0) (h2:∀k x,i<=k->l[k]?=some x->¬eu x t<0):
  (match l[i]? with | some x=>eu x t==0 | none=>false)=l.contains t:=by
 have lw:l.contains t=true↔∃k:Nat,l[k]?=some t:=by
  rw[Zbv,List.mem_iff_getElem?]
 cases hx:l[i]? with
 | none=>
  symm
  rw[Bool.eq_false_iff];intro hc;obtain⟨k,hk⟩:=lw.1 hc;have e1:l.length<=i:=List.getElem?_eq_none_iff.1 hx;have e2:=(Zbs.1 hk).1
  have:=h1 k t zO hk
  rw[sf]at this;omega
 | some x=>
  by_cases h0:eu x t=0
  ·have:=VG h0
   subst this;simp only[h0,beq_self_eq_true];exact(lw.2 ⟨i,hx⟩).symm
  ·have hf:(eu x t==0)=false:=by simpa using h0
   simp only[hf]
   symm
   rw[Bool.eq_false_iff];intro hc;obtain⟨k,hk⟩:=lw.1 hc;rcases Nat.lt_trichotomy k i with h | h | h
   ·have:=h1 k t h hk
    rw[sf]at this;omega
   ·subst h;rw[hx]at hk;cases hk;exact h0 (sf _)
   ·have:=hs i k x t h hx hk
    exact h2 i x (Zaj _) hx this
def lY (c:List Int):Bool:=(List.range (c.length-1)).all fun i=>decide (c.getD i 0<=c.getD (i+1) 0)
def Gx (size labels:Int) (c:List Int):Bool:=((c.length:Int)==size)&&(lY c&&lX c 0 (labels-1))
def jY (l:List (List Int)) (size labels:Int) (i:Nat):Bool:=Gx size labels (l.getD i [])&&(i==0||decide (eu (l.getD (i-1) []) (l.getD i [])<0))
def zC (l:List (List Int)) (size labels:Int):Bool:=(List.range l.length).all (jY l size labels)
theorem zF {l:List (List Int)} {size labels:Int}:zC l size labels=true↔∀i,i<l.length->jY l size labels i=true:=by simp[zC,Zbh]
theorem nB {l:List (List Int)} {size labels:Int} {i:Nat} (hi:i<l.length) (h:jY l size labels i=false):zC l size labels=false:=by
 rw[Bool.eq_false_iff];intro hc;rw[zF.1 hc i hi]at h;cases h
theorem jO {l:List (List Int)} {size labels:Int} (h:zC l size labels=true):eR l:=by
 apply CJ
 intro i x y hx hy;have h1:=(Zbs.1 hy).1;have h2:=zF.1 h (i+1) h1;unfold jY at h2;simp only[Zai,Zbp,Nat.add_sub_cancel,zDd,hx,hy,Option.getD_some,decide_eq_true_eq]at h2;rcases h2.2 with h3 | h3
 ·simp at h3
 ·exact h3
theorem QH {l:List (List Int)} {size labels:Int} (h:zC l size labels=true) {i:Nat} {c:List Int} (hc:l[i]?=some c):Gx size labels c=true:=by
 have h1:=(Zbs.1 hc).1;have h2:=zF.1 h i h1;unfold jY at h2;simp only[Zai,zDd,hc,Option.getD_some]at h2;exact h2.1
def bV (p:aq):Bool:=jK 1 8 p.labels&&(jK 1 4 p.degree&&(zC p.nodes p.degree p.labels&&zC p.agW 2 p.labels))
def gQ (c:List Int):List Int->Bool
 | []=>true
 | a::l=>match c.dropWhile (fun x=>decide (x<a)) with
  | []=>false
  | x::r=>(x==a)&&gQ r l
theorem No {c l:List Int} {k:Nat} {x a:Int} (hx:c[k]?=some x) (h:x<a):gQ (c.drop k) (a::l)=gQ (c.drop (k+1)) (a::l):=by
 obtain⟨h1,h2⟩:=Zbs.1 hx;rw[Zbt h1,h2];simp[gQ,h]
theorem QJ {c l:List Int} {k:Nat} {a:Int} (hx:c[k]?=some a):gQ (c.drop k) (a::l)=gQ (c.drop (k+1)) l:=by
 obtain⟨h1,h2⟩:=Zbs.1 hx;rw[Zbt h1,h2];simp[gQ]
theorem QK {c l:List Int} {k:Nat} {a:Int} (h:c.length<=k):gQ (c.drop k) (a::l)=false:=by
 rw[List.drop_eq_nil_iff.2 h];simp[gQ]
theorem Np {c l:List Int} {k:Nat} {x a:Int} (hx:c[k]?=some x) (h:¬x<a) (hn:x≠a):gQ (c.drop k) (a::l)=false:=by
 obtain⟨h1,h2⟩:=Zbs.1 hx;rw[Zbt h1,h2];simp[gQ,h,hn]
def il (row:List Int):List Int:=row.filter fun a=>decide (0<=a)
def fJ (p:aq) (row:List Int):Bool:=!((row.length:Int)==p.degree)||p.nodes.any fun c=>gQ c (dz (il row))
def edgeB (p:aq) (a b:Int):Bool:=p.agW.contains [min a b,max a b]
theorem Nq {xs:List Int} {a:Int}:a∈dz xs↔a∈xs:=by unfold dz;exact List.mem_mergeSort
theorem fa (xs:List Int):(dz xs).Pairwise (· <= ·):=by
 have:=List.pairwise_mergeSort (le:=fun x y:Int=>decide (x<=y)) (by intro _ _ _;simp;omega) (by intro _ _;simp;omega) xs
 exact this.imp zS
theorem ft (xs:List Int):(dz xs).Perm xs:=List.mergeSort_perm _ _
theorem xB {xs ys:List Int} (h:xs.Perm ys) (h1:xs.Pairwise (· <= ·)) (h2:ys.Pairwise (· <= ·)):xs=ys:=
 List.Perm.eq_of_pairwise (fun _ _ _ _ h1 h2=>Int.le_antisymm h1 h2) h1 h2 h
theorem Nr (a b:Int):dz [a,b]=[min a b,max a b]:=by
 apply xB
 ·refine(ft _).trans ?_;rcases Int.le_total a b with h | h
  ·rw[Int.min_eq_left h,Int.max_eq_right h]
  ·rw[Int.min_eq_right h,Int.max_eq_left h];exact List.Perm.swap _ _ _
 ·exact fa _
 ·simp;omega
def dt (l:List (List Int)) (e:Int×Int):Int:=(l.getD e.1.toNat []).getD e.2.toNat 0
def ji (p:aq) (ends:List (List (Int×Int))) (l:List (List Int)) (e:Int×Int):Bool:=
 let f:=(ends.getD e.1.toNat []).getD e.2.toNat (0,0)
 decide (dt l e<0)||(decide (dt l f<0)||edgeB p (dt l e) (dt l f))
def oR (p:aq) (ends:List (List (Int×Int))) (l:List (List Int)) (v:Nat):Bool:=
 fJ p (l.getD v [])&&(List.range (l.getD v []).length).all fun i=>ji p ends l ((v:Int),(i:Int))
def f7 (p:aq) (ends:List (List (Int×Int))) (l:List (List Int)):Bool:=(List.range l.length).all (oR p ends l)
def zH (v:Nat) (row:List Int):List (Int×Int):=((List.range row.length).filter fun i=>decide (row.getD i 0<0)).map fun i=>((v:Int),((i:Nat):Int))
def kX (l:List (List Int)) (k:Nat):List (Int×Int):=(List.range k).flatMap fun v=>zH v (l.getD v [])
def gb (l:List (List Int)):List (Int×Int):=kX l l.length
def lE (v:Nat) (row:List Int) (k:Nat):List (Int×Int):=((List.range k).filter fun i=>decide (row.getD i 0<0)).map fun i=>((v:Int),((i:Nat):Int))
theorem zI (l:List (List Int)) (k:Nat):kX l (k+1)=kX l k++zH k (l.getD k []):=by simp[kX,Zaa]
theorem Gy (v:Nat) (row:List Int) (k:Nat):lE v row (k+1)=lE v row k++(if row.getD k 0<0 then [((v:Int),(k:Int))] else []):=by
 unfold lE;rw[Zaa,List.filter_append,List.map_append];congr 1
 by_cases h:row.getD k 0<0
 ·rw[if_pos h,List.filter_cons_of_pos (by simpa using h)];rfl
 ·rw[if_neg h,List.filter_cons_of_neg (by simpa using h)];rfl
def dX (l:List (List Int)) (e:Int×Int) (x:Int):List (List Int):=l.set e.1.toNat ((l.getD e.1.toNat []).set e.2.toNat x)
abbrev SoR:=Int×List (List Int)×Int×Int
def lZ (p:aq) (ends:List (List (Int×Int))) (av:List (Int×Int)) (most:Int):Nat->List (List Int)->Int->Int->SoR
 | 0,l,pos,st=>(0,l,pos,st)
 | f+1,l,pos,st=>
  if pos<0 then (2,l,pos,st)
  else if pos=av.length then (1,l,pos,st)
  else
   let e:=av.getD pos.toNat (0,0)
   if dt l e=p.labels-1 then lZ p ends av most f (dX l e (-1)) (pos-1) st
   else if st=most then (3,l,pos,st)
   else
    let l':=dX l e (dt l e+1)
    if fJ p (l'.getD e.1.toNat [])&&ji p ends l' e then lZ p ends av most f l' (pos+1) (st+1)
    else lZ p ends av most f l' pos (st+1)
def fU {σ:Type} (nx:σ->List (List Int)->Bool×σ) (p:aq) (ends:List (List (Int×Int))) (av:List (Int×Int)) (most:Int):Nat->σ->List (List Int)->Int->Int->σ×SoR
 | 0,s,l,pos,st=>(s,0,l,pos,st)
 | f+1,s,l,pos,st=>
  if pos<0 then (s,2,l,pos,st)
  else if pos=av.length then
   if (nx s l).1 then fU nx p ends av most f (nx s l).2 l (pos-1) st else ((nx s l).2,1,l,pos,st)
  else
   let e:=av.getD pos.toNat (0,0)
   if dt l e=p.labels-1 then fU nx p ends av most f s (dX l e (-1)) (pos-1) st
   else if st=most then (s,3,l,pos,st)
   else
    let l':=dX l e (dt l e+1)
    if fJ p (l'.getD e.1.toNat [])&&ji p ends l' e then fU nx p ends av most f s l' (pos+1) (st+1)
    else fU nx p ends av most f s l' pos (st+1)
def bR (most pos st:Int):Nat:=(2*(most-st)+pos+2).toNat
theorem zJ {σ:Type} (nx:σ->List (List Int)->Bool×σ) (p:aq) (ends:List (List (Int×Int))) (av:List (Int×Int)) (most:Int) (f g:Nat) (s:σ) (l:List (List Int)) (pos st:Int) (hst:st<=most) (hp : -1<=pos) (hf:bR most pos st<=f) (hg:bR most pos st<=g):fU nx p ends av most f s l pos st=fU nx p ends av most g s l pos st:=by
 unfold bR at hf hg
 induction f generalizing g s l pos st with
 | zero=>omega
 | succ f ih=>
  cases g with
  | zero=>omega
  | succ g=>
   simp only[fU]
   by_cases h1:pos<0
   ·rw[if_pos h1,if_pos h1]
   ·rw[if_neg h1,if_neg h1]
    by_cases h2:pos=av.length
    ·rw[if_pos h2,if_pos h2,ih g _ _ (pos-1) st hst zO zO zO]
    ·rw[if_neg h2,if_neg h2]
     by_cases h3:dt l (av.getD pos.toNat (0,0))=p.labels-1
     ·rw[if_pos h3,if_pos h3];exact ih g _ _ _ _ hst zO zO zO
     ·rw[if_neg h3,if_neg h3]
      by_cases h4:st=most
      ·rw[if_pos h4,if_pos h4]
      ·rw[if_neg h4,if_neg h4,ih g _ _ (pos+1) (st+1) zO zO zO zO,ih g _ _ pos (st+1) zO zO zO zO]
theorem pF {σ:Type} (nx:σ->List (List Int)->Bool×σ) (p:aq) (ends:List (List (Int×Int))) (av:List (Int×Int)) (most:Int) (f:Nat) (s:σ) (l:List (List Int)) (pos st:Int) (hst:st<=most) (hp : -1<=pos) (hf:bR most pos st<=f):
  fU nx p ends av most f s l pos st=(if pos<0 then (s,2,l,pos,st)
  else if pos=av.length then
   if (nx s l).1 then fU nx p ends av most f (nx s l).2 l (pos-1) st else ((nx s l).2,1,l,pos,st)
  else
   let e:=av.getD pos.toNat (0,0)
   if dt l e=p.labels-1 then fU nx p ends av most f s (dX l e (-1)) (pos-1) st
   else if st=most then (s,3,l,pos,st)
   else
    let l':=dX l e (dt l e+1)
    if fJ p (l'.getD e.1.toNat [])&&ji p ends l' e then fU nx p ends av most f s l' (pos+1) (st+1)
    else fU nx p ends av most f s l' pos (st+1)):=by
 rw[zJ nx p ends av most f (f+1) s l pos st hst hp hf zO];simp only[fU]
theorem QL (p:aq) (ends:List (List (Int×Int))) (av:List (Int×Int)) (most:Int) (f:Nat) (l:List (List Int)) (pos st:Int) (hst:st<=most) (hp : -1<=pos) (vP:pos<=av.length) (hf:bR most pos st<=f):
  let r:=lZ p ends av most f l pos st
  r.2.2.2<=most /\ -1<=r.2.2.1/\r.2.2.1<=av.length/\st<=r.2.2.2/\bR most r.2.2.1 r.2.2.2<=bR most pos st/\(r.1=1->r.2.2.1=av.length)/\(r.1=1\/r.1=2\/r.1=3):=by
 unfold bR at hf ⊢
 induction f generalizing l pos st with
 | zero=>omega
 | succ f ih=>
  simp only[lZ]
  by_cases h1:pos<0
  ·rw[if_pos h1];simp;omega
  ·rw[if_neg h1]
   by_cases h2:pos=av.length
   ·rw[if_pos h2];simp;omega
   ·rw[if_neg h2]
    by_cases h3:dt l (av.getD pos.toNat (0,0))=p.labels-1
    ·rw[if_pos h3];obtain⟨a1,a2,a3,a4,a5,a6,a7⟩:=ih (dX l (av.getD pos.toNat (0,0)) (-1)) (pos-1) st hst zO zO zO;exact⟨a1,a2,a3,a4,zO,a6,a7⟩
    ·rw[if_neg h3]
     by_cases h4:st=most
     ·rw[if_pos h4];simp;omega
     ·rw[if_neg h4]
      by_cases h5:(fJ p ((dX l (av.getD pos.toNat (0,0)) (dt l (av.getD pos.toNat (0,0))+1)).getD (av.getD pos.toNat (0,0)).1.toNat [])&&ji p ends (dX l (av.getD pos.toNat (0,0)) (dt l (av.getD pos.toNat (0,0))+1)) (av.getD pos.toNat (0,0)))=true
      ·rw[if_pos h5];obtain⟨a1,a2,a3,a4,a5,a6,a7⟩:=ih (dX l (av.getD pos.toNat (0,0)) (dt l (av.getD pos.toNat (0,0))+1)) (pos+1) (st+1) zO zO zO zO;exact⟨a1,a2,a3,zO,zO,a6,a7⟩
      ·rw[if_neg h5];obtain⟨a1,a2,a3,a4,a5,a6,a7⟩:=ih (dX l (av.getD pos.toNat (0,0)) (dt l (av.getD pos.toNat (0,0))+1)) pos (st+1) zO zO zO zO;exact⟨a1,a2,a3,zO,zO,a6,a7⟩
theorem zL {σ:Type} (nx:σ->List (List Int)->Bool×σ) (p:aq) (ends:List (List (Int×Int))) (av:List (Int×Int)) (most:Int) (f g:Nat) (s:σ) (l:List (List Int)) (pos st:Int)
  (hst:st<=most) (hp : -1<=pos) (vP:pos<=av.length) (hf:bR most pos st<=f) (hg:bR most pos st<=g):
  fU nx p ends av most f s l pos st=(let r:=lZ p ends av most f l pos st
   if r.1=1 then (if (nx s r.2.1).1 then fU nx p ends av most g (nx s r.2.1).2 r.2.1 (r.2.2.1-1) r.2.2.2 else ((nx s r.2.1).2,r)) else (s,r)):=by
 unfold bR at hf hg
 induction f generalizing l pos st with
 | zero=>omega
 | succ f ih=>
  simp only[lZ,fU]
  by_cases h1:pos<0
  ·simp[h1]
  ·rw[if_neg h1,if_neg h1]
   by_cases h2:pos=av.length
   ·rw[if_pos h2,if_pos h2];simp only[if_true];rw[zJ nx p ends av most f g _ l (pos-1) st hst zO (by unfold bR;omega) (by unfold bR;omega)]
   ·rw[if_neg h2,if_neg h2]
    by_cases h3:dt l (av.getD pos.toNat (0,0))=p.labels-1
    ·rw[if_pos h3,if_pos h3];exact ih _ _ _ hst zO zO zO zO
    ·rw[if_neg h3,if_neg h3]
     by_cases h4:st=most
     ·rw[if_pos h4,if_pos h4];simp
     ·rw[if_neg h4,if_neg h4]
      by_cases h5:(fJ p ((dX l (av.getD pos.toNat (0,0)) (dt l (av.getD pos.toNat (0,0))+1)).getD (av.getD pos.toNat (0,0)).1.toNat [])&&ji p ends (dX l (av.getD pos.toNat (0,0)) (dt l (av.getD pos.toNat (0,0))+1)) (av.getD pos.toNat (0,0)))=true
      ·rw[if_pos h5,if_pos h5];exact ih _ (pos+1) (st+1) zO zO zO zO zO
      ·rw[if_neg h5,if_neg h5];exact ih _ pos (st+1) zO zO zO zO zO
theorem sg (x:Int) (w:World):Calls Tryz.prog 195 #[.int .i64 x] w fun e w'=>e=.returned (.bool false)/\w=w':=by
 go_enter Tryz.func195,Tryz.ntmps195
 go_wp2;go_ret;exact⟨rfl,rfl⟩
theorem Gz (x y:Int) (w:World):Calls Tryz.prog 175 #[.int .i64 x,.int .i64 y] w fun e w'=>e=.returned (.bool (decide (x<y)))/\w=w':=by
 go_enter Tryz.func175,Tryz.ntmps175
 go_wp2_with (go_at_call 195;refine(sg _ _).mono ?_;rintro e w' ⟨rfl,rfl⟩)
 go_ret;exact⟨rfl,rfl⟩
theorem Ns (x y:Int) (w:World):Calls Tryz.prog 175 #[.int .i64 x,.int .i64 y] w fun e w'=>e=.returned (.bool (decide (x<y)))/\Below w.heap.size w w':=(Gz x y w).mono fun _ _ ⟨h1,h2⟩=>⟨h1,h2 ▸ Zaf _ _⟩
def GA (x y:Int):Int:=if x<y then -1 else if y<x then 1 else 0
theorem zP (x y:Int) (w:World):Calls Tryz.prog 176 #[.int .i64 x,.int .i64 y] w fun e w'=>e=.returned (.int .i64 (GA x y))/\w=w':=by
 have hc:GA x y=if x<y then -1 else if y<x then 1 else 0:=rfl;rcases Int.lt_trichotomy x y with h | h | h
 ·rw[if_pos h]at hc;rw[hc];clear hc
  go_enter Tryz.func176,Tryz.ntmps176
  go_wp2_with (go_at_call 195;refine(sg _ _).mono ?_;rintro e w' ⟨rfl,rfl⟩)
  go_ret;exact⟨rfl,rfl⟩
 ·subst h;rw[if_neg zO,if_neg zO]at hc;rw[hc];clear hc
  go_enter Tryz.func176,Tryz.ntmps176
  go_wp2_with (go_at_call 195;refine(sg _ _).mono ?_;rintro e w' ⟨rfl,rfl⟩)
  go_ret;exact⟨rfl,rfl⟩
 ·rw[if_neg zO,if_pos h]at hc;rw[hc];clear hc;have h2:¬x<y:=zO
  go_enter Tryz.func176,Tryz.ntmps176
  go_wp2_with (go_at_call 195;refine(sg _ _).mono ?_;rintro e w' ⟨rfl,rfl⟩)
  go_ret;exact⟨rfl,rfl⟩
theorem fv {w:World} {A:Option Addr} {xs:List Int} (hA:∀k x,xs[k]?=some x->∃b off,A=some ⟨b,off,none⟩/\w.cell? ⟨b,off+k,none⟩=some (.int .i64 x)) {k:Nat} (hk:k<xs.length):∃x b off,xs[k]?=some x/\A=some ⟨b,off,none⟩/\w.cell? ⟨b,off+k,none⟩=some (.int .i64 x):=by
 obtain⟨x,hx⟩:=au xs k hk;obtain⟨b,off,h1,h2⟩:=hA k x hx;exact⟨x,b,off,hx,h1,h2⟩
theorem nC {c:List Int}:lY c=true↔∀i,i+1<c.length->c.getD i 0<=c.getD (i+1) 0:=by
 unfold lY;rw[Zbh];constructor
 ·intro h i hi
  have:=h i (Zab.2 zO)
  simpa using this
 ·intro h i hi
  have:=Zab.1 hi
  simpa using h i zO
theorem zR {c:List Int} {i:Nat} {x y:Int} (hx:c[i]?=some x) (hy:c[i+1]?=some y) (h:y<x):lY c=false:=by
 rw[Bool.eq_false_iff];intro hc
 have:=nC.1 hc i (ah hy)
 rw[ag hx,ag hy]at this;omega
theorem jZ (v:Value) (xs:List Int) (w:World) (h:bs w v xs):
  Calls Tryz.prog 132 #[v] w fun e w'=>e=.returned (.bool (lY xs))/\Below w.heap.size w w':=by
 obtain⟨A,c,rfl,fR,hm,hA⟩:=h;unfold maxLen at hm;have HA:=zh hA;clear hA
 go_enter Tryz.func132,Tryz.ntmps132
 go_wp2
 go_loopw [3] (fun i wr=>∃k:Int,-1<=k/\k<xs.length/\i=.int .i64 k/\(∀i:Nat,k<=i->i+1<xs.length->xs.getD i 0<=xs.getD (i+1) 0)/\Below w.heap.size w wr) (fun i _=>(intOf i+1).toNat)
 case atStart=>exact⟨_,zO,zO,rfl,fun i h1 h2=>zO,Zaf _ _⟩
 case round=>
  obtain⟨k,lW,sV,rfl,c_,hb⟩:=hrel;obtain⟨gS,Hb⟩:=A_ c_ hb;clear c_ hb
  by_cases mA:k>0
  ·obtain⟨m,hm'⟩:=Int.eq_ofNat_of_zero_le (by omega:0<=k-1);obtain rfl:k=((m+1:Nat):Int):=zO
   clear hm';obtain⟨x,b,off,hx,rfl,dk⟩:=fv HA (k:=m+1) zO;obtain⟨y,b',nf,hy,he,jT⟩:=fv HA (k:=m) zO;cases he;have q1:=ae (bc Hb dk);have q2:=ae (bc Hb jT);obtain⟨Hx,Hy⟩:=A_ hx hy
   have ii:(m:Int)+1<xs.length:=zX (ah hx)
   have zU:(m:Int)<xs.length:=zO
   have hpm:(0:Int)<=(m:Int)+1:=zO
   have wm:IntKind.i64.wrap (m:Int)=(m:Int):=bU _ zO zO
   have w1:IntKind.i64.wrap (((m+1:Nat):Int)-1)=(m:Int):=by rw[bU _ zO zO];omega
   clear hx hy dk jT;go_upto_region 4 with(fail);refine ap 10 (ab wr) zK zK zS (aj (aa _)) ?_;simp only[zT]
   iterate 9 (refine ch rfl ?_;simp only[zA])
   apply dE _ rfl;(intro W hW;unfold a_;go_simp;with_reducible exact zQ (Ns _ _ W));simp only[zA]
   intro W5 uO;have J3:=zh (Hb.out.trans (uO.mono Hb.out.size));clear uO q1 q2
   by_cases aA:x<y
   ·have hd:decide (x<y)=true:=by simpa using aA
    go_wp2;go_ret;exact⟨aJ (zR Hy Hx aA),J3⟩
   ·have hd:decide (x<y)=false:=by simpa using aA
    go_wp2;go_roundw
    case rel=>
     refine⟨(m:Int),zO,zO,zM,fun i h1 h2=>?_,J3⟩
     rcases Int.lt_or_le (m:Int) i with h3 | h3
     ·exact gS i zO h2
     ·obtain rfl:i=m:=zO
      rw[ag Hy.out,ag Hx.out];omega
    simp[intOf];omega
  ·go_wp2;go_ret;exact⟨eT (nC.2 fun i hi=>gS i zO hi),Hb⟩
theorem fV (v u:Value) (xs ys:List Int) (w:World) (h:bs w v xs) (h':bs w u ys):
  Calls Tryz.prog 133 #[v,u] w fun e w'=>e=.returned (.int .i64 (eu xs ys))/\Below w.heap.size w w':=by
 obtain⟨A,c,rfl,fR,hm,hA⟩:=h;obtain⟨A2,c2,rfl,J4,gC,Ma⟩:=h';unfold maxLen at hm gC;obtain⟨HA,Zk⟩:=A_ hA Ma;clear hA Ma
 go_enter Tryz.func133,Tryz.ntmps133
 go_wp2
 go_loop [11] (fun i=>∃k:Nat,k<=xs.length/\k<=ys.length/\i=.int .i64 k/\xs.take k=ys.take k) (fun i=>xs.length-(intOf i).toNat)
 case atStart=>exact⟨0,Zac _,Zac _,rfl,zS⟩
 case round=>
  obtain⟨k,hk,sV,rfl,uw⟩:=hrel;have tE:=zh uw;clear uw
  by_cases aA:k<xs.length
  ·obtain⟨x,b,off,hx,rfl,dk⟩:=fv HA aA;have Hx:=zh hx
   by_cases ij:k<ys.length
   ·obtain⟨y,b',nf,hy,rfl,jT⟩:=fv Zk ij;have Hy:=zh hy;clear hx hy
    by_cases uN:x=y
    ·subst uN;have hz:GA x x=0:=by simp[GA]
     go_wp2_with (go_at_call 176;refine(zP _ _ _).mono ?_;rw[hz];rintro e w' ⟨rfl,rfl⟩)
     go_round
     exact⟨k+1,zO,zO,zM,by rw[bJ Hx.out,bJ Hy.out,tE.out]⟩
     simp[intOf];omega
    ·have hr:Hid (eu xs ys=GA x y):=by
      show _=_
      rw[Dw k tE.out Hx.out Hy.out uN];unfold GA
      split
      ·rfl
      ·rw[if_pos zO]
     obtain⟨z,hz⟩:=K_ (GA x y)
     have e_:z≠0:=by rw[<- hz];unfold GA;split;omega;rw[if_pos zO];omega
     have Hz:=zh hz;clear hz
     go_wp2_with (go_at_call 176;refine(zP _ _ _).mono ?_;rw[Hz.out];rintro e w' ⟨rfl,rfl⟩)
     go_ret;exact⟨kO (by rw[hr.out,Hz.out]),Zaf _ _⟩
   ·have hr:Hid (eu xs ys=1):=by
     show _=_
     obtain rfl:k=ys.length:=zO
     rw[oQ ys.length tE.out zO (Zaj _),Zbt aA,List.drop_length];rfl
    clear hx;go_wp2;go_ret;exact⟨kO hr.symm,Zaf _ _⟩
  ·obtain rfl:k=xs.length:=zO
   by_cases CK:xs.length<ys.length
   ·have hr:Hid (eu xs ys = -1):=by
     show _=_
     rw[oQ xs.length tE.out (Zaj _) zO,Zbt CK,List.drop_length];rfl
    go_wp2;go_ret;exact⟨kO hr.symm,Zaf _ _⟩
   ·have hr:Hid (eu xs ys=0):=by
     show _=_
     rw[oQ xs.length tE.out (Zaj _) zO,List.drop_length,List.drop_eq_nil_iff.2 zO];rfl
    go_wp2;go_ret;exact⟨kO hr.symm,Zaf _ _⟩
theorem EG (v u:Value) (c l:List Int) (w:World) (h:bs w v c) (h':bs w u l):
  Calls Tryz.prog 140 #[v,u] w fun e w'=>e=.returned (.bool (gQ c l))/\Below w.heap.size w w':=by
 obtain⟨A,z,rfl,fR,hm,hA⟩:=h;obtain⟨A2,z2,rfl,J4,gC,Ma⟩:=h';unfold maxLen at hm gC;obtain⟨HA,Zk⟩:=A_ hA Ma;clear hA Ma
 go_enter Tryz.func140,Tryz.ntmps140
 go_wp2
 go_loop [5,10] (fun a i=>∃k j:Nat,k<=c.length/\j<=l.length/\a=.int .i64 k/\i=.int .i64 j/\gQ c l=gQ (c.drop k) (l.drop j)) (fun _ i=>l.length-(intOf i).toNat)
 case atStart=>exact⟨0,0,Zac _,Zac _,rfl,rfl,zS⟩
 case round=>
  obtain⟨k,j,hk,hj,rfl,rfl,uw⟩:=hrel;have tE:=zh uw;clear uw
  by_cases aA:j<l.length
  ·obtain⟨a,b2,wv,ha,rfl,jT⟩:=fv Zk aA
   have Ha:Hid (l.drop j=a::l.drop (j+1)):=by
    show _=_
    obtain⟨h1,h2⟩:=Zbs.1 ha;rw[Zbt h1,h2]
   clear ha;go_upto_region 5 with(fail)
   go_loop [5] (fun p=>∃k:Nat,k<=c.length/\p=.int .i64 k/\gQ c l=gQ (c.drop k) (l.drop j)) (fun p=>c.length-(intOf p).toNat)
   case atStart=>exact⟨k,hk,rfl,tE⟩
   case round=>
    obtain⟨k,hk,rfl,uw⟩:=hrel;have tE:=zh uw;clear uw
    by_cases hkc:k<c.length
    ·obtain⟨x,b,off,hx,rfl,dk⟩:=fv HA hkc;have Hx:=zh hx;clear hx
     by_cases Mc:x<a
     ·go_wp2
      go_round
      exact⟨k+1,zO,zM,by rw[tE.out,Ha.out,No Hx.out Mc]⟩
      simp[intOf];omega
     ·by_cases lK:x=a
      ·subst lK;go_wp2
       go_round
       exact⟨k+1,j+1,zO,zO,zM,zM,by rw[tE.out,Ha.out,QJ Hx.out]⟩
       simp[intOf];omega
      ·have af9:(x != a)=true:=by simpa using lK
       have Dx:((k:Int)==(c.length:Int))=false:=by simp;omega
       go_wp2;go_ret;exact⟨aJ (by rw[tE.out,Ha.out,Np Hx.out zO lK]),Zaf _ _⟩
    ·obtain rfl:k=c.length:=zO
     go_wp2;go_ret;exact⟨aJ (by rw[tE.out,Ha.out,QK (Zaj _)]),Zaf _ _⟩
  ·obtain rfl:j=l.length:=zO
   go_wp2;go_ret
   exact⟨eT (by rw[tE.out,List.drop_length];cases c.drop k <;> rfl),Zaf _ _⟩
def bS (w:World) (v:Value) (q_:List (List Int)):Prop:=
 ∃(A:Option Addr) (c:Nat),v=.slice A q_.length c/\q_.length<=c/\c<=maxLen /\
  (∀k xs,q_[k]?=some xs->∃b off u,A=some ⟨b,off,none⟩/\w.cell? ⟨b,off+k,none⟩=some u/\bs w u xs)
theorem bS.agU {w w':World} {v:Value} {xs:List (List Int)} (h:bS w v xs) (hb:Below w.heap.size w w'):bS w' v xs:=by
 obtain⟨A,c,hv,hc,hm,hA⟩:=h;refine⟨A,c,hv,hc,hm,fun k x hk=>?_⟩
 obtain⟨b,off,u,wb,h1,h2⟩:=hA k x hk;exact⟨b,off,u,wb,bc hb h1,h2.agU hb⟩
def bu:World->Nat->Value->List (List Int)->List Nat->Prop:=aZ 28 mx
theorem aL:eG bu:=mw _ fT
theorem mx.read {w:World} {base:Nat} {v:Value} {xs:List Int} {S:List Nat} (h:mx w base v xs S):bs w v xs:=h.1.ints
theorem bu.read {w:World} {base:Nat} {v:Value} {ep:List (List Int)} {S:List Nat} (h:bu w base v ep S):bS w v ep:=by
 obtain⟨vs,Ss,h1,h2,h3,h4,h5⟩:=h;rcases cj h1 with⟨rfl,h0⟩ | ⟨g,c,rfl,hb,hg,hc,hm⟩
 ·obtain rfl:ep=[]:=Zae h0
  exact⟨none,0,rfl,Zaj _,Zac _,fun k x hk=>by simp at hk⟩
 ·have xA:vs.length=ep.length:=by simpa using h1.1
  refine⟨_,c,rfl,hc,hm,fun k x hk=>?_⟩
  have aA:=ah hk;obtain⟨u,hu⟩:=au vs k zO;obtain⟨T,hT⟩:=au Ss k zO
  exact⟨g,0,u,rfl,by rw[Zba,h1.cellAt (cap:=c) _ zO];exact hu,mx.read (h3 k u x T hu hk hT)⟩
def szR (ep:List (List Int)):Nat:=(ep.map List.length).sum
def CL (ep:List (List Int)):Nat:=ep.length+szR ep
theorem Nt:(Tryz.prog.info? 28).map (fun i=>(i.zero,i.size,i.bytes))=some (some (.slice none 0 0),1,24):=zK
section
variable {ops : Array Oper} {rest : List Oper} {o : Oper} {a : Act} {Q : Exit → Act → World → Prop}
theorem uP (w:World) (hg:o.guard=none) (l c:Operand) (yh:o.op=Op.makeSlice 24 l c) (n:Nat) (hl:a.eval l=.int .i64 (n:Int)) (hc:a.eval c=.int .i64 (n:Int)) (hn:n<=1048576)
  (hK:∀w',bu w' w.heap.size (.slice (some ⟨w.heap.size,0,none⟩) n n) (List.replicate n []) [w.heap.size]->Below w.heap.size w w'->wpList Tryz.prog ops Q rest (a.put o.dst (.slice (some ⟨w.heap.size,0,none⟩) n n)) w'):wpList Tryz.prog ops Q (o::rest) a w:=by
 obtain⟨i0,hi,e_,dP,dY⟩:=info_parts Nt;refine wpList_plain hg fun K hK'=>?_
 have hr:=run_make (P:=Tryz.prog) w 24 28 i0 (.slice none 0 0) Tryz.underlying24 hi e_ .i64 .i64 n n zO (Int.le_refl _) (by rw[dY];omega) zO
 rw[dP]at hr;simp only[Zag]at hr;rw[show(Value.slice none 0 0).cells=#[Value.slice none 0 0]from rfl,zx]at hr
 unfold Oper.wp;simp only[execOp,yh,hl,hc,Sem.run_bind,hr,Result.andThen_ok,Sem.run_pure];refine hK' _ _ (hK _ ?_ (am _ _))
 have:=aZ.made (R:=mx) (e:=28) n (by simp[maxLen];omega) my w
 rw[List.toArray_replicate]at this;exact this
end
def Zl (x:Int):Int:=if x>0 then 1 else if x<0 then -1 else 0
theorem J5 (x:Int) (w:World):Calls Tryz.prog 187 #[.int .i64 x] w fun e w'=>e=.returned (.int .i64 (Zl x))/\w=w':=by
 have hc:Zl x=if x>0 then 1 else if x<0 then -1 else 0:=rfl;rcases Int.lt_trichotomy x 0 with h | h | h
 ·have h2:¬x>0:=zO
  rw[if_neg h2,if_pos h]at hc;rw[hc];clear hc
  go_enter Tryz.func187,Tryz.ntmps187
  go_wp2;go_ret;exact⟨rfl,rfl⟩
 ·subst h;rw[if_neg zO,if_neg zO]at hc;rw[hc];clear hc
  go_enter Tryz.func187,Tryz.ntmps187
  go_wp2;go_ret;exact⟨rfl,rfl⟩
 ·have h2:¬x<0:=zO
  rw[if_pos h]at hc;rw[hc];clear hc
  go_enter Tryz.func187,Tryz.ntmps187
  go_wp2;go_ret;exact⟨rfl,rfl⟩
theorem ra (v u:Value) (xs ys:List Int) (w:World) (h:bs w v xs) (h':bs w u ys) (hl:xs.length=ys.length) (hx:∀x∈xs,-1000<=x/\x<=1000) (hy:∀y∈ys,-1000<=y/\y<=1000):
  Calls Tryz.prog 148 #[v,u] w fun e w'=>e=.returned (.int .i64 (eu xs ys))/\w=w':=by
 obtain⟨A,c,rfl,fR,hm,hA⟩:=h;obtain⟨A2,c2,rfl,J4,gC,Ma⟩:=h';unfold maxLen at hm gC;obtain⟨HA,Zk,Hl,HX,HY⟩:=D_ hA Ma hl hx hy;clear hA Ma hl hx hy
 go_enter Tryz.func148,Tryz.ntmps148
 go_wp2
 go_loop [9] (fun i=>∃k:Nat,k<=xs.length/\i=.int .i64 k/\xs.take k=ys.take k) (fun i=>xs.length-(intOf i).toNat)
 case atStart=>exact⟨0,Zac _,rfl,zS⟩
 case round=>
  obtain⟨k,hk,rfl,uw⟩:=hrel;have tE:=zh uw;clear uw
  by_cases aA:k<xs.length
  ·obtain⟨x,b,off,hx,rfl,dk⟩:=fv HA aA;have Hx:=zh hx
   have ij:k<ys.length:=by rw[<- Hl.out];exact aA
   obtain⟨y,b',nf,hy,rfl,jT⟩:=fv Zk ij;have Hy:=zh hy;clear hx hy
   by_cases uN:x=y
   ·subst uN;go_wp2
    go_round
    exact⟨k+1,zO,zM,by rw[bJ Hx.out,bJ Hy.out,tE.out]⟩
    simp[intOf];omega
   ·have hr:=zh (Dw k tE.out Hx.out Hy.out uN);have dK:=HX x (Zaq Hx);have hby:=HY y (Zaq Hy);have w1:IntKind.i64.wrap (x-y)=x-y:=bU _ zO zO
    go_wp2_with (go_at_call 187;refine(J5 _ _).mono ?_;rintro e w' ⟨rfl,rfl⟩)
    go_ret;refine⟨kO ?_,rfl⟩;rw[hr.out];unfold Zl;rcases Int.lt_or_lt_of_ne uN with h | h
    ·rw[if_neg zO,if_pos zO,if_pos h]
    ·rw[if_pos zO,if_neg zO]
  ·obtain rfl:k=xs.length:=zO
   have hr:Hid (eu xs ys=0):=by
    show _=_
    rw[oQ xs.length tE.out (Zaj _) (zX Hl.out),List.drop_length,List.drop_eq_nil_iff.2 (zX Hl.out)];rfl
   go_wp2;go_ret;exact⟨kO hr.symm,rfl⟩
theorem pG (v u:Value) (xs ys:List Int) (w:World) (h:bs w v xs) (h':bs w u ys):
  Calls Tryz.prog 167 #[v,u] w fun e w'=>e=.returned (.bool (decide (xs=ys)))/\Below w.heap.size w w':=by
 obtain⟨A,c,rfl,fR,hm,hA⟩:=h;obtain⟨A2,c2,rfl,J4,gC,Ma⟩:=h';unfold maxLen at hm gC;obtain⟨HA,Zk⟩:=A_ hA Ma;clear hA Ma
 by_cases Cj:xs.length=ys.length
 ·have xC:=zh Cj;have Zm:(xs.length:Int)=ys.length:=zO
  clear Cj
  go_enter Tryz.func167,Tryz.ntmps167
  go_wp2
  go_loopw [13] (fun i wr=>∃k:Nat,k<=xs.length/\i=.int .i64 k/\xs.take k=ys.take k/\Below w.heap.size w wr) (fun i _=>xs.length-(intOf i).toNat)
  case atStart=>exact⟨0,Zac _,rfl,zS,Zaf _ _⟩
  case round=>
   obtain⟨k,hk,rfl,uw,hb⟩:=hrel;obtain⟨tE,Hb⟩:=A_ uw hb;clear uw hb
   by_cases aA:k<xs.length
   ·obtain⟨x,b,off,hx,rfl,dk⟩:=fv HA aA;have Hx:=zh hx
    have ij:k<ys.length:=zX xC.out
    obtain⟨y,b',nf,hy,rfl,jT⟩:=fv Zk ij;have Hy:=zh hy;have k1:=bc Hb dk;have k2:=bc Hb jT;clear hx hy dk jT
    by_cases uN:x=y
    ·subst uN;go_upto_region 6 with(fail)
     go_region
     have oN:=zh (Zbw Hb.out (below_drewN (Zaf w.heap.size wr) 1));go_wp2;go_roundw
     exact⟨k+1,zO,zM,by rw[bJ Hx.out,bJ Hy.out,tE.out],oN⟩
     simp[intOf];omega
    ·go_upto_region 6 with(fail)
     go_region
     have oN:=zh (Zbw Hb.out (below_drewN (Zaf w.heap.size wr) 1));go_wp2;go_ret;refine⟨aJ (decide_eq_false fun e=>?_),oN.out⟩
     have h1:=Hx.out;rw[e,Hy.out]at h1;exact uN (Zbx h1).symm
   ·obtain rfl:k=xs.length:=zO
    go_wp2;go_ret;refine⟨eT (decide_eq_true ?_),Hb.out⟩;have h1:=tE.out;rw[Zbq,xC.out,Zbq]at h1;exact h1
 ·have Zm:¬(xs.length:Int)=ys.length:=zO
  have xC:=zh Cj;clear Cj
  go_enter Tryz.func167,Tryz.ntmps167
  go_wp2;go_ret;exact⟨aJ (decide_eq_false fun e=>xC.out (by rw[e])),Zaf _ _⟩
end Go.Proofs.YtnioemnkfojmkaaGreat
