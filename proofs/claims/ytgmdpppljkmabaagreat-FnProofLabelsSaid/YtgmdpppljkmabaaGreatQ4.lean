/- Parts of the proof: walks of functions and plain laws. -/
import Derived.Test.YtgmdpppljkmabaaGreatQ0
import Derived.Test.YtgmdpppljkmabaaGreatQ1
import Derived.Test.YtgmdpppljkmabaaGreatQ3
import Derived.Lib.SliceRun
import Derived.Test.YtgmdpppljkmabaaGreatQ2
import Derived.WalkSpells
set_option maxRecDepth 100000
set_option maxHeartbeats 16000000
namespace Go.Proofs.YtgmdpppljkmabaaGreat
open Go Go.RowKit
def pc (ids:List Int) (f8:Int):Bool:=((List.range ids.length).all fun i=>ey 1 999999 (ids.getD i 0) && !((ids.take i).contains (ids.getD i 0)))&&((ids.length:Int)==0||(ids.length:Int)==f8)
theorem gx {ids:List Int} {i:Nat} (h:i<ids.length):ids.getD i 0=ids[i]:=by simp[zDd,h]
theorem ug (ids:List Int):(∀i (h:i<ids.length),ids[i]∉ids.take i)↔ids.Nodup:=by
 unfold List.Nodup;rw[List.pairwise_iff_getElem];constructor
 ·intro h i j hi hj CW e
  refine h j hj (List.mem_iff_getElem.2 ⟨i,by simp;omega,?_⟩)
  rw[List.getElem_take];exact e
 ·intro h i hi hm;obtain⟨j,hj,e⟩:=List.mem_iff_getElem.1 hm;simp at hj
  rw[List.getElem_take]at e;exact h j i (by omega) hi (by omega) e
theorem FF (lo up:Int) (s:List Int):rZ lo up s=true↔(∀x∈s,ey lo up x=true)/\s.Pairwise (· < ·):=by
 unfold rZ;rw[List.all_eq_true];constructor
 ·intro h
  have h':∀i (hl:i<s.length),ey lo up s[i]=true/\(i=0\/s.getD (i-1) 0<s[i]):=fun i hl=>by
   have:=h i (List.mem_range.2 hl)
   rw[gx hl]at this;simpa using this
  refine⟨fun x hx=>?_,?_⟩
  ·obtain⟨i,hi,rfl⟩:=List.mem_iff_getElem.1 hx;exact(h' i hi).1
  ·rw[List.pairwise_iff_getElem];intro i j hi hj CW
   induction j with
   | zero=>omega
   | succ j ih=>
    have hs:=(h' (j+1) hj).2;rw[Nat.add_sub_cancel,gx (show j<s.length by omega)]at hs
    rcases Nat.lt_or_ge i j with h1 | h1
    ·have:=ih (by omega) h1
     omega
    ·obtain rfl:i=j:=by omega
     omega
 ·rintro⟨h1,h2⟩ i hi;have hl:=List.mem_range.1 hi;rw[gx hl];rw[List.pairwise_iff_getElem]at h2;rw[Bool.and_eq_true];refine⟨h1 _ (List.getElem_mem hl),?_⟩;rcases Nat.eq_zero_or_pos i with h0 | h0
  ·simp[h0]
  ·have:=h2 (i-1) i (by omega) hl (by omega)
   rw[gx (show i-1<s.length by omega)]
   simp[this]
theorem ML (ids:List Int) (f8:Int):pc ids f8=true↔(∀x∈ids,ey 1 999999 x=true)/\ids.Nodup/\((ids.length:Int)=0\/(ids.length:Int)=f8):=by
 unfold pc;rw[Bool.and_eq_true,List.all_eq_true,<- ug];constructor
 ·rintro⟨h,h2⟩
  have h':∀i (hl:i<ids.length),ey 1 999999 ids[i]=true/\ids[i]∉ids.take i:=fun i hl=>by
   have:=h i (List.mem_range.2 hl)
   rw[gx hl]at this;simpa using this
  refine⟨fun x hx=>?_,fun i hl=>(h' i hl).2,by simpa using h2⟩
  obtain⟨i,hi,rfl⟩:=List.mem_iff_getElem.1 hx;exact(h' i hi).1
 ·rintro⟨h1,h2,h3⟩;refine⟨fun i hi=>?_,by simpa using h3⟩
  have hl:=List.mem_range.1 hi;rw[gx hl,Bool.and_eq_true];exact⟨h1 _ (List.getElem_mem hl),by simpa using h2 i hl⟩
theorem vL (ids:List Int) (f8:Int):pc ids f8=vb ids f8:=by
 rw[Bool.eq_iff_iff,ML]
 cases FG:ids with
 | nil=>simp[vb]
 | cons a l=>
  rw[<- FG]
  have gM:ids.isEmpty=false:=by rw[FG];rfl
  have Dd:¬(ids.length:Int)=0:=by rw[FG];simp;omega
  unfold vb;rw[gM,Bool.false_or,Bool.and_eq_true,FF,beq_iff_eq];have hp:=List.mergeSort_perm ids (fun x y=>decide (x<=y))
  have hs:(ids.mergeSort fun x y=>decide (x<=y)).Pairwise fun a b=>decide (a<=b)=true:=
   List.pairwise_mergeSort (fun a b c h1 h2=>by simp at h1 h2 ⊢;omega) (fun a b=>by simp;omega) ids
  constructor
  ·rintro⟨h1,h2,h3⟩;refine⟨by omega,fun x hx=>h1 x (hp.mem_iff.1 hx),?_⟩
   have hn:=hp.nodup_iff.2 h2
   exact(hs.and hn).imp fun {a b} ⟨h,h'⟩=>by simp at h;omega
  ·rintro⟨h1,h2,h3⟩;refine⟨fun x hx=>h2 x (hp.mem_iff.2 hx),hp.nodup_iff.1 (h3.imp fun {a b} h=>by omega),.inr h1⟩
def iB (xs:List Int) (x:Int):Bool:=xs.contains x
theorem pS (v:Value) (xs:List Int) (x:Int) (w:World) (h:aY w v xs):Calls Tryz.prog 187 #[v,.int .i64 x] w fun e w'=>e=.returned (.bool (iB xs x))/\w=w':=by
 obtain⟨A,c,rfl,eV,hm,hA⟩:=h;unfold maxLen at hm;have HA:=zh hA;clear hA
 go_enter Tryz.func187,Tryz.ntmps187
 go_wp2
 go_loop [9] (fun i=>∃k:Nat,k<=xs.length/\i=.int .i64 k/\x∉xs.take k) (fun i=>xs.length-(intOf i).toNat)
 case atStart=>exact⟨0,Nat.zero_le _,rfl,by simp⟩
 case round=>
  obtain⟨k,hk,rfl,iA⟩:=hrel;have q9:=zh iA;clear iA
  by_cases hlt:k<xs.length
  ·obtain⟨y,hy⟩:=aM xs k hlt;obtain⟨b,off,rfl,fj⟩:=HA.out k y hy;have Hy:=zh hy;clear hy
   by_cases JR:y=x
   ·subst JR;go_wp2;go_ret
    exact⟨kY (by unfold iB;simpa using List.mem_of_getElem? Hy.out),rfl⟩
   ·go_wp2
    go_round
    case rel=>
     refine⟨k+1,by omega,by simp,?_⟩
     rw[bh Hy.out];simp only[List.mem_append,List.mem_singleton,not_or];exact⟨q9.out,fun e=>JR e.symm⟩
    case measure=>simp[intOf];omega
  ·go_wp2;go_ret
   have:=q9.out
   rw[jo xs hlt]at this
   exact⟨bw (by unfold iB;simpa using this),rfl⟩
theorem aY.take {w:World} {A:Option Addr} {c:Nat} {xs:List Int} (h:aY w (.slice A xs.length c) xs) (k:Nat) (hk:k<=xs.length):aY w (.slice A k c) (xs.take k):=by
 obtain⟨A',c',hv,eV,hm,hA⟩:=h;cases hv
 refine⟨A,c,by simp[Nat.min_eq_left hk],by simp;omega,hm,fun j x hx=>?_⟩
 have hj:j<k:=by have:=an hx;simp at this;omega
 rw[List.getElem?_take,if_pos hj]at hx;exact hA j x hx
theorem JS (v:Value) (ids:List Int) (f8:Int) (w:World) (h:aY w v ids):Calls Tryz.prog 132 #[v,.int .i64 f8] w fun e w'=>e=.returned (.bool (pc ids f8))/\w=w':=by
 have H:=zh h;obtain⟨A,c,rfl,eV,hm,hA⟩:=h;unfold maxLen at hm;have HA:=zh hA;clear hA
 go_enter Tryz.func132,Tryz.ntmps132
 go_wp2
 go_loop [9] (fun i=>∃k:Nat,k<=ids.length/\i=.int .i64 k/\∀j,j<k->ey 1 999999 (ids.getD j 0)=true/\iB (ids.take j) (ids.getD j 0)=false) (fun i=>ids.length-(intOf i).toNat)
 case atStart=>exact⟨0,Nat.zero_le _,rfl,fun j hj=>by omega⟩
 case round=>
  obtain⟨k,hk,rfl,iA⟩:=hrel;have q9:=zh iA;clear iA
  by_cases hlt:k<ids.length
  ·obtain⟨y,hy⟩:=aM ids k hlt;obtain⟨b,off,rfl,fj⟩:=HA.out k y hy;have hgy:ids.getD k 0=y:=by simp[hy]
   have Hg:=zh hgy;clear hy hgy;cases hi:ey 1 999999 y
   ·go_wp2_with (go_at_call 75;refine(k7 _ _ _ _).mono ?_;rintro e w' ⟨rfl,rfl⟩)
    go_ret;refine⟨bw ?_,rfl⟩;unfold pc;rw[Bool.and_eq_false_iff]
    left
    rw[List.all_eq_false]
    exact⟨k,List.mem_range.2 hlt,by rw[Hg.out,hi];simp⟩
   ·cases hc:iB (ids.take k) y
    ·go_wp2_with (first | (go_at_call 75;refine(k7 _ _ _ _).mono ?_;rintro e w' ⟨rfl,rfl⟩) | (go_at_call 187;refine(pS _ (ids.take k) y _ (H.out.take k hk)).mono ?_;rintro e w' ⟨rfl,rfl⟩))
     go_round
     case rel=>
      refine⟨k+1,by omega,by simp,fun j hj=>?_⟩
      rcases Nat.lt_or_ge j k with h | h
      ·exact q9.out j h
      ·obtain rfl:j=k:=by omega
       rw[Hg.out];exact⟨hi,hc⟩
     case measure=>simp[intOf];omega
    ·go_wp2_with (first | (go_at_call 75;refine(k7 _ _ _ _).mono ?_;rintro e w' ⟨rfl,rfl⟩) | (go_at_call 187;refine(pS _ (ids.take k) y _ (H.out.take k hk)).mono ?_;rintro e w' ⟨rfl,rfl⟩))
     go_ret;refine⟨bw ?_,rfl⟩;unfold pc;rw[Bool.and_eq_false_iff]
     left
     rw[List.all_eq_false]
     exact⟨k,List.mem_range.2 hlt,by rw[Hg.out,hi];unfold iB at hc;rw[hc];simp⟩
  ·have bZ:Hid (pc ids f8=((ids.length:Int)==0||(ids.length:Int)==f8)):=by
    show _=_
    unfold pc
    rw[show((List.range ids.length).all fun i=>ey 1 999999 (ids.getD i 0) && !((ids.take i).contains (ids.getD i 0)))=true from List.all_eq_true.2 (fun j hj=>by
     have:=q9.out j (by have:=List.mem_range.1 hj;omega)
     unfold iB at this
     rw[this.1,this.2];rfl),Bool.true_and]
   by_cases h0:(ids.length:Int)=0
   ·go_wp2;go_ret
    exact⟨kY (by rw[bZ.out];simp[h0]),rfl⟩
   ·have gM:¬ids=[]:=fun e=>h0 (by simp[e])
    go_wp2;go_ret;refine⟨bQ ?_,rfl⟩;rw[bZ.out,show((ids.length:Int)==0)=false by simpa using h0,Bool.false_or]
@[simp ↓] theorem SK (a b c d:Int) (w:World):(binOp .neq 83 (.agg #[.int .i64 a,.int .i64 b]) (.agg #[.int .i64 c,.int .i64 d])).run Tryz.prog w=.ok (.bool (!yB (a,b) (c,d))) w:=by
 go_simp
 by_cases f1:a=c
 ·by_cases f2:b=d
  ·simp[f1,f2,yB]
  ·simp[f1,f2,yB]
 ·simp[f1,yB]
@[simp ↓] theorem SL (a b c d:Int) (w:World):(binOp .eql 83 (.agg #[.int .i64 a,.int .i64 b]) (.agg #[.int .i64 c,.int .i64 d])).run Tryz.prog w=.ok (.bool (yB (a,b) (c,d))) w:=by
 go_simp
 by_cases f1:a=c
 ·by_cases f2:b=d
  ·simp[f1,f2,yB]
  ·simp[f1,f2,yB]
 ·simp[f1,yB]
theorem aQ.es {w:World} {a b c:Value} {n:ak} (h:aQ w a b c n):nU w a n.ends:=h.1
theorem aQ.is {w:World} {a b c:Value} {n:ak} (h:aQ w a b c n):aY w b n.ids:=h.2.1
theorem aQ.ns {w:World} {a b c:Value} {n:ak} (h:aQ w a b c n):aY w c n.aea:=h.2.2
theorem aF (z:Int) (h : -9223372036854775808<=z) (h2:z<=9223372036854775807):IntKind.i64.wrap z=z:=IntWalk.i64_in z ⟨h,h2⟩
theorem q_ (ve vi vn:Value) (n:ak) (w:World) (h:aQ w ve vi vn n):
  Calls Tryz.prog 55 #[.agg #[ve,vi,vn]] w fun e w'=>e=.returned (.bool (al n))/\Below w.heap.size w w':=by
 obtain⟨w0,cG⟩:∃w0,w0=w.alloc (.cells #[ve,vi,vn] 27):=⟨_,rfl⟩
 have nu:Below w.heap.size w w0:=by rw[cG];exact am _ _
 have H:=zh (h.keep nu);obtain⟨h1,h2,h3⟩:=h.keep nu;obtain⟨A,c,rfl,eV,hm,hA⟩:=h1;obtain⟨A2,c2,rfl,_,fJ,_⟩:=h2;obtain⟨A3,c3,rfl,_,fB,_⟩:=h3;unfold maxLen at hm fJ fB
 have p0:∀W,aa w0 W->W.cell? ⟨w.heap.size,0,none⟩=some (.slice A n.ends.length c):=fun W hW=>bc hW (by rw[cG];simp)
 have p1:∀W,aa w0 W->W.cell? ⟨w.heap.size,1,none⟩=some (.slice A2 n.ids.length c2):=fun W hW=>bc hW (by rw[cG];simp)
 have p2:∀W,aa w0 W->W.cell? ⟨w.heap.size,2,none⟩=some (.slice A3 n.aea.length c3):=fun W hW=>bc hW (by rw[cG];simp)
 have aT:=zh nu;have HA:=zh hA;have bK:=zh cG;clear nu hA h cG
 go_enter Tryz.func55,Tryz.ntmps55
 go_upto_region 1 with(fail);rw[<- bK.out];refine aS 29 (aa w0) (ad _) ?_;simp only[zT]
 iterate 3 (refine bU rfl ?_;simp only[zA])
 refine fI ?_ rfl ?_ ?_;rotate_left;(intro W hW;unfold dr;go_simp;(with_reducible refine(k7 _ _ _ W).mono ?_);rintro e W' ⟨rfl,bN⟩;first | (refine⟨?_,aa.trans hW bN⟩;with_reducible rfl) | (subst bN;refine⟨?_,hW⟩;with_reducible rfl))
 simp only[zA]
 iterate 2 (refine bU rfl ?_;simp only[zA])
 iterate 5 (refine im rfl rfl ?_;simp only[zA])
 refine dA (v:=?_) rfl rfl ?_ ?_;rotate_left;(intro hb;intro W hW;unfold dr;go_simp;(with_reducible refine(JS _ n.ids _ W (H.out.is.keep hW.below)).mono ?_);rintro e W' ⟨rfl,bN⟩;first | (refine⟨?_,aa.trans hW bN⟩;with_reducible rfl) | (subst bN;refine⟨?_,hW⟩;with_reducible rfl))
 simp only[zA]
 refine im rfl rfl ?_;simp only[zA]
 (first | refine dO rfl rfl ?_ | (refine bU rfl ?_));simp only[zA]
 refine bU rfl ?_;simp only[zA]
 iterate 7 (refine im rfl rfl ?_;simp only[zA])
 (first | refine dO rfl rfl ?_ | (refine bU rfl ?_));simp only[zA]
 refine bU rfl ?_;simp only[zA]
 iterate 2 (refine im rfl rfl ?_;simp only[zA])
 refine dA (v:=?_) rfl rfl ?_ ?_;rotate_left;(intro hb;intro W hW;unfold dr;go_simp;(with_reducible refine(zH _ n.aea _ _ W (H.out.ns.keep hW.below)).mono ?_);rintro e W' ⟨rfl,bN⟩;first | (refine⟨?_,aa.trans hW bN⟩;with_reducible rfl) | (subst bN;refine⟨?_,hW⟩;with_reducible rfl))
 simp only[zA]
 refine im rfl rfl ?_;simp only[zA]
 (first | refine dO rfl rfl ?_ | (refine bU rfl ?_));simp only[zA]
 intro W hW
 cases hg:(!ey 1 40 (n.ends.length:Int) || !pc n.ids n.ends.length||((n.aea.length:Int) != n.ends.length) || !n.aea.all (ey 0 9))
 ·have hr:=zh (show al n=(List.range n.ends.length).all fun v=>gS n.ends v (n.ends.getD v []) by
   simp only[Bool.or_eq_false_iff,Bool.not_eq_false',bne_eq_false_iff_eq]at hg
   simp[al,hg,<- vL,js])
  have Hg:=zh hg;have HW:=zh hW;clear hg;go_wp2
  go_loopw [39] (fun i wr=>∃k:Nat,k<=n.ends.length/\i=.int .i64 k/\((List.range k).all fun v=>gS n.ends v (n.ends.getD v []))=true/\aa w0 wr) (fun i _=>n.ends.length-(intOf i).toNat)
  case atStart=>exact⟨0,Nat.zero_le _,rfl,rfl,HW.out⟩
  case round=>
   obtain⟨k,hk,rfl,bZ,zQ⟩:=hrel;have iV:=zh bZ;clear bZ hW
   by_cases hlt:k<n.ends.length
   ·obtain⟨es,bW⟩:=aM n.ends k hlt;obtain⟨b,off,u,rfl,dS,dB⟩:=HA.out k es bW;have ks:=ae dS;obtain⟨A1,z1,rfl,dV,d8,g_⟩:=dB;have r9:=zh g_;unfold maxLen at d8;have kw:=zh bW;clear bW dS g_
    by_cases h6:es.length<=6
    ·go_wp2;obtain⟨wo,rfl⟩:∃wo:World,wo=wr:=⟨_,rfl⟩
     go_loopw [49] (fun i wq=>∃j:Nat,j<=es.length/\i=.int .i64 j/\((List.range j).all fun i=>jt n.ends k i (es.getD i (0,0)))=true/\aa w0 wq) (fun i _=>es.length-(intOf i).toNat)
     case atStart=>exact⟨0,Nat.zero_le _,rfl,rfl,zQ⟩
     case round=>
      obtain⟨j,hj,rfl,C4,IE⟩:=hrel;have C5:=zh C4;clear C4 zQ
      by_cases jG:j<es.length
      ·obtain⟨⟨x1,x2⟩,he⟩:=aM es j jG;obtain⟨b1,oZ,rfl,j6,iq⟩:=r9.out j _ he;have q1:=ae j6;have q2:=ae iq;have He:=zh he;clear he j6 iq;have lK:w.heap.size<wr.heap.size:=World.block_lt_of_cell? wr _ (p0 wr IE);go_wp2;obtain⟨w1,ou⟩:∃w1,(wr.alloc (Obj.cells #[Value.int IntKind.i64 x1,Value.int IntKind.i64 x2] 83))=w1:=⟨_,rfl⟩
       rw[ou]
       have cY:aa w0 w1:=by rw[<- ou];exact ag _ IE
       have r0:=ah p0 cY
       have r3:∀W,aa w1 W->W.cell? ⟨wr.heap.size,0,none⟩=some (.int .i64 x1):=ae (by rw[<- ou];simp)
       have r4:∀W,aa w1 W->W.cell? ⟨wr.heap.size,1,none⟩=some (.int .i64 x2):=ae (by rw[<- ou];simp)
       have dC:=zh cY;have HP:=zh (And.intro p0 (And.intro p1 p2));have HQ:=zh (And.intro ks (And.intro q1 q2));have Hbq:=zh IE;clear ou cY p0 p1 p2 ks q1 q2 IE
       by_cases tp:ey 0 ((n.ends.length:Int)-1) x1=true
       ·obtain⟨p3,p4⟩:=ap.1 tp;obtain⟨k1,rfl⟩:=Int.eq_ofNat_of_zero_le p3;have lc:k1<n.ends.length:=by omega
        obtain⟨IH,C6⟩:=aM n.ends k1 lc;obtain⟨b2,XF,u',A_,qf,My⟩:=HA.out k1 IH C6
        injection A_ with A_
        injection A_ with q3 q4
        subst q3 q4;obtain⟨Mz,XG,rfl,abz,T4,FB⟩:=My;unfold maxLen at T4;have r5:=ah (ae qf) dC.out;have JO:=zh C6;have abF:=zh FB;clear C6 qf FB
        by_cases oQ:ey 0 ((IH.length:Int)-1) x2=true
        ·obtain⟨p5,p6⟩:=ap.1 oQ;obtain⟨i1,rfl⟩:=Int.eq_ofNat_of_zero_le p5;have qY:i1<IH.length:=by omega
         obtain⟨⟨y1,y2⟩,hy⟩:=aM IH i1 qY;obtain⟨b3,Qu,rfl,T6,SG⟩:=abF.out i1 _ hy;have r6:=ah (ae T6) dC.out;have r7:=ah (ae SG) dC.out;have Hy:=zh hy;have Hx:=zh (And.intro tp oQ);clear hy T6 SG tp oQ;have m1:IntKind.i64.wrap ((n.ends.length:Int)-1)=n.ends.length-1:=aF _ (by omega) (by omega);have m2:IntKind.i64.wrap ((IH.length:Int)-1)=IH.length-1:=aF _ (by omega) (by omega);refine ar 38 (aa w1) (by kernel_rfl) (by kernel_rfl) (by simp) (aj (ad _)) ?_;simp only[zT]
         iterate 6 (refine bU rfl ?_;simp only[zA])
         refine fI ?_ rfl ?_ ?_;rotate_left;(intro W hW;unfold dr;go_simp;(with_reducible refine(k7 _ _ _ W).mono ?_);rintro e W' ⟨rfl,bN⟩;first | (refine⟨?_,aa.trans hW bN⟩;with_reducible rfl) | (subst bN;refine⟨?_,hW⟩;with_reducible rfl))
         simp only[zA]
         iterate 2 (refine bU rfl ?_;simp only[zA])
         iterate 10 (refine im rfl rfl ?_;simp only[zA])
         refine dA (v:=?_) rfl rfl ?_ ?_;rotate_left;(intro hb;intro W hW;unfold dr;go_simp;(with_reducible refine(k7 _ _ _ W).mono ?_);rintro e W' ⟨rfl,bN⟩;first | (refine⟨?_,aa.trans hW bN⟩;with_reducible rfl) | (subst bN;refine⟨?_,hW⟩;with_reducible rfl))
         simp only[zA]
         refine im rfl rfl ?_;simp only[zA]
         (first | refine dO rfl rfl ?_ | (refine bU rfl ?_));simp only[zA]
         refine bU rfl ?_;simp only[zA]
         iterate 14 (refine im rfl rfl ?_;simp only[zA])
         (first | refine dO rfl rfl ?_ | (refine bU rfl ?_));simp only[zA]
         intro W2 nW;have P3:=zh nW;rw[Hx.out.1,Hx.out.2];cases hq:yB (y1,y2) ((k:Int),(j:Int))
         all_goals
          have Hq:=zh hq;clear hq nW m1 m2;go_wp2
         ·go_ret
          exact⟨bw (by rw[hr.out];refine a_ hlt ?_;rw[au kw.out];simp only[gS];rw[Bool.and_eq_false_iff];exact .inr (a_ jG (by rw[au He.out];simp[jt,JO.out,Hy.out,Hq.out]))),aa.after aT.out (dC.out.after P3.out)⟩
         ·go_roundw
          case rel=>exact⟨j+1,by omega,by go_num,by rw[dg,C5.out,au He.out];simp[jt,cj,Hx.out.1,Hx.out.2,JO.out,Hy.out,Hq.out],dC.out.after P3.out⟩
          case measure=>simp[intOf];omega
        ·have XP:ey 0 ((IH.length:Int)-1) x2=false:=by simpa using oQ
         have Hx:=zh (And.intro tp XP);clear tp oQ;have m1:IntKind.i64.wrap ((n.ends.length:Int)-1)=n.ends.length-1:=aF _ (by omega) (by omega);have m2:IntKind.i64.wrap ((IH.length:Int)-1)=IH.length-1:=aF _ (by omega) (by omega);refine ar 38 (aa w1) (by kernel_rfl) (by kernel_rfl) (by simp) (aj (ad _)) ?_;simp only[zT]
         iterate 6 (refine bU rfl ?_;simp only[zA])
         refine fI ?_ rfl ?_ ?_;rotate_left;(intro W hW;unfold dr;go_simp;(with_reducible refine(k7 _ _ _ W).mono ?_);rintro e W' ⟨rfl,bN⟩;first | (refine⟨?_,aa.trans hW bN⟩;with_reducible rfl) | (subst bN;refine⟨?_,hW⟩;with_reducible rfl))
         simp only[zA]
         iterate 2 (refine bU rfl ?_;simp only[zA])
         iterate 10 (refine im rfl rfl ?_;simp only[zA])
         refine dA (v:=?_) rfl rfl ?_ ?_;rotate_left;(intro hb;intro W hW;unfold dr;go_simp;(with_reducible refine(k7 _ _ _ W).mono ?_);rintro e W' ⟨rfl,bN⟩;first | (refine⟨?_,aa.trans hW bN⟩;with_reducible rfl) | (subst bN;refine⟨?_,hW⟩;with_reducible rfl))
         simp only[zA]
         refine im rfl rfl ?_;simp only[zA]
         (first | refine dO rfl rfl ?_ | (refine bU rfl ?_));simp only[zA]
         refine bU rfl ?_;simp only[zA]
         iterate 14 (refine mD rfl rfl (by simp[*]) ?_;simp only[zA])
         (first | refine dO rfl rfl ?_ | (refine bU rfl ?_));simp only[zA]
         intro W2 nW;have P3:=zh nW;rw[Hx.out.1,Hx.out.2];clear XP nW m1 m2;go_wp2;go_ret
         exact⟨bw (by rw[hr.out];refine a_ hlt ?_;rw[au kw.out];simp only[gS];rw[Bool.and_eq_false_iff];exact .inr (a_ jG (by rw[au He.out];simp[jt,cj,JO.out,Hx.out.2]))),aa.after aT.out (dC.out.after P3.out)⟩
       ·have XQ:ey 0 ((n.ends.length:Int)-1) x1=false:=by simpa using tp
        have Hx:=zh XQ;clear tp;have m1:IntKind.i64.wrap ((n.ends.length:Int)-1)=n.ends.length-1:=aF _ (by omega) (by omega);refine ar 38 (aa w1) (by kernel_rfl) (by kernel_rfl) (by simp) (aj (ad _)) ?_;simp only[zT]
        iterate 6 (refine bU rfl ?_;simp only[zA])
        refine fI ?_ rfl ?_ ?_;rotate_left;(intro W hW;unfold dr;go_simp;(with_reducible refine(k7 _ _ _ W).mono ?_);rintro e W' ⟨rfl,bN⟩;first | (refine⟨?_,aa.trans hW bN⟩;with_reducible rfl) | (subst bN;refine⟨?_,hW⟩;with_reducible rfl))
        simp only[zA]
        iterate 2 (refine bU rfl ?_;simp only[zA])
        iterate 12 (refine mD rfl rfl (by simp[*]) ?_;simp only[zA])
        (first | refine dO rfl rfl ?_ | (refine bU rfl ?_));simp only[zA]
        refine bU rfl ?_;simp only[zA]
        iterate 14 (refine mD rfl rfl (by simp[*]) ?_;simp only[zA])
        (first | refine dO rfl rfl ?_ | (refine bU rfl ?_));simp only[zA]
        intro W2 nW;have P3:=zh nW;rw[Hx.out];clear XQ nW m1;go_wp2;go_ret
        exact⟨bw (by rw[hr.out];refine a_ hlt ?_;rw[au kw.out];simp only[gS];rw[Bool.and_eq_false_iff];exact .inr (a_ jG (by rw[au He.out];simp[jt,cj,Hx.out]))),aa.after aT.out (dC.out.after P3.out)⟩
      ·obtain rfl:j=es.length:=by omega
       go_wp2;go_roundw
       case rel=>exact⟨k+1,by omega,by go_num,by rw[dg,iV.out,au kw.out,Bool.true_and];unfold gS;rw[C5.out];simp[h6],IE⟩
       case measure=>simp[intOf];omega
    ·go_wp2;go_ret
     exact⟨bw (by rw[hr.out];exact a_ hlt (by rw[au kw.out];simp[gS,h6])),aa.after aT.out zQ⟩
   ·obtain rfl:k=n.ends.length:=by omega
    go_wp2;go_ret
    exact⟨kY (by rw[hr.out];exact iV.out),aa.after aT.out zQ⟩
 ·have hr:=zh (show al n=false by
   simp only[Bool.or_eq_true,Bool.not_eq_true',bne_iff_ne,ne_eq]at hg
   rcases hg with((hg | hg) | hg) | hg <;> simp[al,hg,<- vL,js])
  have Hg:=zh hg;have HW:=zh hW;clear hg;go_wp2;go_ret;exact⟨bw hr.out,aa.after aT.out HW.out⟩
def fN (ix:List (List (Int×Int))) (v i:Int):Int×Int:=(ix.getD v.toNat []).getD i.toNat (0,0)
theorem hG {w:World} {v:Value} {ls:List Int} (h:aY w v ls) {x:Int} (h0:0<=x) (h1:x<ls.length):
  ∃(k b off c:Nat) (y:Int),x=(k:Int)/\v=.slice (some ⟨b,off,none⟩) ls.length c/\k<ls.length/\ls[k]?=some y/\ls.getD x.toNat 0=y/\w.cell? ⟨b,off+k,none⟩=some (.int .i64 y):=by
 obtain⟨k,rfl⟩:=Int.eq_ofNat_of_zero_le h0;have hk:k<ls.length:=by omega
 obtain⟨y,hy⟩:=aM ls k hk;obtain⟨A,c,rfl,_,_,hA⟩:=h;obtain⟨b,off,rfl,hc⟩:=hA k y hy;exact⟨k,b,off,c,y,rfl,rfl,hk,hy,by simp[hy],hc⟩
theorem tq {n:ak} (h:al n=true) {v i:Int} (hp:cj n.ends v i=true):
  cj n.ends (fN n.ends v i).1 (fN n.ends v i).2=true/\fN n.ends (fN n.ends v i).1 (fN n.ends v i).2=(v,i):=by
 unfold cj at hp;rw[Bool.and_eq_true]at hp;obtain⟨p1,p2⟩:=hp;obtain⟨p3,p4⟩:=ap.1 p1;obtain⟨k,rfl⟩:=Int.eq_ofNat_of_zero_le p3;have hk:k<n.ends.length:=by omega
 obtain⟨es,bW⟩:=aM n.ends k hk;rw[Int.toNat_natCast,au bW]at p2;obtain⟨p5,p6⟩:=ap.1 p2;obtain⟨j,rfl⟩:=Int.eq_ofNat_of_zero_le p5;have hj:j<es.length:=by omega
 obtain⟨⟨y1,y2⟩,hy⟩:=aM es j hj;have e:fN n.ends (k:Int) (j:Int)=(y1,y2):=by simp[fN,bW,hy]
 rw[e];unfold al at h;rw[Bool.and_eq_true,List.all_eq_true]at h
 have:=h.2 k (List.mem_range.2 hk)
 rw[au bW]at this;unfold gS at this;rw[Bool.and_eq_true,List.all_eq_true]at this
 have:=this.2 j (List.mem_range.2 hj)
 rw[au hy]at this;unfold jt at this;rw[Bool.and_eq_true]at this;exact⟨this.1,by simpa[yB,fN]using this.2⟩
theorem aE {n:ak} (h:al n=true):1<=n.ends.length/\n.ends.length<=40:=by
 unfold al at h;simp only[Bool.and_eq_true]at h
 have:=ap.1 h.1.1.1
 omega
theorem FH {ix:List (List (Int×Int))} {v i:Int} (hp:cj ix v i=true):0<=v/\v<ix.length:=by
 unfold cj at hp;rw[Bool.and_eq_true]at hp
 have:=ap.1 hp.1
 omega
def IL (n:ak) (v:Int):Bool:=al n&&ey 0 ((n.ends.length:Int)-1) v
theorem Own.since {w w':World} {base:Nat} {v:Value} {xs:List Int} (h:Own w base v xs) (hs:aa w w'):Own w' base v xs:=h.keep hs
theorem dy {w w0:World} {ops:Array Oper} {rest:List Oper} {o:Oper} {a:Act} {Q:Exit->Act->World->Prop} (iY:o.guard=none) (s x:Operand)
  (ho:o.op=.call { callee:=.builtin .append,args:=#[s,x],argTypes:=#[25,25] }) {v:Value} {xs:List Int} (hs:a.eval s=v) (h:Own w w0.heap.size v xs) (b:Nat) (y:Int)
  (hx:a.eval x=.slice (some ⟨b,0,none⟩) 1 1) (hc:w.cell? ⟨b,0,none⟩=some (.int .i64 y)) (hl:xs.length+1<=17592186044416) (yD:aa w0 w)
  (k:∀g cap w',Own w' w0.heap.size (.slice (some ⟨g,0,none⟩) (xs.length+1) cap) (xs++[y])->aa w0 w'->wpList Tryz.prog ops Q rest (a.put o.dst (.slice (some ⟨g,0,none⟩) (xs.length+1) cap)) w'):wpList Tryz.prog ops Q (o::rest) a w:=by
 refine lZ iY s x ho hs h b y hx hc hl yD.size ?_;intro g cap w' h1 h2 h3 h4;exact k g cap w' h1 (Below.grown yD h2 yD.size (fun j hj=>(World.ownsRow.lt h j hj).1))
theorem gy {w:World} {v:Value} {ix:List (List (Int×Int))} {k:Nat} {es:List (Int×Int)} (h:nU w v ix) (bW:ix[k]?=some es):
  ∃(b off c:Nat) (u:Value),v=.slice (some ⟨b,off,none⟩) ix.length c/\k<ix.length/\w.cell? ⟨b,off+k,none⟩=some u/\wG w u es:=by
 obtain⟨A,c,rfl,eV,hm,hA⟩:=h;obtain⟨b,off,u,rfl,hc,dB⟩:=hA k es bW;exact⟨b,off,c,u,rfl,an bW,hc,dB⟩
theorem iZ (ve vi vn:Value) (n:ak) (k:Nat) (es:List (Int×Int)) (w:World) (h:aQ w ve vi vn n) (bW:n.ends[k]?=some es) (rK:es.length<=1000000):
  Calls Tryz.prog 186 #[.agg #[ve,vi,vn],.int .i64 k] w fun e w'=>∃u,e=.returned u/\Own w' w.heap.size u (es.map (·.1))/\Below w.heap.size w w':=by
 obtain⟨w0,A,c,A2,c2,A3,c3,rfl,rfl,rfl,eV,hm,fJ,fB,HA,bK,aT,H,dL,dR,dU⟩:=zB h;clear h
 obtain⟨b,off,c',u,hA,hk,dS,dB⟩:=gy H.out.es bW;cases hA;obtain⟨A1,z1,rfl,dV,d8,g_⟩:=dB;unfold maxLen at d8;have r1:=ae dS;have r9:=zh g_;clear dS g_ bW
 go_enter Tryz.func186,Tryz.ntmps186
 go_upto_region 1 with(fail);rw[<- bK.out];have bB:aa w0 w0:=ad _;go_wp2
 go_loopw [5,14] (fun u i wr=>∃j:Nat,j<=es.length/\i=.int .i64 j/\Own wr w0.heap.size u ((es.take j).map (·.1))/\aa w0 wr) (fun _ i _=>es.length-(intOf i).toNat)
 case atStart=>exact⟨0,Nat.zero_le _,rfl,by simpa using bH w0 w0.heap.size,bB⟩
 case round=>
  obtain⟨j,hj,rfl,ho,hs⟩:=hrel;have Ho:=zh ho;clear bB ho
  by_cases hlt:j<es.length
  ·obtain⟨⟨x1,x2⟩,hx⟩:=aM es j hlt;obtain⟨b1,oZ,rfl,j6,iq⟩:=r9.out j _ hx;have t1:=ae j6;have t2:=ae iq;have Hx:=zh hx;clear hx j6 iq
   have hlen:((es.take j).map (·.1)).length+1<=17592186044416:=by simp;omega
   have cJ:=zh hlen;clear hlen
   go_wp2_with (at_builtin;refine dy rfl _ _ rfl rfl (Ho.out.since (ag _ (ag _ (ad _)))) (wr.heap.size+1) x1 rfl (by simp[go_sem]) cJ.out (ag _ (ag _ hs)) ?_;intro g cc w2 dl d_)
   have E2:Hid (((es.take j).map (·.1)).length=j):=by show _=_;simp;omega
   have e1:(es.take j).map (·.1)++[x1]=(es.take (j+1)).map (·.1):=by rw[bh Hx.out];simp
   rw[e1]at dl;have eX:=zh dl;have b_:=zh d_;clear dl d_ hs e1;go_wp2;go_roundw
   case rel=>exact⟨j+1,by omega,by go_num,by first | exact eX.out | (have:=eX.out;rw[E2.out]at this;exact this),b_.out⟩
   case measure=>simp[intOf];omega
  ·obtain rfl:j=es.length:=by omega
   go_wp2;go_ret
   exact⟨_,rfl,by have:=Ho.out;rw[List.take_length]at this;exact this.mono aT.out.size,aa.after aT.out hs⟩
def bt (ls:List Int) (es:List (Int×Int)):List Int:=es.map fun e=>ls.getD e.1.toNat 0
theorem wY {ls:List Int} {es:List (Int×Int)} {j:Nat} {x:Int×Int} {l y:Int} (hx:es[j]?=some x) (hg:ls.getD x.1.toNat 0=y):y∈l::bt ls es:=List.mem_cons_of_mem _ (List.mem_map.2 ⟨x,List.mem_of_getElem? hx,hg⟩)
theorem Qz {ls:List Int} {es:List (Int×Int)} {k:Nat} {l y:Int} (hk:ls[k]?=some l) (eU:∀e∈es,0<=e.1/\e.1<ls.length) (h:y∈l::bt ls es):y∈ls:=by
 rcases List.mem_cons.1 h with rfl | h
 ·exact List.mem_of_getElem? hk
 ·obtain⟨e,he,rfl⟩:=List.mem_map.1 h;obtain⟨h1,h2⟩:=eU e he
  have:e.1.toNat<ls.length:=by omega
  rw[zDd,List.getElem?_eq_getElem this];exact List.getElem_mem this
theorem sf (ve vi vn vl:Value) (n:ak) (ls:List Int) (k:Nat) (es:List (Int×Int)) (w:World) (h:aQ w ve vi vn n) (hl:aY w vl ls) (bW:n.ends[k]?=some es) (rK:es.length<=1000000) (eU:∀e∈es,0<=e.1/\e.1<ls.length):
  Calls Tryz.prog 146 #[.agg #[ve,vi,vn],.int .i64 k,vl] w fun e w'=>∃u,e=.returned u/\Own w' w.heap.size u (bt ls es)/\Below w.heap.size w w':=by
 obtain⟨w0,A,c,A2,c2,A3,c3,rfl,rfl,rfl,eV,hm,fJ,fB,HA,bK,aT,H,dL,dR,dU⟩:=zB h;clear h
 obtain⟨b,off,c',u,hA,hk,dS,dB⟩:=gy H.out.es bW;cases hA;obtain⟨A1,z1,rfl,dV,d8,g_⟩:=dB;unfold maxLen at d8;have r1:=ae dS;have r9:=zh g_;have HL:=zh (hl.keep aT.out);have rL:=zh eU;obtain⟨AL,cL,rfl,yX,nz,_⟩:=hl;unfold maxLen at nz;clear dS g_ bW eU
 go_enter Tryz.func146,Tryz.ntmps146
 go_upto_region 1 with(fail);rw[<- bK.out];have bB:aa w0 w0:=ad _;go_wp2
 go_loopw [7,16] (fun u i wr=>∃j:Nat,j<=es.length/\i=.int .i64 j/\Own wr w0.heap.size u (bt ls (es.take j))/\aa w0 wr) (fun _ i _=>es.length-(intOf i).toNat)
 case atStart=>exact⟨0,Nat.zero_le _,rfl,by simpa[bt]using bH w0 w0.heap.size,bB⟩
 case round=>
  obtain⟨j,hj,rfl,ho,hs⟩:=hrel;have Ho:=zh ho;clear bB ho
  by_cases hlt:j<es.length
  ·obtain⟨⟨x1,x2⟩,hx⟩:=aM es j hlt;obtain⟨b1,oZ,rfl,j6,iq⟩:=r9.out j _ hx;obtain⟨i1,i2⟩:=rL.out _ (List.mem_of_getElem? hx);simp only at i1 i2
   obtain⟨m1,bl,ol,cl,y,rfl,hv,rM,QE,iH,IM⟩:=hG HL.out i1 i2;cases hv;have t1:=ae j6;have t2:=ae iq;have t3:=ae IM;have Hx:=zh hx;have Hg:=zh iH;clear hx j6 iq IM QE iH
   have hlen:(bt ls (es.take j)).length+1<=17592186044416:=by simp[bt];omega
   have cJ:=zh hlen;have eP:=(aa.below hs).size;clear hlen
   go_wp2_with (at_builtin;refine dy rfl _ _ rfl rfl (Ho.out.since (ag _ (ag _ (ad _)))) (wr.heap.size+1) y rfl (by simp[go_sem]) cJ.out (ag _ (ag _ hs)) ?_;intro g cc w2 dl d_)
   have E2:Hid ((bt ls (es.take j)).length=j):=by show _=_;simp[bt];omega
   have e1:bt ls (es.take j)++[y]=bt ls (es.take (j+1)):=by rw[bh Hx.out];simp only[bt,List.map_append,List.map_cons,List.map_nil,Hg.out]
   rw[e1]at dl;have eX:=zh dl;have b_:=zh d_;clear dl d_ hs e1;go_wp2;go_roundw
   case rel=>exact⟨j+1,by omega,by go_num,by first | exact eX.out | (have:=eX.out;rw[E2.out]at this;exact this),b_.out⟩
   case measure=>simp[intOf];omega
  ·obtain rfl:j=es.length:=by omega
   go_wp2;go_ret
   exact⟨_,rfl,by have:=Ho.out;rw[List.take_length]at this;exact this.mono aT.out.size,aa.after aT.out hs⟩
theorem JT (b:Bool) (w:World):Calls Tryz.prog 90 #[.bool b] w fun e w'=>e=.returned (.int .i64 (if b then 1 else 0))/\w=w':=by
 cases b
 ·go_enter Tryz.func90,Tryz.ntmps90
  go_wp2;go_ret;exact⟨rfl,rfl⟩
 ·go_enter Tryz.func90,Tryz.ntmps90
  go_wp2;go_ret;exact⟨rfl,rfl⟩
theorem Own.cut {w:World} {base g n c:Nat} {xs:List Int} (h:Own w base (.slice (some ⟨g,0,none⟩) n c) xs) (i:Nat) (hi:i<=n):Own w base (.slice (some ⟨g,0,none⟩) i c) (xs.take i):=by
 obtain rfl:=h.len
 unfold Own at *
 have hl:(xs.take i).length=i:=by simp;omega
 rw[hl];rcases h.2 with⟨h',_⟩ | ⟨g',cap,cur,h',hb,hg,vG,hm,lT,wm⟩
 ·simp at h'
 ·simp only[Value.slice.injEq,Option.some.injEq,Addr.mk.injEq,and_true,true_and]at h';obtain⟨rfl,rfl,rfl⟩:=h'
  refine⟨by simp;omega,.inr ⟨g,c,cur,rfl,hb,hg,by omega,hm,lT,?_⟩⟩
  rw[List.map_take,<- wm,List.take_take];congr 1
  simp;omega
theorem Own.clear {base g n c:Nat} (m:Nat):∀ {w:World} {xs:List Int} (o:Nat),Own w base (.slice (some ⟨g,0,none⟩) n c) xs->∃ys,Own (w.setCells g o (List.replicate m (.int .i64 0))) base (.slice (some ⟨g,0,none⟩) n c) ys/\ys.take o=xs.take o:=by
 induction m with
 | zero=>intro w xs o h;exact⟨xs,h,rfl⟩
 | succ m ih=>
  intro w xs o h;obtain⟨ys,h1,h2⟩:=ih (o+1) (h.set (k:=o) 0);refine⟨ys,h1,?_⟩
  have:=congrArg (List.take o) h2
  rw[List.take_take,List.take_take,Nat.min_eq_left (by omega)]at this;rw[this];apply List.ext_getElem?
  intro j;rw[List.getElem?_take,List.getElem?_take]
  split
  ·rw[List.getElem?_set_ne (by omega)]
  ·rfl
theorem De {w0:World} {g:Nat} (hg:w0.heap.size<=g) (vs:List Value):∀(w:World) (o:Nat),aa w0 w->aa w0 (w.setCells g o vs):=by
 induction vs with
 | nil=>intro w o h;exact h
 | cons v vs ih=>intro w o h;exact ih _ _ (Below.setCell h hg v)
def fc (p:Int->Bool) (xs:List Int):List Int:=xs.filter fun x => !p x
theorem vM (p:Int->Bool) (xs:List Int):(fc p xs).length<=xs.length:=List.length_filter_le _ _
theorem wZ (v:Value) (xs:List Int) (gH:FuncId) (dF:Array Value) (p:Int->Bool) (w w0:World) (h:Own w w0.heap.size v xs) (hs:aa w0 w) (hl:xs.length<=17592186044416) (iW:∀args w,(callFunc gH args).run Tryz.prog w=.ok (.enter gH args) w)
  (hp:oS w0 gH dF p xs):Calls Tryz.prog 100 #[v,.func (.func gH) #[] dF] w fun e w'=>∃u,e=.returned u/\Own w' w0.heap.size u (fc p xs)/\aa w0 w':=by
 have Hp:=zh hp;have HI:=zh h.ints;have hI:=qw v xs gH dF p w h.ints iW (hp.keep hs);have HIF:=zh hI;have eg:=iW;cases oU:xs.any p
 ·have e1:Bc p xs = -1:=zI oU
  have e2:fc p xs=xs:=by
   unfold fc;rw[List.filter_eq_self];intro x hx;rw[List.any_eq_false]at oU;simpa using oU x hx
  rw[e2];rw[e1]at HIF;have Ho:=zh h;have Hs:=zh hs;clear h hs hI oU e1 e2 hp iW
  go_enter Tryz.func100,Tryz.ntmps100
  go_wp2_with fail;refine HIF.out.mono ?_;rintro e w1 ⟨rfl,ay⟩;have eD:=zh ay;clear ay;go_wp2;go_ret;exact⟨_,rfl,Ho.out.keep eD.out,aa.trans Hs.out eD.out⟩
 ·rcases h.cases with⟨rfl,rfl⟩ | ⟨g,c,rfl,iH,lh⟩
  ·simp at oU
  ·obtain⟨k0,x0,ID,tr,iA⟩:∃k x,xs[k]?=some x/\p x=true/\(xs.take k).any p=false:=by
    cases hf:xs.findIdx? p with
    | none=>
     rw[List.findIdx?_eq_none_iff]at hf;rw[List.any_eq_true]at oU;obtain⟨x,hx,CU⟩:=oU
     rw[hf x hx]at CU;cases CU
    | some i=>
     rw[List.findIdx?_eq_some_iff_getElem]at hf;obtain⟨hi,SN,bZ⟩:=hf;refine⟨i,xs[i],List.getElem?_eq_getElem hi,SN,?_⟩;rw[List.any_eq_false];intro x hx;obtain⟨j,hj,rfl⟩:=List.mem_take_iff_getElem.1 hx;simpa using bZ j (by omega)
   have e1:Bc p xs=k0:=wu ID tr iA;have adG:=an ID
   have e2:fc p (xs.take (k0+1))=xs.take k0:=by
    rw[bh ID];unfold fc
    rw[List.filter_append,List.filter_eq_self.2 (fun x hx=>by rw[List.any_eq_false]at iA;simpa using iA x hx)]
    simp[tr]
   rw[e1]at HIF;have hm:=h.bd;unfold maxLen at hm;have Ho:=zh h;have Hs:=zh hs;have E2:=zh e2;have yY:((k0:Int) == -1)=false:=beq_eq_false_iff_ne.2 (by omega)
   have rK:Hid (∀j,(fc p (xs.take j)).length<=j):=fun j=>Nat.le_trans (vM _ _) (by simp;omega)
   clear h hs hI oU e1 e2 hp iW ID tr iA
   go_enter Tryz.func100,Tryz.ntmps100
   go_wp2_with fail;refine HIF.out.mono ?_;rintro e w1 ⟨rfl,ay⟩;have eD:=zh ay;clear ay;go_wp2
   go_loopw [5,6] (fun i j wr=>∃(jn:Nat) (ys:List Int),k0<jn/\jn<=xs.length/\j=.int .i64 jn/\i=.int .i64 ((fc p (xs.take jn)).length:Nat)/\(fc p (xs.take jn)).length<jn/\Own wr w0.heap.size (.slice (some ⟨g,0,none⟩) xs.length c) ys/\ys.length=xs.length/\ys.take (fc p (xs.take jn)).length=fc p (xs.take jn)/\ys.drop jn=xs.drop jn/\aa w0 wr) (fun _ j _=>xs.length-(intOf j).toNat)
   case atStart=>
    have e3:(fc p (xs.take (k0+1))).length=k0:=by rw[E2.out];simp;omega
    exact⟨k0+1,xs,by omega,by omega,by go_num,by rw[e3],by omega,Ho.out.keep eD.out,rfl,by rw[e3,E2.out],rfl,aa.trans Hs.out eD.out⟩
   case round=>
    obtain⟨jn,ys,uf,yQ,rfl,rfl,CW,ho,IN,ht,IJ,bA⟩:=hrel
    generalize hi:(fc p (xs.take jn)).length=i at *
    have eX:=zh ho;have FI:=zh IN;have Ht:=zh ht;have Hdr:=zh IJ;have Hi:=zh hi;have nA:=zh bA
    by_cases hlt:jn<xs.length
    ·obtain⟨x,hx⟩:=aM xs jn hlt
     have zP:ys[jn]?=some x:=by
      have:=congrArg (fun l=>l[0]?) IJ
      simp only[List.getElem?_drop,Nat.add_zero]at this
      rw[this];exact hx
     have cx:=ho.cell zP;obtain⟨z,hz⟩:=aM ys i (by omega);have cz:=ho.cell hz;have fz:=ho.free i;have Hx:=zh hx
     have WI:Hid (fc p (xs.take (jn+1))=fc p (xs.take jn)++if p x then [] else [x]):=by
      show _=_
      rw[bh hx];unfold fc;rw[List.filter_append];congr 1
      cases CU:p x <;> simp[CU]
     clear ho IN ht IJ hi bA hx zP hz;cases CU:p x
     ·have JK:=zh CU;clear CU;go_wp2_with fail;refine(Hp.out x (List.mem_of_getElem? Hx.out) _ nA.out).mono ?_;rintro e w2 ⟨rfl,bj⟩;rw[JK.out];have eH:=eX.out.keep bj;have cz2:=bc bj cz;have fz2:=eH.free i;have i8:=zh (eH.set (k:=i) x);have ew:=zh (Below.setCell (p:=⟨g,i,none⟩) (aa.trans nA.out bj) iH (.int .i64 x));clear bj eH cz cx fz;go_wp2;go_roundw
      case rel=>
       refine⟨jn+1,ys.set i x,by omega,by omega,by go_num,?_,?_,i8.out,by simp[FI.out],?_,?_,ew.out⟩
       ·rw[WI.out,JK.out];simp[Hi.out]
       ·rw[WI.out,JK.out];simp[Hi.out];omega
       ·rw[WI.out,JK.out];simp only[Bool.false_eq_true,if_false,List.length_append,List.length_cons,List.length_nil,Nat.zero_add,Hi.out]
        have iJ:(ys.set i x)[i]?=some x:=by rw[List.getElem?_set_self (by have:=FI.out;omega)]
        rw[bh iJ];congr 1
        rw[<- Ht.out];apply List.ext_getElem?
        intro q;rw[List.getElem?_take,List.getElem?_take]
        split
        ·rw[List.getElem?_set_ne (by omega)]
        ·rfl
       ·have:=congrArg (List.drop 1) Hdr.out
        rw[List.drop_drop,List.drop_drop]at this;rw[<- this];apply List.ext_getElem?
        intro q;rw[List.getElem?_drop,List.getElem?_drop,List.getElem?_set_ne (by omega)]
      case measure=>simp[intOf];omega
     ·have JK:=zh CU;clear CU;go_wp2_with fail;refine(Hp.out x (List.mem_of_getElem? Hx.out) _ nA.out).mono ?_;rintro e w2 ⟨rfl,bj⟩;rw[JK.out];have i8:=zh (eX.out.keep bj);have ew:=zh (aa.trans nA.out bj);clear bj cz cx fz;go_wp2;go_roundw
      case rel=>
       refine⟨jn+1,ys,by omega,by omega,by go_num,by rw[WI.out,JK.out];simp[Hi.out],by rw[WI.out,JK.out];simp[Hi.out];omega,i8.out,FI.out,by rw[WI.out,JK.out];simp[Hi.out,Ht.out],?_,ew.out⟩
       have:=congrArg (List.drop 1) Hdr.out
       rwa [List.drop_drop,List.drop_drop]at this
      case measure=>simp[intOf];omega
    ·obtain rfl:jn=xs.length:=by omega
     have d9:∀ty,(Builtin.clear_ #[25] ty #[.slice (some ⟨g,i,none⟩) (xs.length-i) (c-i)]).run Tryz.prog wr=.ok (.tuple #[]) (wr.setCells g i (List.replicate (xs.length-i) (.int .i64 0))):=
      fun ty=>Lib.run_clear_slice wr _ _ ty _ Tryz.underlying25 (fun w=>by kernel_rfl) rfl rfl g i _ _ (by omega) (fun t ht'=>by
       obtain⟨z,hz⟩:=aM ys (i+t) (by omega)
       rw[ho.cell hz];rfl) (fun t ht'=>ho.free _)
     obtain⟨zs,dV,d8⟩:=ho.clear (m:=xs.length-i) (w:=wr) i;have JU:=zh (dV.cut i (by omega));have EZ:=zh d8;have ew:=zh (De iH (List.replicate (xs.length-i) (.int .i64 0)) wr i bA)
     have vG:xs.length<=c/\c<=9223372036854775807:=by
      rcases ho.2 with⟨h',_⟩ | ⟨g',cap,cur,h',hb,hg,vG,hm,lT,wm⟩
      ·simp at h'
      ·simp only[Value.slice.injEq,Option.some.injEq,Addr.mk.injEq,and_true]at h';unfold maxLen at hm;omega
     obtain⟨vG,LM⟩:=vG;have hic:i<=c:=by omega
     clear ho IN ht IJ hi bA dV d8 hlt uf yQ hl;go_wp2;go_ret;refine⟨_,rfl,?_,ew.out⟩;have h1:=JU.out;rw[EZ.out,Ht.out,List.take_length]at h1;exact h1
theorem Own.grown {w w':World} {base:Nat} {v:Value} {xs:List Int} {row:Option Nat} (h:Own w base v xs) (hg:w.grownBy w' row) (hd:∀q,v.ownBlock=some q->row≠some q):Own w' base v xs:=
 aK h fun q hq=>hg.block q (World.ownsRow.lt h q (by simpa using hq)).2 (fun e=>hd q (by simpa using hq) e.symm)
theorem Df {w:World} {ops:Array Oper} {rest:List Oper} {o:Oper} {a:Act} {Q:Exit->Act->World->Prop} (iY:o.guard=none) (s x:Operand)
  (ho:o.op=.call { callee:=.builtin .append,args:=#[s,x],argTypes:=#[25,25] }) {base:Nat} {v:Value} {xs:List Int} (hs:a.eval s=v) (h:Own w base v xs) (b off c:Nat) (ys:List Int)
  (hx:a.eval x=.slice (some ⟨b,off,none⟩) ys.length c) (hc:∀j y,ys[j]?=some y->w.cell? ⟨b,off+j,none⟩=some (.int .i64 y)) (hy:0<ys.length) (hl:xs.length+ys.length<=17592186044416) (ld:base<=w.heap.size)
  (k:∀g cap w',Own w' base (.slice (some ⟨g,0,none⟩) (xs.length+ys.length) cap) (xs++ys)->w.grownBy w' v.ownBlock->(v.ownBlock=some g\/g=w.heap.size)->g<w'.heap.size->wpList Tryz.prog ops Q rest (a.put o.dst (.slice (some ⟨g,0,none⟩) (xs.length+ys.length) cap)) w'):wpList Tryz.prog ops Q (o::rest) a w:=by
 obtain⟨i0,hi,il,dV,d8⟩:=info_parts kZ
 refine wpList_append_lies w iY s x 25 ho base 3 i0 (.int .i64 0) 1 8 Tryz.underlying25 hi il dV d8 rfl (by decide) v xs.length (xs.map (Value.int .i64)) hs h ⟨b,off,none⟩ ys.length c (ys.map (Value.int .i64)) hx (by simp)
  (by
   intro j u hj;rw[List.getElem?_map]at hj
   cases hyj:ys[j]? with
   | none=>rw[hyj]at hj;simp at hj
   | some y=>
    rw[hyj]at hj;simp at hj
    subst hj;rw[Go.Addr.add_lit]
    exact hc j y hyj) (by simp[Value.oneCell']) hy (by unfold maxLen;omega) (by omega) ld w.heap.size rfl ?_
 intro g cap w' h1 h2 h3 h4;refine k g cap w' ?_ h2 h3 h4;unfold Own;simpa using h1
theorem JV (v:Value) (xs:List Int) (w:World) (h:aY w v xs) (WF:0<xs.length) (hl:xs.length<=17592186044416):
  Calls Tryz.prog 179 #[v] w fun e w'=>∃u,e=.returned u/\Own w' w.heap.size u xs/\Below w.heap.size w w':=by
 obtain⟨A,c,rfl,eV,hm,hA⟩:=h;unfold maxLen at hm;have ho:=gU w [] (by simp[maxLen]);simp only[List.map_nil,List.length_nil]at ho;obtain⟨y0,CD⟩:=aM xs 0 (by omega);obtain⟨b,off,rfl,_⟩:=hA 0 y0 CD
 have HA:Hid (∀j y,xs[j]?=some y->w.cell? ⟨b,off+j,none⟩=some (.int .i64 y)):=fun j y hj=>by
  obtain⟨b',oY,e,hc⟩:=hA j y hj;cases e;exact hc
 have Ho:=zh ho;clear hA CD ho
 go_enter Tryz.func179,Tryz.ntmps179
 go_wp2_with (at_builtin;refine Df rfl _ _ rfl rfl Ho.out b off c xs rfl (fun j y hj=>bc (am _ _) (HA.out j y hj)) WF (by simpa using hl) (by simp) ?_;intro g cc w2 dl lh _ _)
 simp only[List.length_nil,Nat.zero_add,List.nil_append]at dl ⊢
 have eX:=zh dl;have vc:Hid (Below w.heap.size w w2):=(am w _).grown lh (by simp) (fun j hj=>(World.ownsRow.lt Ho.out j hj).1)
 clear dl lh;go_wp2;go_ret;exact⟨_,rfl,eX.out,vc.out⟩
def l0 (w:World) (k:Nat):World:={ w with heap:=w.heap.extract 0 k }
theorem li (w:World) {k:Nat} (hk:k<=w.heap.size):(l0 w k).heap.size=k:=by simp[l0];omega
theorem pd (w:World) {k:Nat} (hk:k<=w.heap.size):aa (l0 w k) w:=by
 refine⟨rfl,rfl,rfl,by rw[li w hk];exact hk,fun i hi=>?_⟩
 rw[li w hk]at hi;simp[l0,Array.getElem?_extract]
 omega
theorem uh {w0 w:World} {k:Nat} (h:aa w0 w) (hk:k<=w.heap.size) (h0:w0.heap.size<=k):aa w0 (l0 w k):=by
 refine⟨h.os,h.tape,h.output,by rw[li w hk];exact h0,fun i hi=>?_⟩
 have:=h.block i hi
 simp only[l0,Array.getElem?_extract];rw[if_pos (by omega)];simpa using this
def bx (W:World) (b:Nat) (x y z:Value):Prop:=W.heap[b]?=some (.cells #[x,y,z] 27)
theorem bx.box {W:World} {b:Nat} {x y z:Value} (h:bx W b x y z):bD W b x y z:=⟨_,h⟩
theorem bx.lt {W:World} {b:Nat} {x y z:Value} (h:bx W b x y z):b<W.heap.size:=(Array.getElem?_eq_some_iff.1 h).1
theorem bx.since {W W':World} {b:Nat} {x y z:Value} (h:bx W b x y z) (hs:aa W W'):bx W' b x y z:=(hs.block b h.lt).trans h
def ts (W:World) (B:Nat) (u:Value):Prop:=∃b,u=.pointer (some ⟨b,0,none⟩)/\B<=b/\bx W b (.slice none 0 0) (.slice none 0 0) (.slice none 0 0)
theorem ts.keep {W W':World} {B:Nat} {u:Value} (h:ts W B u) (hs:aa W W'):ts W' B u:=by
 obtain⟨b,h1,h2,h3⟩:=h;exact⟨b,h1,h2,h3.since hs⟩
theorem ts.new (W:World) {B:Nat} (h:B<=W.heap.size):ts (W.alloc (.cells #[.slice none 0 0,.slice none 0 0,.slice none 0 0] 27)) B (.pointer (some ⟨W.heap.size,0,none⟩)):=
 ⟨_,rfl,h,by show(W.heap.push _)[W.heap.size]?=_;rw[Array.getElem?_push_size]⟩
theorem vN {W:World} {base b:Nat} {v x y z:Value} {xs:List Int} (h:Own W base v xs) (hb:bx W b x y z):v.ownBlock≠some b:=by
 rcases h.2 with⟨rfl,_⟩ | ⟨g,cap,cur,rfl,_,hc,_⟩
 ·simp[Value.ownBlock]
 ·intro e;simp[Value.ownBlock]at e
  subst e;unfold bx at hb;rw[hb]at hc;simp at hc
theorem JW {w w0:World} {ops:Array Oper} {rest:List Oper} {o:Oper} {a:Act} {Q:Exit->Act->World->Prop} (iY:o.guard=none) (s x:Operand)
  (ho:o.op=.call { callee:=.builtin .append,args:=#[s,x],argTypes:=#[81,81] }) {v u:Value} {xs ys:List (Int×Int)} {T:List Nat} (hs:a.eval s=v) (h:eO w w0.heap.size v xs T) (hy:wG w u ys)
  (hx:a.eval x=u) (hl:xs.length+ys.length<=1000000) (yD:aa w0 w)
  (k:∀v' w' T',eO w' w0.heap.size v' (xs++ys) T'->(∀j∈T',j∈T\/j=w.heap.size)->bg T w w'->aa w0 w'->wpList Tryz.prog ops Q rest (a.put o.dst v') w'):wpList Tryz.prog ops Q (o::rest) a w:=by
 obtain⟨i0,hi,il,dV,d8⟩:=info_parts C7;obtain⟨A,c,rfl,_,_,hA⟩:=hy;have hlt:=fun q hq=>World.ownsRow.lt h.1 q hq
 rcases Nat.eq_zero_or_pos ys.length with h0 | h0
 ·have w_:ys=[]:=List.eq_nil_of_length_eq_zero h0;subst w_;refine wpList_plain iY fun K hK=>?_
  have dH:(Builtin.append_ #[81,81] o.type #[v,.slice A 0 c]).run Tryz.prog w=.ok v w:=by
   rcases h.1.2 with⟨rfl,tr⟩ | ⟨g,cap,cur,rfl,_,_,vG,_⟩
   ·cases A <;> simp[Builtin.append_,run_underlying Tryz.underlying81,sizeOf,typeInfo,hi,Builtin.lenOf,Builtin.firstCells,loadCells,loadCellsFrom,Result.andThen]
   ·cases A <;> simp[Builtin.append_,run_underlying Tryz.underlying81,sizeOf,typeInfo,hi,Builtin.lenOf,Builtin.firstCells,vG,storeCells,loadCells,loadCellsFrom,Result.andThen]
  simp only[List.length_nil]at hx;unfold Oper.wp;simp[execOp,ho,resolve,invoke,builtin,hs,hx,dH,Result.andThen]
  exact hK _ _ (k v w T (by simpa using h) (fun j hj=>.inl hj) (bg.refl _ _) yD)
 ·obtain⟨y0,CD⟩:=aM ys 0 h0;obtain⟨b,off,rfl,_⟩:=hA 0 y0 CD
  refine wpList_append_lies w iY s x 81 ho w0.heap.size 83 i0 _ 2 16 Tryz.underlying81 hi il dV d8 rfl (by decide) v xs.length (xs.flatMap oW) hs h.1 ⟨b,off,none⟩ ys.length c (ys.flatMap oW) hx (CX ys)
   (by
    intro j u hj;have yQ:=an hj;rw[CX]at yQ;obtain⟨e,he⟩:=aM ys (j/2) (by omega);obtain⟨b',oY,e',c1,c2⟩:=hA (j/2) e he;cases e';obtain⟨g1,g2⟩:=oX he;rw[Go.Addr.add_lit];rcases Nat.mod_two_eq_zero_or_one j with hm | hm
    ·have e1:j/2*2=j:=by omega
     rw[e1]at c1 g1;rw[g1]at hj
     rw[c1];exact hj
    ·have e1:j/2*2+1=j:=by omega
     rw[e1]at g2;rw[show off+j/2*2+1=off+j by omega]at c2
     rw[g2]at hj
     rw[c2];exact hj) (by intro u hu;obtain⟨x,_,hx⟩:=List.mem_flatMap.1 hu;simp[oW]at hx;rcases hx with rfl | rfl <;> rfl) h0 (by unfold maxLen;omega) (by omega) yD.below.size w.heap.size rfl ?_
  intro g cap w' q1 q2 q3 q4;have hT:=h.2
  refine k _ w' _ ⟨?_,rfl⟩ ?_ (by rw[hT];exact bg.aee q2) (Below.grown yD q2 yD.below.size (fun q hq=>(hlt q hq).1))
  ·rw[List.flatMap_append,List.length_append];exact q1
  ·intro j hj;simp[Value.ownBlock]at hj
   subst hj;rcases q3 with q3 | q3
   ·left;rw[hT,q3];simp
   ·exact .inr q3
theorem ca.aeP {β:Type} {R:World->Nat->Value->β->List Nat->Prop} {e:TypeId} (L:fL R) {w w':World} {base g cap:Nat} {v u:Value} {xs:List β} {x:β} {S T:List Nat} (h:ca e R w base v xs S) (hu:R w base u x T) (hd:∀j∈T,j∉S)
  (vs:List Value) (Ss:List (List Nat)) (h1:w.ownsRow base e 1 v xs.length vs) (h2:Ss.length=xs.length) (h3:∀(k:Nat) u x T,vs[k]?=some u->xs[k]?=some x->Ss[k]?=some T->R w base u x T) (h4:S=v.ownBlock.toList++Ss.flatten) (h5:S.Nodup)
  (q1:w'.ownsRow base e 1 (.slice (some ⟨g,0,none⟩) (xs.length+1) cap) (xs.length+1) (vs++[u])) (q2:w.grownBy w' v.ownBlock) (q3:v.ownBlock=some g\/g=w.heap.size):
  ∃S',ca e R w' base (.slice (some ⟨g,0,none⟩) (xs.length+1) cap) (xs++[x]) S'/\(∀j∈S',j∈S\/j∈T\/j=w.heap.size):=by
 have hS:=(k8 e L).range h;have hTr:=L.range hu;have hvl:vs.length=xs.length:=by simpa using h1.1
 have wH:=h5;rw[h4,List.nodup_append]at wH
 have eU:∀j∈Ss.flatten,j∈S:=fun j hj=>by rw[h4];exact List.mem_append_right _ hj
 have eY:=bg.aee q2;have MM:∀j∈Ss.flatten,j∉v.ownBlock.toList:=fun j hj hv=>wH.2.2 j hv j hj rfl
 have XR:∀j∈T,j∉v.ownBlock.toList:=fun j hj hv=>hd j hj (by rw[h4];exact List.mem_append_left _ hv)
 have hg:g∉Ss.flatten:=fun hg=>by
  rcases q3 with q3 | q3
  ·exact MM g hg (by rw[q3];simp)
  ·have:=(hS g (eU g hg)).2;omega
 have Mp:g∉T:=fun hg=>by
  rcases q3 with q3 | q3
  ·exact XR g hg (by rw[q3];simp)
  ·have:=(hTr g hg).2;omega
 refine⟨[g]++(Ss++[T]).flatten,⟨vs++[u],Ss++[T],?_,by simp[h2],?_,by simp[Value.ownBlock],?_⟩,?_⟩
 ·rw[List.length_append];exact q1
 ·intro k u' x' T' CA EW tf;rcases Nat.lt_or_ge k xs.length with hk | hk
  ·rw[List.getElem?_append_left (by omega)]at CA EW tf;exact L.only (h3 k u' x' T' CA EW tf) eY (fun j hj=>MM j (List.mem_flatten.2 ⟨T',List.mem_of_getElem? tf,hj⟩))
  ·have lc:k=xs.length:=by
    have:=an EW
    simp at this;omega
   subst lc;rw[List.getElem?_append_right (Nat.le_refl _),Nat.sub_self]at EW;rw[<- hvl,List.getElem?_append_right (Nat.le_refl _),Nat.sub_self]at CA;rw[<- h2,List.getElem?_append_right (Nat.le_refl _),Nat.sub_self]at tf;simp at CA EW tf
   subst CA EW tf;exact L.only hu eY XR
 ·rw[List.flatten_append,List.nodup_append];refine⟨by simp,?_,?_⟩
  ·rw[List.nodup_append];refine⟨wH.2.1,by simpa using L.nodup hu,?_⟩
   intro a ha b hb e;simp at hb
   subst e;exact hd a hb (eU a ha)
  ·intro a ha b hb e;simp at ha
   subst e ha;rcases List.mem_append.1 hb with hb | hb
   ·exact hg hb
   ·simp at hb;exact Mp hb
 ·intro j hj;rw[List.flatten_append]at hj;rcases List.mem_append.1 hj with hj | hj
  ·simp at hj
   subst hj;rcases q3 with q3 | q3
   ·left;rw[h4,q3];simp
   ·exact .inr (.inr q3)
  ·rcases List.mem_append.1 hj with hj | hj
   ·exact .inl (eU j hj)
   ·simp at hj;exact .inr (.inl hj)
theorem sg {w wT:World} {ops:Array Oper} {rest:List Oper} {o:Oper} {a:Act} {Q:Exit->Act->World->Prop} (iY:o.guard=none) (s x:Operand)
  (ho:o.op=.call { callee:=.builtin .append,args:=#[s,x],argTypes:=#[24,24] }) {base:Nat} {v ui un u:Value} {N:ak} {S T:List Nat} {es:List (Int×Int)} (hs:a.eval s=v) (h:az w base v ui un N S)
  (b:Nat) (hx:a.eval x=.slice (some ⟨b,0,none⟩) 1 1) (hc:w.cell? ⟨b,0,none⟩=some u) (hu:eO w base u es T) (hd:∀j∈T,j∉S) (hl:N.ends.length+1<=1000000) (yD:aa wT w) (CE:base<=w.heap.size) (hvT:∀q,v.ownBlock=some q->wT.heap.size<=q)
  (k:∀v' w' S',(∀q,v'.ownBlock=some q->v.ownBlock=some q\/q=w.heap.size)->az w' base v' ui un { N with ends:=N.ends++[es] } S'->(∀j∈S',j∈S\/j∈T\/j=w.heap.size)->bg S w w'->aa wT w'->wpList Tryz.prog ops Q rest (a.put o.dst v') w'):wpList Tryz.prog ops Q (o::rest) a w:=by
 obtain⟨i0,hi,il,dV,d8⟩:=info_parts II;have vJ:=h.range;obtain⟨S1,S2,S3,h1,h2,h3,h4,h5⟩:=h;have h1b:=h1;obtain⟨vs,Ss,r1,r2,r3,r4,r5⟩:=h1;obtain⟨A,m,c,rfl⟩:=ip.one hu
 refine wpList_append_lies w iY s x 24 ho base 81 i0 _ 1 24 Tryz.underlying24 hi il dV d8 rfl (by decide) v N.ends.length vs hs r1 ⟨b,0,none⟩ 1 1 [.slice A m c] hx rfl
  (by intro j u hj;match j,hj with | 0,hj=>(simp at hj;subst hj;simpa[Addr.add]using hc) | j+1,hj=>simp at hj) (by simp[Value.oneCell']) (by omega) (by unfold maxLen;omega) (by omega) CE w.heap.size rfl ?_
 intro g cap w' q1 q2 q3 q4;rw[h4,List.nodup_append]at h5;obtain⟨n1,n2,n3⟩:=h5
 have j6:∀j∈T,j∉S1:=fun j hj hS=>hd j hj (by rw[h4];exact List.mem_append_left _ hS)
 obtain⟨WH,o1,qg⟩:=ca.aeP ip h1b hu j6 vs Ss r1 r2 r3 r4 r5 q1 q2 q3;have eY:=bg.aee q2
 have hvS:∀j∈v.ownBlock.toList,j∈S1:=fun j hj=>by rw[r4];exact List.mem_append_left _ hj
 have d:∀j∈S2++S3,j∉v.ownBlock.toList:=fun j hj hv=>n3 j (hvS j hv) j hj rfl
 refine k _ w' (WH++(S2++S3)) (fun q hq=>by simp[Value.ownBlock]at hq;subst hq;exact q3) ⟨WH,S2,S3,?_,iy.only h2 eY (fun j hj=>d j (List.mem_append_left _ hj)),iy.only h3 eY (fun j hj=>d j (List.mem_append_right _ hj)),rfl,?_⟩ ?_ (eY.mono fun j hj=>by rw[h4];exact List.mem_append_left _ (hvS j hj)) (Below.grown yD q2 yD.below.size hvT)
 ·exact o1
 ·rw[List.nodup_append];refine⟨lV.nodup o1,n2,fun a ha b hb te=>?_⟩
  subst te;rcases qg a ha with h | h | h
  ·exact n3 a h a hb rfl
  ·exact hd a h (by rw[h4];exact List.mem_append_right _ hb)
  ·have:=(vJ a (by rw[h4];exact List.mem_append_right _ hb)).2
   omega
 ·intro j hj;rcases List.mem_append.1 hj with hj | hj
  ·rcases qg j hj with h | h | h
   ·exact .inl (by rw[h4];exact List.mem_append_left _ h)
   ·exact .inr (.inl h)
   ·exact .inr (.inr h)
  ·exact .inl (by rw[h4];exact List.mem_append_right _ hj)
theorem az.aep {w:World} {base g c n:Nat} {vi vn:Value} {N:ak} {S:List Nat} (h:az w base (.slice (some ⟨g,0,none⟩) n c) vi vn N S) {k j:Nat} {es:List (Int×Int)} (hx:N.ends[k]?=some es) (hj:j<es.length):
  ∃gr cr,w.cell? ⟨g,k,none⟩=some (.slice (some ⟨gr,0,none⟩) es.length cr)/\es.length<=cr/\cr<=maxLen/\g∈S/\gr∈S/\g≠gr/\(w.frozen? ⟨gr,j*2,none⟩=false/\w.frozen? ⟨gr,j*2+1,none⟩=false)/\(∃z,w.cell? ⟨gr,j*2,none⟩=some z)/\(∃z,w.cell? ⟨gr,j*2+1,none⟩=some z) /\
   ∀y:Int×Int,az ((w.setCell ⟨gr,j*2,none⟩ (.int .i64 y.1)).setCell ⟨gr,j*2+1,none⟩ (.int .i64 y.2)) base (.slice (some ⟨g,0,none⟩) n c) vi vn { N with ends:=N.ends.set k (es.set j y) } S:=by
 obtain⟨S1,S2,S3,h1,h2,h3,h4,h5⟩:=h;obtain⟨u,T,hu,hR,hT,ox⟩:=ca.aeM ip h1 hx;have hnd:=(k8 _ ip).nodup h1;obtain⟨_,_,_,_,_,XS,_,iH⟩:=ca.at_ h1 hx;rw[h4,List.nodup_append]at h5;obtain⟨n1,n2,n3⟩:=h5;have hR':=hR.1;rcases dz hR.1 with⟨rfl,h0⟩ | ⟨gr,cr,rfl,ay,bj,bN,tn⟩
 ·omega
 ·have Uc:gr∈T:=by rw[hR.2];simp[Value.ownBlock]
  obtain⟨y0,CD⟩:=aM es j hj;obtain⟨c1,c2,ff⟩:=eO.cells hR CD
  have gM:g≠gr:=fun e=>by
   subst e;obtain⟨vs,Ss,e1,_⟩:=h1;rcases e1.2 with⟨h0,_⟩ | ⟨q',yP,XT,h0,_,MN,_⟩
   ·cases h0
   ·cases h0;rcases hR'.2 with⟨h0,_⟩ | ⟨q'',adC,adD,h0,_,XU,_⟩
    ·cases h0
    ·cases h0;rw[MN]at XU;simp at XU
  refine⟨gr,cr,hu,bN,tn,by rw[h4];exact List.mem_append_left _ iH,by rw[h4];exact List.mem_append_left _ (hT gr Uc),gM,ff,⟨_,c1⟩,⟨_,c2⟩,fun y=>?_⟩
  have eY:bg T w ((w.setCell ⟨gr,j*2,none⟩ (.int .i64 y.1)).setCell ⟨gr,j*2+1,none⟩ (.int .i64 y.2)):=((bg.refl _ _).setCell (.inl Uc) _).setCell (.inl Uc) _;have d:∀q∈S2++S3,q∉T:=fun q hq hqT=>n3 q (hT q hqT) q hq rfl
  exact⟨S1,S2,S3,ox _ _ (eO.set hR hj y) eY,iy.only h2 eY (fun q hq=>d q (List.mem_append_left _ hq)),iy.only h3 eY (fun q hq=>d q (List.mem_append_right _ hq)),h4,by rw[h4,List.nodup_append];exact⟨n1,n2,n3⟩⟩
theorem JX {w:World} {b:Nat} {x y z:Value} (h:bx w b x y z):bx (l0 w (b+1)) b x y z:=by
 have:=h.lt
 unfold bx at h ⊢
 simp only[l0,Array.getElem?_extract];rw[if_pos (by omega)];simpa using h
theorem bx.only {S:List Nat} {W W':World} {b:Nat} {x y z:Value} (h:bx W b x y z) (ho:bg S W W') (hb:b∉S):bx W' b x y z:=(ho.block b h.lt hb).trans h
theorem bx.aev {W:World} {b:Nat} {x y z:Value} (h:bx W b x y z) (u:Value):bx (W.setCell ⟨b,0,none⟩ u) b u y z:=by
 unfold bx at h ⊢
 simp[World.setCell,Array.getElem?_modify,h]
theorem bx.aew {W:World} {b:Nat} {x y z:Value} (h:bx W b x y z) (u:Value):bx (W.setCell ⟨b,1,none⟩ u) b x u z:=by
 unfold bx at h ⊢
 simp[World.setCell,Array.getElem?_modify,h]
theorem bx.aex {W:World} {b:Nat} {x y z:Value} (h:bx W b x y z) (u:Value):bx (W.setCell ⟨b,2,none⟩ u) b x y u:=by
 unfold bx at h ⊢
 simp[World.setCell,Array.getElem?_modify,h]
theorem bx.other {W:World} {b:Nat} {x y z u:Value} {a:Addr} (h:bx W b x y z) (ha:b≠a.block):bx (W.setCell a u) b x y z:=(Below.heap_setCell W a u b ha).trans h
theorem zU {w:World} {base:Nat} {v ui un:Value} {ix:List (List (Int×Int))} {ids ins:List Int} {S1:List Nat} (hE:wI w base v ix S1) (h1:Own w base ui ids) (h2:Own w base un ins)
  (d1:∀j∈S1,ui.ownBlock≠some j) (d2:∀j∈S1,un.ownBlock≠some j) (d3:∀j,ui.ownBlock=some j->un.ownBlock≠some j):
  az w base v ui un ⟨ix,ids,ins⟩ (S1++(ui.ownBlock.toList++un.ownBlock.toList)):=by
 refine⟨S1,_,_,hE,⟨h1,rfl⟩,⟨h2,rfl⟩,rfl,?_⟩;rw[List.nodup_append,List.nodup_append]
 refine⟨lV.nodup hE,⟨by cases ui.ownBlock <;> simp,by cases un.ownBlock <;> simp,?_⟩,?_⟩
 ·intro a ha b hb e;subst e;exact d3 a (by simpa using ha) (by simpa using hb)
 ·intro a ha b hb e;subst e;rcases List.mem_append.1 hb with hb | hb
  ·exact d1 a ha (by simpa using hb)
  ·exact d2 a ha (by simpa using hb)
theorem tt {w:World} {ops:Array Oper} {rest:List Oper} {o:Oper} {a:Act} {Q:Exit->Act->World->Prop} (iY:o.guard=none) (s x:Operand)
  (ho:o.op=.call { callee:=.builtin .append,args:=#[s,x],argTypes:=#[25,25] }) {base:Nat} {v:Value} {xs:List Int} (hs:a.eval s=v) (h:Own w base v xs) (A:Option Addr) (c:Nat) (hx:a.eval x=.slice A 0 c)
  (k:wpList Tryz.prog ops Q rest (a.put o.dst v) w):wpList Tryz.prog ops Q (o::rest) a w:=by
 obtain⟨i0,hi,il,dV,d8⟩:=info_parts kZ;refine wpList_plain iY fun K hK=>?_
 have dH:(Builtin.append_ #[25,25] o.type #[v,.slice A 0 c]).run Tryz.prog w=.ok v w:=by
  rcases h.2 with⟨rfl,tr⟩ | ⟨g,cap,cur,rfl,_,_,vG,_⟩
  ·cases A <;> simp[Builtin.append_,run_underlying Tryz.underlying25,sizeOf,typeInfo,hi,Builtin.lenOf,Builtin.firstCells,loadCells,loadCellsFrom,Result.andThen]
  ·cases A <;> simp[Builtin.append_,run_underlying Tryz.underlying25,sizeOf,typeInfo,hi,Builtin.lenOf,Builtin.firstCells,vG,storeCells,loadCells,loadCellsFrom,Result.andThen]
 unfold Oper.wp;simp[execOp,ho,resolve,invoke,builtin,hs,hx,dH,Result.andThen]
 exact hK _ _ k
theorem JY (w:World):eO (w.alloc (.cells #[] 83)) w.heap.size (.slice (some ⟨w.heap.size,0,none⟩) 0 0) [] [w.heap.size]:=by
 have:=World.ownsRow_lit (base:=w.heap.size) (e:=83) (size:=2) w #[] 0 (Nat.le_refl _) (by simp[maxLen]) (by simp)
 exact⟨this,rfl⟩
theorem mF (v:Value) (xs:List Int) (w:World) (h:aY w v xs) (hl:xs.length<=17592186044416):
  Calls Tryz.prog 179 #[v] w fun e w'=>∃u,e=.returned u/\Own w' w.heap.size u xs/\Below w.heap.size w w':=by
 rcases Nat.eq_zero_or_pos xs.length with h0 | h0
 ·obtain rfl:xs=[]:=List.eq_nil_of_length_eq_zero h0
  obtain⟨A,c,rfl,eV,hm,_⟩:=h;have ho:=gU w [] (by simp[maxLen]);simp only[List.map_nil,List.length_nil]at ho;have Ho:=zh ho;clear ho
  go_enter Tryz.func179,Tryz.ntmps179
  go_wp2_with (at_builtin;refine tt rfl _ _ rfl rfl Ho.out A c rfl ?_)
  go_wp2;go_ret;exact⟨_,rfl,Ho.out,am _ _⟩
 ·exact JV v xs w h h0 hl
def abG (m l:Int) (xs:List Int):Bool:=
 (xs.all fun x=>x==(l+m-1)%m||x==(l+1)%m)&&(xs.countP (fun x=>x==(l+m-1)%m)==1||(xs.countP (fun x=>x==(l+m-1)%m)==0&&l==0))
theorem JZ {p q:Int->Bool} {xs:List Int} (hd:∀x∈xs,p x=true->q x=false):xs.countP p+xs.countP q<=xs.length/\(xs.countP p+xs.countP q=xs.length↔∀x∈xs,p x=true\/q x=true):=by
 induction xs with
 | nil=>simp
 | cons a xs ih=>
  have ih:=ih (fun x hx=>hd x (List.mem_cons_of_mem _ hx))
  have ha:=hd a (by simp);rw[List.countP_cons,List.countP_cons,List.length_cons];cases hp:p a
  ·cases hq:q a
   ·simp only[Bool.false_eq_true,if_false,List.forall_mem_cons,hp,hq,false_or,false_and,iff_false];omega
   ·simp only[Bool.false_eq_true,if_false,if_true,List.forall_mem_cons,hp,hq,or_true,true_and];refine⟨by omega,?_⟩
    rw[<- ih.2];omega
  ·have hq:=ha hp;simp only[Bool.false_eq_true,if_false,if_true,List.forall_mem_cons,hp,hq,true_or,true_and];refine⟨by omega,?_⟩
   rw[<- ih.2];omega
theorem bX {n:ak} (h:al n=true) {k:Nat} {es:List (Int×Int)} (bW:n.ends[k]?=some es):es.length<=6/\∀e∈es,0<=e.1/\e.1<n.ends.length:=by
 have hk:=an bW;have h':=h;unfold al at h;rw[Bool.and_eq_true,List.all_eq_true]at h
 have:=h.2 k (List.mem_range.2 hk)
 rw[au bW]at this;unfold gS at this;rw[Bool.and_eq_true,List.all_eq_true]at this;refine⟨by simpa using this.1,fun e he=>?_⟩
 obtain⟨j,hj⟩:=List.getElem?_of_mem he
 have:=this.2 j (List.mem_range.2 (an hj))
 rw[au hj]at this;unfold jt at this;rw[Bool.and_eq_true]at this;exact FH this.1
theorem zV (c:Nat):((c:Int)==1)=(c==1):=by rw[Bool.eq_iff_iff];simp;omega
theorem J0 (c:Nat):((c:Int)==0)=(c==0):=by rw[Bool.eq_iff_iff];simp
theorem l7 {p:Int->Bool} {xs:List Int} {y:Int}:(xs++[y]).countP p=xs.countP p+if p y then 1 else 0:=by
 rw[List.countP_append];simp[List.countP_cons]
end Go.Proofs.YtgmdpppljkmabaaGreat
