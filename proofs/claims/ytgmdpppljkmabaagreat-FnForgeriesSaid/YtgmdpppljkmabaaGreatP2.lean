/- Parts of the proof: walks of functions and plain laws. -/
import Derived.Test.YtgmdpppljkmabaaGreatP0
import Derived.Test.YtgmdpppljkmabaaGreatP1
import Derived.Deep.AppendLies
import Derived.Deep.RegionHeld3
import Derived.Deep.SlicePairs
import Derived.Deep.Slices
import Derived.Lib.SmallJoins
set_option maxRecDepth 100000
set_option maxHeartbeats 16000000
namespace Go.Proofs.YtgmdpppljkmabaaGreat
open Go Go.RowKit
theorem cB {k : Nat} {p : Nat → Bool} : (List.range (k + 1)).all p = ((List.range k).all p && p k):=by rw [List.range_succ,List.all_append];simp
theorem aZ {n k : Nat} {p : Nat → Bool} (hk : k < n) (h : p k = false) : (List.range n).all p = false:=by
 rw [List.all_eq_false];exact ⟨k,List.mem_range.2 hk,by simp [h]⟩
def qk (lo hi : Int) (xs : List Int) : Bool:=(List.range xs.length).all fun i => ee lo hi (xs.getD i 0) && (i == 0 || decide (xs.getD (i - 1) 0 < xs.getD i 0))
theorem aH {α : Type} {xs : List α} {k : Nat} {x d : α} (h : xs[k]? = some x) : xs.getD k d = x:=by simp [h]
theorem tN (v : Value) (xs : List Int) (lo hi : Int) (w : World) (h : bD w v xs) :
  Calls Tryz.prog 197 #[v,.int .i64 lo,.int .i64 hi] w fun e w' => e = .returned (.bool (qk lo hi xs)) ∧ w = w':=by
 obtain ⟨A,c,rfl,ft,hm,hA⟩:=h;unfold maxLen at hm;have HA:=zh hA;clear hA
 go_enter Tryz.func197,Tryz.ntmps197
 go_wp2
 go_loop [11] (fun i => ∃ k : Nat,k ≤ xs.length ∧ i = .int .i64 k ∧ ((List.range k).all fun i => ee lo hi (xs.getD i 0) && (i == 0 || decide (xs.getD (i - 1) 0 < xs.getD i 0))) = true) (fun i => xs.length - (intOf i).toNat)
 case atStart => exact ⟨0,Nat.zero_le _,rfl,rfl⟩
 case round =>
  obtain ⟨k,hk,rfl,bW⟩:=hrel;have fk:=zh bW;clear bW
  by_cases hlt : k < xs.length
  ·obtain ⟨x,hx⟩:=aW xs k hlt;obtain ⟨b,off,rfl,jx⟩:=HA.out k x hx;have Hx:=zh hx;cases hb : ee lo hi x
   ·have Hb:=zh hb;clear hx
    go_wp2_with (go_at_call 71;refine (dV _ _ _ _).mono ?_;rintro e w' ⟨rfl,rfl⟩)
    go_ret
    exact ⟨bt (aZ hlt (by rw [aH Hx.out,Hb.out];rfl)),rfl⟩
   ·have Hb:=zh hb
    by_cases zS : k = 0
    ·subst zS;simp only [Nat.add_zero] at jx;clear hx
     go_wp2_with (go_at_call 71;refine (dV _ _ _ _).mono ?_;rintro e w' ⟨rfl,rfl⟩)
     go_round
     case rel => exact ⟨0 + 1,by omega,by go_num,by rw [cB,fk.out,aH Hx.out,Hb.out];rfl⟩
     case measure => simp [intOf];omega
    ·obtain ⟨y,hy⟩:=aW xs (k - 1) (by omega);obtain ⟨b',pl,he,YY⟩:=HA.out (k - 1) y hy
     injection he with he
     injection he with e1 e2
     subst e1 e2;have Hy:=zh hy;have j_ : 0 < k:=by omega
     cases xL : decide (x ≤ y)
     all_goals
      have sw:=zh xL
     ·have hn : ¬ x ≤ y:=by simpa using xL
      clear hx hy xL
      go_wp2_with (go_at_call 71;refine (dV _ _ _ _).mono ?_;rintro e w' ⟨rfl,rfl⟩)
      go_round
      case rel => exact ⟨k + 1,by omega,by go_num,by rw [cB,fk.out,aH Hx.out,aH Hy.out,Hb.out];simp;omega⟩
      case measure => simp [intOf];omega
     ·have hn : x ≤ y:=by simpa using xL
      clear hx hy xL
      go_wp2_with (go_at_call 71;refine (dV _ _ _ _).mono ?_;rintro e w' ⟨rfl,rfl⟩)
      go_ret
      exact ⟨bt (aZ hlt (by rw [aH Hx.out,aH Hy.out,Hb.out];simp;omega)),rfl⟩
  ·obtain rfl : k = xs.length:=by omega
   go_wp2;go_ret;exact ⟨lL fk.out,rfl⟩
def sy (ids : List Int) (fp : Int) : Bool:=ids.isEmpty || ((ids.length : Int) == fp && qk 1 999999 (ids.mergeSort fun x y => decide (x ≤ y)))
theorem tO {w w1 w2 : World} {v : Value} {xs : List Int} (h : Below w.heap.size w w1) (ho : Own w1 w.heap.size v xs) (hg : w1.grownBy w2 v.ownBlock) : Below w.heap.size w w2:=
 h.grown hg h.size (fun k hk => (World.ownsRow.lt ho k hk).1)
theorem rv (v : Value) (ids : List Int) (fp : Int) (w : World) (h : bD w v ids) (hl : ids.length ≤ 17592186044416) :
  Calls Tryz.prog 130 #[v,.int .i64 fp] w fun e w' => e = .returned (.bool (sy ids fp)) ∧ Below w.heap.size w w':=by
 have H:=zh h;obtain ⟨A,c,rfl,ft,hm,hA⟩:=h;clear hA;unfold maxLen at hm
 by_cases h0 : ids.length = 0
 ·obtain rfl : ids = []:=List.eq_nil_of_length_eq_zero h0
  go_enter Tryz.func130,Tryz.ntmps130
  go_wp2;go_ret;exact ⟨rfl,Below.refl _ _⟩
 ·have SE : (((ids.length : Nat) : Int) == 0) = false:=by simp;intro h;simp [h] at h0
  have TO : ids.isEmpty = false:=by cases ids <;> simp_all
  have Hr:=zh (show sy ids fp = ((ids.length : Int) == fp && qk 1 999999 (ids.mergeSort fun x y => decide (x ≤ y))) by simp [sy,TO])
  clear TO h0;cases hn : ((ids.length : Int) == fp)
  all_goals
   have Hn:=zh hn
   go_enter Tryz.func130,Tryz.ntmps130
   go_wp2_with fail;refine (xH _ ids _ H.out hl).mono ?_;rintro e w1 ⟨u,rfl,ho,hb⟩;have Ho:=zh ho;have Hb:=zh hb;clear ho hb;go_wp2_with fail;refine (Jk _ ids _ _ Ho.out hl).mono ?_;rintro e w2 ⟨rfl,dL,hg⟩;have iU:=zh dL;have tP:=zh (tO Hb.out Ho.out hg);clear dL hg;go_wp2_with fail
  ·go_ret
   exact ⟨bt (by rw [Hr.out,Hn.out];rfl),tP.out⟩
  ·refine (tN _ _ _ _ _ iU.out.ints).mono ?_;rintro e w3 ⟨rfl,rfl⟩;go_wp2;go_ret
   exact ⟨bP (by rw [Hr.out,Hn.out];rfl),tP.out⟩
def jl (inputs : List Int) (fp : Int) : Bool:=(inputs.length : Int) == fp && inputs.all (ee 0 9)
theorem qm (v : Value) (xs : List Int) (fp : Int) (w : World) (h : bD w v xs) :
  Calls Tryz.prog 131 #[v,.int .i64 fp] w fun e w' => e = .returned (.bool (jl xs fp)) ∧ Below w.heap.size w w':=by
 have H:=zh h;obtain ⟨A,c,rfl,ft,hm,hA⟩:=h;clear hA;unfold maxLen at hm;unfold jl;cases hn : ((xs.length : Int) == fp)
 all_goals
  go_enter Tryz.func131,Tryz.ntmps131
  go_wp2_with fail
 ·go_ret;exact ⟨rfl,Below.refl _ _⟩
 ·refine (ll _ xs _ _ _ H.out).mono ?_;rintro e w1 ⟨rfl,hb⟩;have Hb:=zh hb;clear hb;go_wp2;go_ret;exact ⟨rfl,Hb.out⟩
theorem ng (ve vi vn : Value) (jO : List (List (Int × Int))) (v : Int) (w : World) (h : oX w ve jO) :
  Calls Tryz.prog 108 #[.agg #[ve,vi,vn],.int .i64 v] w fun e w' => e = .returned (.bool (ee 0 ((jO.length : Int) - 1) v)) ∧ Below w.heap.size w w':=by
 obtain ⟨A,c,rfl,ft,hm,hA⟩:=h;clear hA;unfold maxLen at hm
 go_enter Tryz.func108,Tryz.ntmps108
 go_wp2_with (go_at_call 71;refine (dV _ _ _ _).mono ?_;rintro e w' ⟨rfl,rfl⟩)
 go_ret;exact ⟨rfl,au _ _⟩
def cg (jO : List (List (Int × Int))) (v i : Int) : Bool:=ee 0 ((jO.length : Int) - 1) v && ee 0 (((jO.getD v.toNat []).length : Int) - 1) i
theorem rU (ve vi vn : Value) (jO : List (List (Int × Int))) (v i : Int) (w : World) (h : oX w ve jO) :
  Calls Tryz.prog 57 #[.agg #[ve,vi,vn],.int .i64 v,.int .i64 i] w fun e w' => e = .returned (.bool (cg jO v i)) ∧ Below w.heap.size w w':=by
 have jL : Below w.heap.size w (w.alloc (.cells #[ve,vi,vn] 27)):=au _ _;have H:=zh (h.keep jL);obtain ⟨A,c,rfl,ft,hm,hA⟩:=h;unfold maxLen at hm;have bv:=zh jL;clear jL;unfold cg;cases hn : ee 0 ((jO.length : Int) - 1) v
 ·clear hA
  go_enter Tryz.func57,Tryz.ntmps57
  go_wp2_with fail;refine (ng _ _ _ jO v _ H.out).mono ?_;rintro e w1 ⟨rfl,bj⟩;have gG:=zh (bv.out.trans (bj.mono (by simp)));clear bj;go_wp2;go_ret;exact ⟨rfl,gG.out⟩
 ·obtain ⟨sR,SF⟩:=aM.1 hn;obtain ⟨k,rfl⟩:=Int.eq_ofNat_of_zero_le sR;have hk : k < jO.length:=by omega
  obtain ⟨es,cM⟩:=aW jO k hk;obtain ⟨b,off,u,rfl,eS,hr⟩:=hA k es cM;obtain ⟨A1,z1,rfl,eF,eD,_⟩:=hr;unfold maxLen at eD;have hg:=zh (show (jO.getD ((k : Int)).toNat []) = es by rw [Int.toNat_natCast,aH cM])
  rw [hg.out];have lm:=bc bv.out eS;clear hA cM eS
  go_enter Tryz.func57,Tryz.ntmps57
  go_wp2_with fail;refine (ng _ _ _ jO k _ H.out).mono ?_;rintro e w1 ⟨rfl,bj⟩;have qo:=bc bj lm;have hc4 : w1.cell? ⟨w.heap.size,0,none⟩ = some (.slice (some ⟨b,off,none⟩) jO.length c):=bc bj (by simp);have gG:=zh (bv.out.trans (bj.mono (by simp)));clear bj lm
  go_wp2_with (go_at_call 71;refine (dV _ _ _ _).mono ?_;rintro e w' ⟨rfl,rfl⟩)
  go_ret;exact ⟨rfl,gG.out⟩
def iF (jO : List (List (Int × Int))) (v i : Nat) (e : Int × Int) : Bool:=cg jO e.1 e.2 && zR ((jO.getD e.1.toNat []).getD e.2.toNat (0,0)) ((v : Int),(i : Int))
def fT (jO : List (List (Int × Int))) (v : Nat) (es : List (Int × Int)) : Bool:=decide (es.length ≤ 6) && (List.range es.length).all fun i => iF jO v i (es.getD i (0,0))
def an (n : am) : Bool:=ee 1 40 n.ends.length && sy n.ids n.ends.length && jl n.inputs n.ends.length && (List.range n.ends.length).all fun v => fT n.ends v (n.ends.getD v [])
theorem dF (ve vi vn : Value) (n : am) (w : World) (h : aT w ve vi vn n) (hl : n.ids.length ≤ 17592186044416) :
  Calls Tryz.prog 53 #[.agg #[ve,vi,vn]] w fun e w' => e = .returned (.bool (an n)) ∧ Below w.heap.size w w':=by
 have jL : Below w.heap.size w (w.alloc (.cells #[ve,vi,vn] 27)):=au _ _;have H:=zh (h.keep jL);obtain ⟨h1,h2,h3⟩:=h;obtain ⟨A,c,rfl,ft,hm,hA⟩:=h1;obtain ⟨A2,c2,rfl,_,f6,_⟩:=h2;obtain ⟨A3,c3,rfl,_,gF,_⟩:=h3;unfold maxLen at hm f6 gF;have bv:=zh jL;have HA:=zh hA;clear jL hA;cases t1 : ee 1 40 (n.ends.length : Int)
 ·have hr:=zh (show an n = false by simp [an,t1])
  go_enter Tryz.func53,Tryz.ntmps53
  go_wp2_with (go_at_call 71;refine (dV _ _ _ _).mono ?_;rintro e w' ⟨rfl,rfl⟩)
  go_ret;exact ⟨bt hr.out,bv.out⟩
 ·cases t2 : sy n.ids n.ends.length
  ·have hr:=zh (show an n = false by simp [an,t2])
   go_enter Tryz.func53,Tryz.ntmps53
   go_wp2_with (go_at_call 71;refine (dV _ _ _ _).mono ?_;rintro e w' ⟨rfl,rfl⟩)
   refine (rv _ n.ids _ _ H.out.2.1 hl).mono ?_;rintro e w1 ⟨rfl,bj⟩;have gG:=zh (bv.out.trans (bj.mono (by simp)));clear bj;go_wp2;go_ret;exact ⟨bt hr.out,gG.out⟩
  ·cases t3 : jl n.inputs n.ends.length
   ·have hr:=zh (show an n = false by simp [an,t3])
    go_enter Tryz.func53,Tryz.ntmps53
    go_wp2_with (go_at_call 71;refine (dV _ _ _ _).mono ?_;rintro e w' ⟨rfl,rfl⟩)
    refine (rv _ n.ids _ _ H.out.2.1 hl).mono ?_;rintro e w1 ⟨rfl,bj⟩;have gG:=zh (bv.out.trans (bj.mono (by simp)));have H1:=zh (H.out.keep bj);have d0 : w1.cell? ⟨w.heap.size,0,none⟩ = some (.slice A n.ends.length c):=bc bj (by simp);have d2 : w1.cell? ⟨w.heap.size,2,none⟩ = some (.slice A3 n.inputs.length c3):=bc bj (by simp);clear bj;go_wp2_with fail;refine (qm _ n.inputs _ _ H1.out.2.2).mono ?_;rintro e w2 ⟨rfl,b_⟩;have tP:=zh (gG.out.trans (b_.mono gG.out.size));clear b_;go_wp2;go_ret;exact ⟨bt hr.out,tP.out⟩
   ·have hr:=zh (show an n = (List.range n.ends.length).all fun v => fT n.ends v (n.ends.getD v []) by simp [an,t1,t2,t3])
    go_enter Tryz.func53,Tryz.ntmps53
    go_wp2_with (go_at_call 71;refine (dV _ _ _ _).mono ?_;rintro e w' ⟨rfl,rfl⟩)
    refine (rv _ n.ids _ _ H.out.2.1 hl).mono ?_;rintro e w1 ⟨rfl,bj⟩;have gG:=zh (bv.out.trans (bj.mono (by simp)));have H1:=zh (H.out.keep bj);have d0 : w1.cell? ⟨w.heap.size,0,none⟩ = some (.slice A n.ends.length c):=bc bj (by simp);have d1 : w1.cell? ⟨w.heap.size,1,none⟩ = some (.slice A2 n.ids.length c2):=bc bj (by simp);have d2 : w1.cell? ⟨w.heap.size,2,none⟩ = some (.slice A3 n.inputs.length c3):=bc bj (by simp);clear bj;go_wp2_with fail;refine (qm _ n.inputs _ _ H1.out.2.2).mono ?_;rintro e w2 ⟨rfl,b_⟩;have tP:=zh (gG.out.trans (b_.mono gG.out.size));have H2:=zh (H1.out.keep b_);have e0:=bc b_ d0;have e1:=bc b_ d1;have e2:=bc b_ d2;have ed : w.heap.size < w2.heap.size:=World.block_lt_of_cell? w2 _ e0;have E:=zh (And.intro e0 (And.intro e1 e2));clear b_ d0 d1 d2 H H1;go_wp2
    go_loopw [33] (fun i wr => ∃ k : Nat,k ≤ n.ends.length ∧ i = .int .i64 k ∧ ((List.range k).all fun v => fT n.ends v (n.ends.getD v [])) = true ∧ Below w2.heap.size w2 wr) (fun i _ => n.ends.length - (intOf i).toNat)
    case atStart => exact ⟨0,Nat.zero_le _,rfl,rfl,Below.refl _ _⟩
    case round =>
     obtain ⟨k,hk,rfl,bW,xM⟩:=hrel;have fk:=zh bW;have Db:=zh xM;clear bW xM
     by_cases hlt : k < n.ends.length
     ·obtain ⟨es,cM⟩:=aW n.ends k hlt;obtain ⟨b,off,u,rfl,eS,dG⟩:=HA.out k es cM;have OL:=tP.out.trans (Db.out.mono tP.out.size);have lm:=bc OL eS;have PY:=zh (dG.keep OL);obtain ⟨A1,z1,rfl,eF,eD,lP⟩:=dG;have po:=zh lP;unfold maxLen at eD;have ml:=zh cM;have YZ:=zh OL;clear cM OL eS lP
      by_cases h6 : es.length ≤ 6
      ·go_wp2;obtain ⟨wo,rfl⟩ : ∃ wo : World,wo = wr:=⟨_,rfl⟩
       go_loopw [43] (fun i wq => ∃ j : Nat,j ≤ es.length ∧ i = .int .i64 j ∧ ((List.range j).all fun i => iF n.ends k i (es.getD i (0,0))) = true ∧ Below wo.heap.size wo wq) (fun i _ => es.length - (intOf i).toNat)
       case atStart => exact ⟨0,Nat.zero_le _,rfl,rfl,Below.refl _ _⟩
       case round =>
        obtain ⟨j,hj,rfl,Ap,Mi⟩:=hrel;have Ar:=zh Ap;have XH:=zh Mi;have MN:=YZ.out.trans (Mi.mono YZ.out.size);have Mj:=Db.out.trans (Mi.mono Db.out.size);clear Ap Mi
        by_cases jz : j < es.length
        ·obtain ⟨⟨x1,x2⟩,he⟩:=aW es j jz;obtain ⟨b1,qp,rfl,kV,iz⟩:=po.out j _ he;have q1:=bc MN kV;have q2:=bc MN iz;obtain ⟨n0,n1,n2⟩:=E.out;have m0:=bc Mj n0;have m1:=bc Mj n1;have m2:=bc Mj n2;have abg : w.heap.size < wr.heap.size:=World.block_lt_of_cell? wr _ m0;have He:=zh he;have MO:=zh MN;have HN:=zh (H2.out.1.keep Mj);clear he MN Mj n0 n1 n2 kV iz lm;cases hp : cg n.ends x1 x2
         ·have Hp:=zh hp;go_wp2;obtain ⟨w0,ck⟩ : ∃ w0,(wr.alloc (Obj.cells #[Value.int IntKind.i64 x1,Value.int IntKind.i64 x2] 83)) = w0:=⟨_,rfl⟩
          rw [ck]
          have tQ : Below wr.heap.size wr w0:=by rw [← ck];exact au _ _
          have SG : ∀ W,aa w0 W → W.cell? ⟨w.heap.size,0,none⟩ = some (.slice (some ⟨b,off,none⟩) n.ends.length c):=fun W hW => bc hW (bc tQ m0)
          have pp : ∀ W,aa w0 W → W.cell? ⟨w.heap.size,1,none⟩ = some (.slice A2 n.ids.length c2):=fun W hW => bc hW (bc tQ m1)
          have tR : ∀ W,aa w0 W → W.cell? ⟨w.heap.size,2,none⟩ = some (.slice A3 n.inputs.length c3):=fun W hW => bc hW (bc tQ m2)
          have Mk : ∀ W,aa w0 W → W.cell? ⟨wr.heap.size,0,none⟩ = some (.int .i64 x1):=fun W hW => bc hW (by rw [← ck];simp)
          have Y0 : ∀ W,aa w0 W → W.cell? ⟨wr.heap.size,1,none⟩ = some (.int .i64 x2):=fun W hW => bc hW (by rw [← ck];simp)
          have Y1:=zh (HN.out.keep tQ);have xN:=zh tQ;clear ck tQ m0 m1 m2;refine ao 23 (aa w0) (by kernel_rfl) (by kernel_rfl) (by simp) (aa.drew w0) ?_;simp only [zT]
          iterate 5 (apply ag rfl;(intro W hW;go_simp;with_reducible rfl);simp only [zA])
          refine dn (.bool false) rfl (fun W hW => ?_) ?_
          ·unfold bG
           go_simp
           refine (rU _ _ _ n.ends x1 x2 W (Y1.out.keep hW)).mono ?_;rintro e W' ⟨rfl,bg⟩;exact ⟨by rw [Hp.out],hW.trans bg⟩
          simp only [zA]
          iterate 2 (apply ag rfl;(intro W hW;go_simp;with_reducible rfl);simp only [zA])
          iterate 14 (refine xJ rfl ?_;simp only [zA])
          iterate 1 (apply ag rfl;(intro W hW;go_simp;with_reducible rfl);simp only [zA])
          intro W hW;have HW:=zh hW;clear hW;go_wp2;go_ret
          exact ⟨bt (by rw [hr.out];refine aZ hlt ?_;rw [aH ml.out];simp only [fT];rw [Bool.and_eq_false_iff];exact .inr (aZ jz (by rw [aH He.out];simp [iF,Hp.out]))),(MO.out.trans (xN.out.mono MO.out.size)).trans ((show Below w0.heap.size w0 W from HW.out).mono (by have:=MO.out.size;have:=xN.out.size;omega))⟩
         ·have Hp:=zh hp;have qr:=hp;unfold cg at qr;rw [Bool.and_eq_true] at qr;obtain ⟨p1,p2⟩:=qr;obtain ⟨p3,p4⟩:=aM.1 p1;obtain ⟨k1,rfl⟩:=Int.eq_ofNat_of_zero_le p3;have j_ : k1 < n.ends.length:=by omega
          obtain ⟨Fm,As⟩:=aW n.ends k1 j_;rw [Int.toNat_natCast,aH As] at p2;obtain ⟨p5,p6⟩:=aM.1 p2;obtain ⟨i1,rfl⟩:=Int.eq_ofNat_of_zero_le p5;have pp : i1 < Fm.length:=by omega
          obtain ⟨⟨y1,y2⟩,hy⟩:=aW Fm i1 pp;obtain ⟨b2,Y2,u',Gp,qo,Jp⟩:=HA.out k1 Fm As
          injection Gp with Gp
          injection Gp with q3 q4
          subst q3 q4;obtain ⟨Fo,TP,rfl,Y3,PZ,Dc⟩:=Jp;obtain ⟨b3,MP,rfl,P6,OM⟩:=Dc i1 _ hy;unfold maxLen at PZ;have Hy:=zh hy;have Gt:=zh As;have g3:=bc MO.out qo;have g5:=bc MO.out P6;have g6:=bc MO.out OM;clear As hy qo P6 OM Dc p1 p2 hp;go_wp2;obtain ⟨w0,ck⟩ : ∃ w0,(wr.alloc (Obj.cells #[Value.int IntKind.i64 (k1 : Int),Value.int IntKind.i64 (i1 : Int)] 83)) = w0:=⟨_,rfl⟩
          rw [ck]
          have tQ : Below wr.heap.size wr w0:=by rw [← ck];exact au _ _
          have i0 : ∀ W,aa w0 W → W.cell? ⟨w.heap.size,0,none⟩ = some (.slice (some ⟨b,off,none⟩) n.ends.length c):=fun W hW => bc hW (bc tQ m0)
          have i1' : ∀ W,aa w0 W → W.cell? ⟨w.heap.size,1,none⟩ = some (.slice A2 n.ids.length c2):=fun W hW => bc hW (bc tQ m1)
          have i2 : ∀ W,aa w0 W → W.cell? ⟨w.heap.size,2,none⟩ = some (.slice A3 n.inputs.length c3):=fun W hW => bc hW (bc tQ m2)
          have i3 : ∀ W,aa w0 W → W.cell? ⟨wr.heap.size,0,none⟩ = some (.int .i64 (k1 : Int)):=fun W hW => bc hW (by rw [← ck];simp)
          have i4 : ∀ W,aa w0 W → W.cell? ⟨wr.heap.size,1,none⟩ = some (.int .i64 (i1 : Int)):=fun W hW => bc hW (by rw [← ck];simp)
          have i5 : ∀ W,aa w0 W → W.cell? ⟨b,off + k1,none⟩ = some (.slice (some ⟨b3,MP,none⟩) Fm.length TP):=fun W hW => bc hW (bc tQ g3)
          have i6 : ∀ W,aa w0 W → W.cell? ⟨b3,MP + i1 * 2,none⟩ = some (.int .i64 y1):=fun W hW => bc hW (bc tQ g5)
          have i7 : ∀ W,aa w0 W → W.cell? ⟨b3,MP + i1 * 2 + 1,none⟩ = some (.int .i64 y2):=fun W hW => bc hW (bc tQ g6)
          have Y1:=zh (HN.out.keep tQ);have xN:=zh tQ;clear ck tQ m0 m1 m2 g3 g5 g6;refine ao 23 (aa w0) (by kernel_rfl) (by kernel_rfl) (by simp) (aa.drew w0) ?_;simp only [zT]
          iterate 5 (apply ag rfl;(intro W hW;go_simp;with_reducible rfl);simp only [zA])
          refine dn (.bool true) rfl (fun W hW => ?_) ?_
          ·unfold bG
           go_simp
           refine (rU _ _ _ n.ends k1 i1 W (Y1.out.keep hW)).mono ?_;rintro e W' ⟨rfl,bg⟩;exact ⟨by rw [Hp.out],hW.trans bg⟩
          simp only [zA]
          iterate 15 (apply ag rfl;(intro W hW;go_simp;with_reducible rfl);simp only [zA])
          refine dn (.bool (!zR (y1,y2) ((k : Int),(j : Int)))) rfl (fun W hW => ?_) ?_
          ·unfold bG
           go_simp
           by_cases f1 : y1 = (k : Int)
           ·by_cases f2 : y2 = (j : Int)
            ·simp [f1,f2,zR,hW]
            ·simp [f1,f2,zR,hW]
           ·simp [f1,zR,hW]
          simp only [zA];cases hq : zR (y1,y2) ((k : Int),(j : Int))
          all_goals
           have Hq:=zh hq;clear hq
           iterate 1 (apply ag rfl;(intro W hW;go_simp;with_reducible rfl);simp only [zA])
           intro W hW;have HW:=zh hW
           have HbW:=zh ((MO.out.trans (xN.out.mono MO.out.size)).trans ((show Below w0.heap.size w0 W from hW).mono (by have:=MO.out.size;have:=xN.out.size;omega)))
           have Y4:=zh ((XH.out.trans (xN.out.mono XH.out.size)).trans ((show Below w0.heap.size w0 W from hW).mono (by have:=XH.out.size;have:=xN.out.size;omega)))
           clear hW;go_wp2
          ·go_ret
           exact ⟨bt (by rw [hr.out];refine aZ hlt ?_;rw [aH ml.out];simp only [fT];rw [Bool.and_eq_false_iff];exact .inr (aZ jz (by rw [aH He.out];simp [iF,Hp.out,Gt.out,Hy.out,Hq.out]))),HbW.out⟩
          ·go_roundw
           case rel => exact ⟨j + 1,by omega,by go_num,by rw [cB,Ar.out,aH He.out];simp [iF,Hp.out,Gt.out,Hy.out,Hq.out],Y4.out⟩
           case measure => simp [intOf];omega
        ·obtain rfl : j = es.length:=by omega
         have Y5:=zh Mj;clear MN Mj;go_wp2;go_roundw
         case rel => exact ⟨k + 1,by omega,by go_num,by rw [cB,fk.out,aH ml.out,Bool.true_and];unfold fT;rw [Ar.out];simp [h6],Y5.out⟩
         case measure => simp [intOf];omega
      ·go_wp2;go_ret
       exact ⟨bt (by rw [hr.out];exact aZ hlt (by rw [aH ml.out];simp [fT,h6])),YZ.out⟩
     ·obtain rfl : k = n.ends.length:=by omega
      go_wp2;go_ret
      exact ⟨lL (by rw [hr.out];exact fk.out),tP.out.trans (Db.out.mono tP.out.size)⟩
structure aU (S : List Nat) (w w' : World) : Prop where
 os : w'.os = w.os
 tape : w'.tape = w.tape
 output : w'.output = w.output
 size : w.heap.size ≤ w'.heap.size
 block : ∀ k,k < w.heap.size → k ∉ S → w'.heap[k]? = w.heap[k]?
theorem aU.refl (S : List Nat) (w : World) : aU S w w:=⟨rfl,rfl,rfl,Nat.le_refl _,fun _ _ _ => rfl⟩
theorem aU.trans {S : List Nat} {a b c : World} (h : aU S a b) (k : aU S b c) : aU S a c:=
 ⟨k.os.trans h.os,k.tape.trans h.tape,k.output.trans h.output,Nat.le_trans h.size k.size,fun i hi hn => (k.block i (Nat.lt_of_lt_of_le hi h.size) hn).trans (h.block i hi hn)⟩
theorem aU.mono {S T : List Nat} {a b : World} (h : aU S a b) (hs : ∀ k ∈ S,k ∈ T) : aU T a b:=⟨h.os,h.tape,h.output,h.size,fun i hi hn => h.block i hi (fun e => hn (hs i e))⟩
theorem aU.below {S : List Nat} {a b : World} (h : aU S a b) (B : Nat) (hB : B ≤ a.heap.size) (hs : ∀ k ∈ S,B ≤ k) : Below B a b:=⟨h.os,h.tape,h.output,h.size,fun i hi => h.block i (by omega) (fun e => by have:=hs i e;omega)⟩
theorem aU.of_below {S : List Nat} {a b : World} (h : Below a.heap.size a b) : aU S a b:=⟨h.os,h.tape,h.output,h.size,fun i hi _ => h.block i hi⟩
theorem aU.of_grown {a b : World} {row : Option Nat} (h : a.grownBy b row) : aU row.toList a b:=⟨h.os,h.tape,h.output,h.size,fun i hi hn => h.block i hi (fun e => hn (by rw [← e];simp))⟩
theorem aU.drewN {S : List Nat} {a b : World} (h : aU S a b) (n : Nat) : aU S a (b.drewN n):=⟨h.os,h.tape,h.output,h.size,h.block⟩
theorem aU.cell {S : List Nat} {a b : World} (h : aU S a b) {p : Addr} {u : Value} (hp : p.block ∉ S) (hc : a.cell? p = some u) : b.cell? p = some u:=
 (World.cell?_of_block (h.block p.block (World.block_lt_of_cell? a _ hc) hp)).trans hc
theorem aU.setCell {S : List Nat} {a w : World} (h : aU S a w) {p : Addr} (hp : p.block ∈ S ∨ a.heap.size ≤ p.block) (u : Value) : aU S a (w.setCell p u):=
 ⟨h.os,h.tape,h.output,by simpa [World.setCell] using h.size,fun i hi hn => (Below.heap_setCell w p u i (by
  rintro rfl;rcases hp with hp | hp
  ·exact hn hp
  ·omega)).trans (h.block i hi hn)⟩
theorem aU.alloc {S : List Nat} {a w : World} (h : aU S a w) (o : Obj) : aU S a (w.alloc o):=⟨h.os,h.tape,h.output,Nat.le_trans h.size (by simp),fun i hi hn => (Below.heap_alloc w o i (Nat.lt_of_lt_of_le hi h.size)).trans (h.block i hi hn)⟩
structure f8 {β : Type} (R : World → Nat → Value → β → List Nat → Prop) : Prop where
 stable : ∀ {w w' : World} {base : Nat} {v : Value} {x : β} {S : List Nat},R w base v x S → (∀ k ∈ S,w'.heap[k]? = w.heap[k]?) → R w' base v x S
 range : ∀ {w : World} {base : Nat} {v : Value} {x : β} {S : List Nat},R w base v x S → ∀ k ∈ S,base ≤ k ∧ k < w.heap.size
 nodup : ∀ {w : World} {base : Nat} {v : Value} {x : β} {S : List Nat},R w base v x S → S.Nodup
 mono : ∀ {w : World} {base ks : Nat} {v : Value} {x : β} {S : List Nat},R w base v x S → ks ≤ base → R w ks v x S
 one : ∀ {w : World} {base : Nat} {v : Value} {x : β} {S : List Nat},R w base v x S → ∃ A n c,v = .slice A n c
section
variable {β : Type} {R : World → Nat → Value → β → List Nat → Prop}
theorem f8.keep (L : f8 R) {w w' : World} {base : Nat} {v : Value} {x : β} {S : List Nat} (h : R w base v x S) (hb : Below w.heap.size w w') : R w' base v x S:=L.stable h fun k hk => hb.block k (L.range h k hk).2
theorem f8.only (L : f8 R) {w w' : World} {base : Nat} {v : Value} {x : β} {S T : List Nat} (h : R w base v x S) (hb : aU T w w') (hd : ∀ k ∈ S,k ∉ T) : R w' base v x S:=L.stable h fun k hk => hb.block k (L.range h k hk).2 (hd k hk)
end
def ON {α : Type} (e : TypeId) (size : Nat) (enc : α → List Value) (w : World) (base : Nat) (v : Value) (xs : List α) (S : List Nat) : Prop:=
 w.ownsRow base e size v xs.length (xs.flatMap enc) ∧ S = v.ownBlock.toList
theorem aO {w w' : World} {base : Nat} {e : TypeId} {size : Nat} {v : Value} {n : Nat} {xs : List Value} (h : w.ownsRow base e size v n xs) (hs : ∀ k ∈ v.ownBlock.toList,w'.heap[k]? = w.heap[k]?) : w'.ownsRow base e size v n xs:=by
 refine ⟨h.1,h.2.imp id ?_⟩;rintro ⟨g,cap,cur,rfl,h2,h3,h4⟩;exact ⟨g,cap,cur,rfl,h2,(hs g (by simp [Value.ownBlock])).trans h3,h4⟩
theorem ka {w : World} {base ks : Nat} {e : TypeId} {size : Nat} {v : Value} {n : Nat} {xs : List Value} (h : w.ownsRow base e size v n xs) (hb : ks ≤ base) : w.ownsRow ks e size v n xs:=
 ⟨h.1,h.2.imp id fun ⟨g,cap,cur,h1,h2,h3⟩ => ⟨g,cap,cur,h1,Nat.le_trans hb h2,h3⟩⟩
theorem nh {w : World} {base : Nat} {e : TypeId} {size : Nat} {v : Value} {n : Nat} {xs : List Value} (h : w.ownsRow base e size v n xs) : ∃ A m c,v = .slice A m c:=by
 rcases h.2 with ⟨rfl,_⟩ | ⟨g,cap,cur,rfl,_⟩
 ·exact ⟨_,_,_,rfl⟩
 ·exact ⟨_,_,_,rfl⟩
theorem Jq {α : Type} (e : TypeId) (size : Nat) (enc : α → List Value) : f8 (ON (α:=α) e size enc) where
 stable:=fun ⟨h,hS⟩ hs => ⟨aO h (fun k hk => hs k (by rw [hS];exact hk)),hS⟩
 range:=fun ⟨h,hS⟩ k hk => World.ownsRow.lt h k (by rw [hS] at hk;simpa using hk)
 nodup:=fun {_ _ v _ _} ⟨_,hS⟩ => by rw [hS];cases v.ownBlock <;> simp
 mono:=fun ⟨h,hS⟩ hb => ⟨ka h hb,hS⟩
 one:=fun ⟨h,_⟩ => nh h
def de {β : Type} (e : TypeId) (R : World → Nat → Value → β → List Nat → Prop) (w : World) (base : Nat) (v : Value) (xs : List β) (S : List Nat) : Prop:=
 ∃ (vs : List Value) (Ss : List (List Nat)),w.ownsRow base e 1 v xs.length vs ∧ Ss.length = xs.length ∧
  (∀ (k : Nat) u x T,vs[k]? = some u → xs[k]? = some x → Ss[k]? = some T → R w base u x T) ∧ S = v.ownBlock.toList ++ Ss.flatten ∧ S.Nodup
theorem qs {β : Type} {R : World → Nat → Value → β → List Nat → Prop} (e : TypeId) (L : f8 R) : f8 (de e R) where
 stable:=fun {w w' base v xs S} h hs => by
  obtain ⟨vs,Ss,h1,h2,h3,h4,h5⟩:=h
  refine ⟨vs,Ss,aO h1 (fun k hk => hs k (by rw [h4];simp [hk])),h2,fun k u x T hu hx hT => L.stable (h3 k u x T hu hx hT) (fun j hj => hs j ?_),h4,h5⟩
  rw [h4];exact List.mem_append_right _ (List.mem_flatten.2 ⟨T,List.mem_of_getElem? hT,hj⟩)
 range:=fun {w base v xs S} h k hk => by
  obtain ⟨vs,Ss,h1,h2,h3,h4,h5⟩:=h;rw [h4] at hk;rcases List.mem_append.1 hk with hk | hk
  ·exact World.ownsRow.lt h1 k (by simpa using hk)
  ·obtain ⟨T,hT,hkT⟩:=List.mem_flatten.1 hk;obtain ⟨j,hj⟩:=List.mem_iff_getElem?.1 hT;have hlt : j < Ss.length:=aq hj;have hvl : vs.length = xs.length:=by simpa using h1.1
   obtain ⟨u,hu⟩:=aW vs j (by omega);obtain ⟨x,hx⟩:=aW xs j (by omega);exact L.range (h3 j u x T hu hx hj) k hkT
 nodup:=fun ⟨_,_,_,_,_,_,h5⟩ => h5
 mono:=fun {w base ks v xs S} h hb => by
  obtain ⟨vs,Ss,h1,h2,h3,h4,h5⟩:=h;exact ⟨vs,Ss,ka h1 hb,h2,fun k u x T hu hx hT => L.mono (h3 k u x T hu hx hT) hb,h4,h5⟩
 one:=fun ⟨_,_,h1,_⟩ => nh h1
section
variable {β : Type} {R : World → Nat → Value → β → List Nat → Prop} {e : TypeId} {w : World} {base g c n : Nat} {xs : List β} {S : List Nat}
theorem ia {e : TypeId} {size : Nat} {m : Nat} {ys : List Value} (h : w.ownsRow base e size (.slice (some ⟨g,0,none⟩) n c) m ys) : m = n:=by
 rcases h.2 with ⟨h',_⟩ | ⟨g',wO,cur,h',_⟩
 ·simp at h'
 ·simp only [Value.slice.injEq] at h';exact h'.2.1.symm
theorem eT {e : TypeId} {size : Nat} {m : Nat} {ys : List Value} {v : Value} (h : w.ownsRow base e size v m ys) : (v = .slice none 0 0 ∧ m = 0) ∨ ∃ g c,v = .slice (some ⟨g,0,none⟩) m c ∧ base ≤ g ∧ g < w.heap.size ∧ m ≤ c ∧ c ≤ maxLen:=by
 rcases h.2 with h | ⟨g,cap,cur,rfl,hb,hg,wN,hm,tC,tD⟩
 ·exact .inl h
 ·exact .inr ⟨g,cap,rfl,hb,(Array.getElem?_eq_some_iff.1 hg).1,wN,hm⟩
theorem de.at_ (h : de e R w base (.slice (some ⟨g,0,none⟩) n c) xs S) {k : Nat} {x : β} (hx : xs[k]? = some x) : ∃ u T,w.cell? ⟨g,k,none⟩ = some u ∧ w.frozen? ⟨g,k,none⟩ = false ∧ R w base u x T ∧ (∀ j ∈ T,j ∈ S) ∧ g ∉ T ∧ g ∈ S:=by
 obtain ⟨vs,Ss,h1,h2,h3,h4,h5⟩:=h;have hk : k < xs.length:=aq hx;have hn:=ia h1;have hvl : vs.length = xs.length:=by simpa using h1.1
 obtain ⟨u,hu⟩:=aW vs k (by omega);obtain ⟨T,hT⟩:=aW Ss k (by omega);subst hn;refine ⟨u,T,?_,h1.frozenAt k,h3 k u x T hu hx hT,fun j hj => ?_,fun hg => ?_,?_⟩
 ·rw [h1.cellAt (cap:=c) k (by omega)];exact hu
 ·rw [h4];exact List.mem_append_right _ (List.mem_flatten.2 ⟨T,List.mem_of_getElem? hT,hj⟩)
 ·rw [h4] at h5
  have:=(List.nodup_append.1 h5).2.2 g (by simp [Value.ownBlock]) g (List.mem_flatten.2 ⟨T,List.mem_of_getElem? hT,hg⟩)
  exact this rfl
 ·rw [h4];simp [Value.ownBlock]
theorem fJ {Ss : List (List Nat)} {k j : Nat} {T : List Nat} (h : j ∈ (Ss.set k T).flatten) : j ∈ Ss.flatten ∨ j ∈ T:=by
 obtain ⟨U,hU,hj⟩:=List.mem_flatten.1 h;rcases List.mem_or_eq_of_mem_set hU with h1 | h1
 ·exact .inl (List.mem_flatten.2 ⟨U,h1,hj⟩)
 ·subst h1;exact .inr hj
theorem k8 {Ss : List (List Nat)} {k : Nat} {T : List Nat} (h : Ss.flatten.Nodup) (hT : T.Nodup) (hd : ∀ i j U,i ≠ k → Ss[i]? = some U → j ∈ U → j ∉ T) : (Ss.set k T).flatten.Nodup:=by
 induction Ss generalizing k with
 | nil => simp
 | cons U Ss ih =>
  rw [List.flatten_cons,List.nodup_append] at h
  cases k with
  | zero =>
   rw [List.set_cons_zero,List.flatten_cons,List.nodup_append];refine ⟨hT,h.2.1,fun a ha b hb pt => ?_⟩
   subst pt;obtain ⟨V,hV,hbV⟩:=List.mem_flatten.1 hb;obtain ⟨i,hi⟩:=List.mem_iff_getElem?.1 hV;exact hd (i + 1) a V (by omega) (by simpa using hi) hbV ha
  | succ k =>
   rw [List.set_cons_succ,List.flatten_cons,List.nodup_append];refine ⟨h.1,ih h.2.1 (fun i j V hi hV hj => hd (i + 1) j V (by omega) (by simpa using hV) hj),fun a ha b hb pt => ?_⟩
   subst pt;rcases fJ hb with hb | hb
   ·exact h.2.2 a ha a hb rfl
   ·exact hd 0 a U (by omega) (by simp) ha hb
theorem mm {Ss : List (List Nat)} (h : Ss.flatten.Nodup) {i j x : Nat} {U V : List Nat} (Aw : i ≠ j) (hU : Ss[i]? = some U) (hV : Ss[j]? = some V) (hx : x ∈ U) : x ∉ V:=by
 induction Ss generalizing i j with
 | nil => simp at hU
 | cons W Ss ih =>
  rw [List.flatten_cons,List.nodup_append] at h
  cases i with
  | zero =>
   cases j with
   | zero => omega
   | succ j =>
    simp at hU hV
    subst hU;exact fun SH => h.2.2 x hx x (List.mem_flatten.2 ⟨V,List.mem_of_getElem? hV,SH⟩) rfl
  | succ i =>
   cases j with
   | zero =>
    simp at hU hV
    subst hV;exact fun SH => h.2.2 x SH x (List.mem_flatten.2 ⟨U,List.mem_of_getElem? hU,hx⟩) rfl
   | succ j => exact ih (i:=i) (j:=j) h.2.1 (by omega) (by simpa using hU) (by simpa using hV)
theorem de.store (L : f8 R) (h : de e R w base (.slice (some ⟨g,0,none⟩) n c) xs S) (k : Nat) {u : Value} {x : β} {T : List Nat} (hR : R w base u x T) (hd : ∀ j ∈ T,j ∉ S) :
  ∃ S',de e R (w.setCell ⟨g,k,none⟩ u) base (.slice (some ⟨g,0,none⟩) n c) (xs.set k x) S' ∧ (∀ j ∈ S',j ∈ S ∨ j ∈ T):=by
 obtain ⟨vs,Ss,h1,h2,h3,h4,h5⟩:=h;have hn:=ia h1;subst hn;have hvl : vs.length = xs.length:=by simpa using h1.1
 have rV:=h5;rw [h4,List.nodup_append] at rV
 have Ax : g ∈ S:=by rw [h4];simp [Value.ownBlock]
 have OO : g ∉ Ss.flatten:=fun hg => rV.2.2 g (by simp [Value.ownBlock]) g hg rfl
 have gE : ∀ j,j ≠ g → (w.setCell ⟨g,k,none⟩ u).heap[j]? = w.heap[j]?:=fun j hj => Below.heap_setCell w _ _ j hj
 refine ⟨(Value.slice (some ⟨g,0,none⟩) xs.length c).ownBlock.toList ++ (Ss.set k T).flatten,⟨vs.set k u,Ss.set k T,?_,by simp [h2],?_,rfl,?_⟩,?_⟩
 ·have:=(h1.stored k u).1
  rw [List.length_set];exact this
 ·intro j u' x' T' hu hx hT
  have hj : j < xs.length:=by have:=aq hx;simpa using this
  by_cases lO : k = j
  ·subst lO;rw [List.getElem?_set_self (by omega)] at hu hx hT
   cases hu;cases hx;cases hT
   exact L.stable hR (fun i hi => gE i (fun e => hd i hi (e ▸ Ax)))
  ·rw [List.getElem?_set_ne lO] at hu hx hT;refine L.stable (h3 j u' x' T' hu hx hT) (fun i hi => gE i (fun e => OO ?_))
   subst e;exact List.mem_flatten.2 ⟨T',List.mem_of_getElem? hT,hi⟩
 ·rw [List.nodup_append];refine ⟨rV.1,k8 rV.2.1 (L.nodup hR) (fun i j U _ hU hj Y6 => hd j Y6 ?_),fun a ha b hb pt => ?_⟩
  ·rw [h4];exact List.mem_append_right _ (List.mem_flatten.2 ⟨U,List.mem_of_getElem? hU,hj⟩)
  ·subst pt;simp [Value.ownBlock] at ha
   subst ha;rcases fJ hb with hb | hb
   ·exact OO hb
   ·exact hd a hb Ax
 ·intro j hj;rcases List.mem_append.1 hj with hj | hj
  ·left;rw [h4];exact List.mem_append_left _ hj
  ·rcases fJ hj with hj | hj
   ·left;rw [h4];exact List.mem_append_right _ hj
   ·exact .inr hj
theorem de.touch (L : f8 R) (h : de e R w base (.slice (some ⟨g,0,none⟩) n c) xs S) {k : Nat} {x : β} (hx : xs[k]? = some x) :
  ∃ u T,w.cell? ⟨g,k,none⟩ = some u ∧ R w base u x T ∧ (∀ j ∈ T,j ∈ S) ∧ (∀ (x' : β) (w' : World),R w' base u x' T → aU T w w' → de e R w' base (.slice (some ⟨g,0,none⟩) n c) (xs.set k x') S):=by
 obtain ⟨vs,Ss,h1,h2,h3,h4,h5⟩:=h;have hk : k < xs.length:=aq hx;have hn:=ia h1;subst hn;have hvl : vs.length = xs.length:=by simpa using h1.1
 obtain ⟨u,hu⟩:=aW vs k (by omega);obtain ⟨T,hT⟩:=aW Ss k (by omega);have rV:=h5;rw [h4,List.nodup_append] at rV;have OO : g ∉ Ss.flatten:=fun hg => rV.2.2 g (by simp [Value.ownBlock]) g hg rfl
 refine ⟨u,T,by rw [h1.cellAt (cap:=c) k (by omega)];exact hu,h3 k u x T hu hx hT,fun j hj => by rw [h4];exact List.mem_append_right _ (List.mem_flatten.2 ⟨T,List.mem_of_getElem? hT,hj⟩),fun x' w' hR ho => ?_⟩
 have MQ : g ∉ T:=fun hg => OO (List.mem_flatten.2 ⟨T,List.mem_of_getElem? hT,hg⟩)
 refine ⟨vs,Ss,?_,by simp [h2],?_,h4,h5⟩
 ·rw [List.length_set];refine aO h1 (fun j hj => ?_)
  simp [Value.ownBlock] at hj
  subst hj;exact ho.block j (World.ownsRow.lt h1 j (by simp [Value.ownBlock])).2 MQ
 ·intro j u' y T' IR hy xO
  by_cases lO : k = j
  ·subst lO;rw [List.getElem?_set_self (by omega)] at hy;cases hy
   rw [hu] at IR;cases IR
   rw [hT] at xO;cases xO
   exact hR
  ·rw [List.getElem?_set_ne lO] at hy;refine L.only (h3 j u' y T' IR hy xO) ho (fun i hi hiT => ?_)
   exact mm rV.2.1 lO hT xO hiT hi
theorem de.made {x0 : β} (m : Nat) (hm : m ≤ maxLen) (h0 : ∀ w base,R w base (.slice none 0 0) x0 []) (w : World) :
  de e R (w.alloc (.cells (List.replicate m (Value.slice none 0 0)).toArray e)) w.heap.size (.slice (some ⟨w.heap.size,0,none⟩) m m) (List.replicate m x0) [w.heap.size]:=by
 refine ⟨List.replicate m (Value.slice none 0 0),List.replicate m [],?_,by simp,?_,by simp [Value.ownBlock],by simp⟩
 ·have:=World.ownsRow_lit (base:=w.heap.size) (e:=e) (size:=1) w (List.replicate m (Value.slice none 0 0)).toArray m (Nat.le_refl _) hm (by simp)
  simpa using this
 ·intro k u x T hu hx hT;have IR:=List.mem_of_getElem? hu;have MR:=List.mem_of_getElem? hx;have xO:=List.mem_of_getElem? hT;rw [List.mem_replicate] at IR MR xO;rw [IR.2,MR.2,xO.2];exact h0 _ _
end
def ni (e : Int × Int) : List Value:=[.int .i64 e.1,.int .i64 e.2]
def eU : World → Nat → Value → List (Int × Int) → List Nat → Prop:=ON 83 2 ni
theorem jA : f8 eU:=Jq _ _ _
def tS : World → Nat → Value → List (List (Int × Int)) → List Nat → Prop:=de 81 eU
theorem kv : f8 tS:=qs _ jA
def nj (w : World) (base : Nat) (v : Value) (xs : List Int) (S : List Nat) : Prop:=Own w base v xs ∧ S = v.ownBlock.toList
theorem gQ : f8 nj where
 stable:=fun ⟨h,hS⟩ hs => ⟨aO h (fun k hk => hs k (by rw [hS];exact hk)),hS⟩
 range:=fun ⟨h,hS⟩ k hk => World.ownsRow.lt h k (by rw [hS] at hk;simpa using hk)
 nodup:=fun {_ _ v _ _} ⟨_,hS⟩ => by rw [hS];cases v.ownBlock <;> simp
 mono:=fun ⟨h,hS⟩ hb => ⟨ka h hb,hS⟩
 one:=fun ⟨h,_⟩ => nh h
theorem nk {es : List (Int × Int)} {k : Nat} {x : Int × Int} (h : es[k]? = some x) : (es.flatMap ni)[k * 2]? = some (.int .i64 x.1) ∧ (es.flatMap ni)[k * 2 + 1]? = some (.int .i64 x.2):=by
 induction es generalizing k with
 | nil => simp at h
 | cons e es ih =>
  cases k with
  | zero => simp at h;subst h;simp [ni]
  | succ k =>
   have:=ih (k:=k) (by simpa using h)
   rw [List.flatMap_cons,show (k + 1) * 2 = k * 2 + 2 by omega]
   simp only [ni,List.cons_append,List.nil_append]
   exact ⟨by simpa using this.1,by rw [show k * 2 + 2 + 1 = (k * 2 + 1) + 1 + 1 by omega];simpa using this.2⟩
theorem Jr {es : List (Int × Int)} {k : Nat} (x : Int × Int) (h : k < es.length) : ((es.flatMap ni).set (k * 2) (.int .i64 x.1)).set (k * 2 + 1) (.int .i64 x.2) = (es.set k x).flatMap ni:=by
 induction es generalizing k with
 | nil => simp at h
 | cons e es ih =>
  cases k with
  | zero => simp [ni]
  | succ k =>
   have:=ih (k:=k) (by simpa using h)
   rw [List.flatMap_cons,show (k + 1) * 2 = k * 2 + 1 + 1 by omega]
   simp only [ni,List.cons_append,List.nil_append,List.set_cons_succ,List.flatMap_cons] at this ⊢
   rw [this]
theorem Ay (es : List (Int × Int)) : (es.flatMap ni).length = es.length * 2:=by
 induction es with
 | nil => rfl
 | cons e es ih => rw [List.flatMap_cons,List.length_append,ih,List.length_cons];simp [ni];omega
theorem eU.read {w : World} {base : Nat} {v : Value} {es : List (Int × Int)} {S : List Nat} (h : eU w base v es S) : tJ w v es:=by
 obtain ⟨h,hS⟩:=h;rcases eT h with ⟨rfl,h0⟩ | ⟨g,c,rfl,hb,hg,hc,hm⟩
 ·obtain rfl : es = []:=List.eq_nil_of_length_eq_zero h0
  exact ⟨none,0,rfl,Nat.le_refl _,Nat.zero_le _,fun k x hk => by simp at hk⟩
 ·refine ⟨_,c,rfl,hc,hm,fun k x hk => ⟨g,0,rfl,?_,?_⟩⟩
  ·have:=aq hk
   rw [Nat.zero_add,h.cellAt (cap:=c) _ (by omega)];exact (nk hk).1
  ·have:=aq hk
   rw [Nat.zero_add,h.cellAt (cap:=c) _ (by omega)];exact (nk hk).2
theorem tS.read {w : World} {base : Nat} {v : Value} {jO : List (List (Int × Int))} {S : List Nat} (h : tS w base v jO S) : oX w v jO:=by
 obtain ⟨vs,Ss,h1,h2,h3,h4,h5⟩:=h;rcases eT h1 with ⟨rfl,h0⟩ | ⟨g,c,rfl,hb,hg,hc,hm⟩
 ·obtain rfl : jO = []:=List.eq_nil_of_length_eq_zero h0
  exact ⟨none,0,rfl,Nat.le_refl _,Nat.zero_le _,fun k x hk => by simp at hk⟩
 ·have hvl : vs.length = jO.length:=by simpa using h1.1
  refine ⟨_,c,rfl,hc,hm,fun k x hk => ?_⟩
  have hlt:=aq hk;obtain ⟨u,hu⟩:=aW vs k (by omega);obtain ⟨T,hT⟩:=aW Ss k (by omega)
  exact ⟨g,0,u,rfl,by rw [Nat.zero_add,h1.cellAt (cap:=c) _ (by omega)];exact hu,eU.read (h3 k u x T hu hk hT)⟩
def oZ : List (List (Int × Int)) → Nat
 | [] => 0
 | es :: r => 2 * es.length + oZ r
theorem eU.cells {w : World} {base g c n : Nat} {es : List (Int × Int)} {S : List Nat} (h : eU w base (.slice (some ⟨g,0,none⟩) n c) es S) {k : Nat} {x : Int × Int} (hx : es[k]? = some x) :
  w.cell? ⟨g,k * 2,none⟩ = some (.int .i64 x.1) ∧ w.cell? ⟨g,k * 2 + 1,none⟩ = some (.int .i64 x.2) ∧ w.frozen? ⟨g,k * 2,none⟩ = false ∧ w.frozen? ⟨g,k * 2 + 1,none⟩ = false:=by
 obtain ⟨h,_⟩:=h;have hn:=ia h;subst hn
 have:=aq hx
 exact ⟨by rw [h.cellAt (cap:=c) _ (by omega)];exact (nk hx).1,by rw [h.cellAt (cap:=c) _ (by omega)];exact (nk hx).2,h.frozenAt _,h.frozenAt _⟩
theorem eU.set {w : World} {base g c n : Nat} {es : List (Int × Int)} {S : List Nat} (h : eU w base (.slice (some ⟨g,0,none⟩) n c) es S) {k : Nat} (hk : k < es.length) (x : Int × Int) :
  eU ((w.setCell ⟨g,k * 2,none⟩ (.int .i64 x.1)).setCell ⟨g,k * 2 + 1,none⟩ (.int .i64 x.2)) base (.slice (some ⟨g,0,none⟩) n c) (es.set k x) S:=by
 obtain ⟨h,hS⟩:=h;have hn:=ia h;subst hn;have h1:=(h.stored (k * 2) (.int .i64 x.1)).1;have h2:=(h1.stored (k * 2 + 1) (.int .i64 x.2)).1;rw [Jr x hk] at h2;refine ⟨?_,hS⟩;rw [List.length_set];exact h2
def aA (w : World) (base : Nat) (ve vi vn : Value) (n : am) (S : List Nat) : Prop:=
 ∃ S1 S2 S3,tS w base ve n.ends S1 ∧ nj w base vi n.ids S2 ∧ nj w base vn n.inputs S3 ∧ S = S1 ++ (S2 ++ S3) ∧ S.Nodup
theorem aA.read {w : World} {base : Nat} {ve vi vn : Value} {n : am} {S : List Nat} (h : aA w base ve vi vn n S) : aT w ve vi vn n:=by
 obtain ⟨S1,S2,S3,h1,h2,h3,_⟩:=h;exact ⟨tS.read h1,h2.1.ints,h3.1.ints⟩
theorem aA.range {w : World} {base : Nat} {ve vi vn : Value} {n : am} {S : List Nat} (h : aA w base ve vi vn n S) : ∀ k ∈ S,base ≤ k ∧ k < w.heap.size:=by
 obtain ⟨S1,S2,S3,h1,h2,h3,h4,_⟩:=h;intro k hk;rw [h4] at hk;rcases List.mem_append.1 hk with hk | hk
 ·exact kv.range h1 k hk
 ·rcases List.mem_append.1 hk with hk | hk
  ·exact gQ.range h2 k hk
  ·exact gQ.range h3 k hk
theorem aA.stable {w w' : World} {base : Nat} {ve vi vn : Value} {n : am} {S : List Nat} (h : aA w base ve vi vn n S) (hs : ∀ k ∈ S,w'.heap[k]? = w.heap[k]?) : aA w' base ve vi vn n S:=by
 obtain ⟨S1,S2,S3,h1,h2,h3,h4,h5⟩:=h
 exact ⟨S1,S2,S3,kv.stable h1 (fun k hk => hs k (by rw [h4];simp [hk])),gQ.stable h2 (fun k hk => hs k (by rw [h4];simp [hk])),gQ.stable h3 (fun k hk => hs k (by rw [h4];simp [hk])),h4,h5⟩
theorem aA.keep {w w' : World} {base : Nat} {ve vi vn : Value} {n : am} {S : List Nat} (h : aA w base ve vi vn n S) (hb : Below w.heap.size w w') : aA w' base ve vi vn n S:=
 h.stable fun k hk => hb.block k (h.range k hk).2
theorem aA.mono {w : World} {base ks : Nat} {ve vi vn : Value} {n : am} {S : List Nat} (h : aA w base ve vi vn n S) (hb : ks ≤ base) : aA w ks ve vi vn n S:=by
 obtain ⟨S1,S2,S3,h1,h2,h3,h4,h5⟩:=h;exact ⟨S1,S2,S3,kv.mono h1 hb,gQ.mono h2 hb,gQ.mono h3 hb,h4,h5⟩
def TQ (x y : List Int) : Bool:=decide (x = y)
theorem Fp : (Tryz.prog.info? 81).map (fun i => (i.zero,i.size,i.bytes)) = some (some (.slice none 0 0),1,24):=by kernel_rfl
theorem Az : (Tryz.prog.info? 83).map (fun i => (i.zero,i.size,i.bytes)) = some (some (.agg #[.int .i64 0,.int .i64 0]),2,16):=by kernel_rfl
theorem AA (z : Value) (n : Nat) : madeCells #[z] (n * 1) = Array.replicate n z:=by
 apply Array.ext'
 rw [toList_madeCells_one];simp
theorem AB (n : Nat) (hn : n ≤ 1000000) (W : World) : (Instr.makeSlice 24 (.int .i64 (n : Int)) (.int .i64 (n : Int))).run Tryz.prog W = .ok (.slice (some ⟨W.heap.size,0,none⟩) n n) (W.alloc (.cells (Array.replicate n (Value.slice none 0 0)) 81)):=by
 obtain ⟨i0,hi,kg,eF,eD⟩:=info_parts Fp
 have hr:=run_make (P:=Tryz.prog) W 24 81 i0 (.slice none 0 0) Tryz.underlying24 hi kg .i64 .i64 n n (by omega) (Int.le_refl _) (by rw [eD];omega) (by omega)
 rw [eF] at hr;simp only [Int.toNat_natCast] at hr;rw [show (Value.slice none 0 0).cells = #[Value.slice none 0 0] from rfl,AA] at hr
 exact hr
theorem rW (n : Nat) (hn : n ≤ 1000000) (W : World) : (Instr.makeSlice 25 (.int .i64 (n : Int)) (.int .i64 (n : Int))).run Tryz.prog W = .ok (.slice (some ⟨W.heap.size,0,none⟩) n n) (W.alloc (.cells (Array.replicate n (Value.int .i64 0)) 3)):=by
 obtain ⟨i0,hi,kg,eF,eD⟩:=info_parts kr
 have hr:=run_make (P:=Tryz.prog) W 25 3 i0 (.int .i64 0) Tryz.underlying25 hi kg .i64 .i64 n n (by omega) (Int.le_refl _) (by rw [eD];omega) (by omega)
 rw [eF] at hr;simp only [Int.toNat_natCast] at hr;rw [show (Value.int IntKind.i64 0).cells = #[Value.int .i64 0] from rfl,AA] at hr
 exact hr
def dl (n : Nat) : am:={ ends:=List.replicate n [],ids:=[],inputs:=List.replicate n 0 }
theorem tT (w : World) (base : Nat) : eU w base (.slice none 0 0) [] []:=⟨World.ownsRow_nil w base _ _,rfl⟩
theorem kw (w : World) (base : Nat) : nj w base (.slice none 0 0) [] []:=⟨cH w base,rfl⟩
theorem AC (w : World) (n : Nat) (hn : n ≤ 1000000) : nj (w.alloc (.cells (Array.replicate n (Value.int .i64 0)) 3)) w.heap.size (.slice (some ⟨w.heap.size,0,none⟩) n n) (List.replicate n 0) [w.heap.size]:=by
 have:=jk w (List.replicate n 0) (by simp [maxLen];omega)
 simp only [List.length_replicate,List.map_replicate,List.toArray_replicate] at this;exact ⟨this,rfl⟩
theorem tU (w : World) (n : Nat) (hn : n ≤ 1000000) : tS (w.alloc (.cells (Array.replicate n (Value.slice none 0 0)) 81)) w.heap.size (.slice (some ⟨w.heap.size,0,none⟩) n n) (List.replicate n []) [w.heap.size]:=
 by have:=de.made (R:=eU) (e:=81) n (by simp [maxLen];omega) tT w;rw [List.toArray_replicate] at this;exact this
theorem Dd (w : World) (B : Obj) (n : Nat) (hn : n ≤ 1000000) :
  aA (((w.alloc B).alloc (.cells (Array.replicate n (Value.slice none 0 0)) 81)).alloc (.cells (Array.replicate n (Value.int .i64 0)) 3)) w.heap.size
   (.slice (some ⟨w.heap.size + 1,0,none⟩) n n) (.slice none 0 0) (.slice (some ⟨w.heap.size + 1 + 1,0,none⟩) n n) (dl n) [w.heap.size + 1,w.heap.size + 1 + 1]:=by
 have h1:=tU (w.alloc B) n hn;have h2:=AC ((w.alloc B).alloc (.cells (Array.replicate n (Value.slice none 0 0)) 81)) n hn;simp only [World.size_alloc] at h1 h2;exact ⟨[w.heap.size + 1],[],[w.heap.size + 1 + 1],kv.mono (kv.keep h1 (au _ _)) (by omega),kw _ _,gQ.mono h2 (by omega),rfl,by simp⟩
theorem AD (w : World) (B : Obj) (n : Nat) (hn : n ≤ 1000000) :
  aA (((w.alloc B).alloc (.cells (Array.replicate n (Value.int .i64 0)) 3)).alloc (.cells (Array.replicate n (Value.slice none 0 0)) 81)) w.heap.size
   (.slice (some ⟨w.heap.size + 1 + 1,0,none⟩) n n) (.slice none 0 0) (.slice (some ⟨w.heap.size + 1,0,none⟩) n n) (dl n) [w.heap.size + 1 + 1,w.heap.size + 1]:=by
 have h1:=AC (w.alloc B) n hn;have h2:=tU ((w.alloc B).alloc (.cells (Array.replicate n (Value.int .i64 0)) 3)) n hn;simp only [World.size_alloc] at h1 h2;exact ⟨[w.heap.size + 1 + 1],[],[w.heap.size + 1],kv.mono h2 (by omega),kw _ _,gQ.mono (gQ.keep h1 (au _ _)) (by omega),rfl,by simp⟩
theorem Js (w : World) (a b c : Obj) : Below w.heap.size w (((w.alloc a).alloc b).alloc c):=(((Below.refl _ _).alloc (Nat.le_refl _) _).alloc (by simp) _).alloc (by simp;omega) _
theorem aA.drew {w : World} {base : Nat} {ve vi vn : Value} {n : am} {S : List Nat} (h : aA w base ve vi vn n S) : aA w.drew base ve vi vn n S:=h.stable fun _ _ => rfl
def pu (w : World) (n : am) (e : Ending) (w' : World) : Prop:=∃ ve vi vn S,e = .returned (.agg #[ve,vi,vn]) ∧ aA w' w.heap.size ve vi vn n S ∧ Below w.heap.size w w'
theorem aA.storeRow {w : World} {base g c n : Nat} {vi vn : Value} {N : am} {S : List Nat} (h : aA w base (.slice (some ⟨g,0,none⟩) n c) vi vn N S) (k : Nat) {u : Value} {x : List (Int × Int)} {T : List Nat} (hR : eU w base u x T) (hd : ∀ j ∈ T,j ∉ S) :
  ∃ S',aA (w.setCell ⟨g,k,none⟩ u) base (.slice (some ⟨g,0,none⟩) n c) vi vn { N with ends:=N.ends.set k x } S' ∧ ∀ j ∈ S',j ∈ S ∨ j ∈ T:=by
 obtain ⟨S1,S2,S3,h1,h2,h3,h4,h5⟩:=h;rw [h4,List.nodup_append] at h5;obtain ⟨n1,n2,n3⟩:=h5
 have hg : g ∈ S1:=by
  obtain ⟨vs,Ss,_,_,_,e,_⟩:=h1
  rw [e];simp [Value.ownBlock]
 obtain ⟨MS,o1,hs⟩:=de.store jA h1 k hR (fun j hj hS => hd j hj (by rw [h4];exact List.mem_append_left _ hS))
 have ho : aU [g] w (w.setCell ⟨g,k,none⟩ u):=(aU.refl _ _).setCell (.inl (by simp)) _
 have d : ∀ j ∈ S2 ++ S3,j ∉ [g]:=fun j hj hg' => by simp at hg';subst hg';exact n3 j hg j hj rfl
 refine ⟨MS ++ (S2 ++ S3),⟨MS,S2,S3,o1,gQ.only h2 ho (fun j hj => d j (List.mem_append_left _ hj)),gQ.only h3 ho (fun j hj => d j (List.mem_append_right _ hj)),rfl,?_⟩,?_⟩
 ·rw [List.nodup_append];refine ⟨kv.nodup o1,n2,fun a ha b hb pt => ?_⟩
  subst pt;rcases hs a ha with h | h
  ·exact n3 a h a hb rfl
  ·exact hd a h (by rw [h4];exact List.mem_append_right _ hb)
 ·intro j hj;rcases List.mem_append.1 hj with hj | hj
  ·rcases hs j hj with h | h
   ·exact .inl (by rw [h4];exact List.mem_append_left _ h)
   ·exact .inr h
  ·exact .inl (by rw [h4];exact List.mem_append_right _ hj)
theorem aA.rowCell {w : World} {base g c n : Nat} {vi vn : Value} {N : am} {S : List Nat} (h : aA w base (.slice (some ⟨g,0,none⟩) n c) vi vn N S) {k : Nat} {x : List (Int × Int)} (hx : N.ends[k]? = some x) :
  ∃ u T,w.cell? ⟨g,k,none⟩ = some u ∧ w.frozen? ⟨g,k,none⟩ = false ∧ eU w base u x T ∧ base ≤ g ∧ g < w.heap.size ∧ g ∈ S:=by
 obtain ⟨S1,S2,S3,h1,_,_,h4,_⟩:=h;obtain ⟨u,T,a,b,c,_,_,d⟩:=de.at_ h1 hx
 exact ⟨u,T,a,b,c,(kv.range h1 g d).1,(kv.range h1 g d).2,by rw [h4];exact List.mem_append_left _ d⟩
def bH (w : World) (b : Nat) (x y z : Value) : Prop:=∃ r,w.heap[b]? = some (.cells #[x,y,z] r)
theorem bH.cells {w : World} {b : Nat} {x y z : Value} (h : bH w b x y z) : w.cell? ⟨b,0,none⟩ = some x ∧ w.cell? ⟨b,1,none⟩ = some y ∧ w.cell? ⟨b,2,none⟩ = some z ∧ w.frozen? ⟨b,0,none⟩ = false ∧ w.frozen? ⟨b,1,none⟩ = false ∧ w.frozen? ⟨b,2,none⟩ = false:=by
 obtain ⟨r,h⟩:=h;simp [World.cell?,World.frozen?,h]
theorem bH.lt {w : World} {b : Nat} {x y z : Value} (h : bH w b x y z) : b < w.heap.size:=by
 obtain ⟨r,h⟩:=h;exact (Array.getElem?_eq_some_iff.1 h).1
theorem bH.below {w w' : World} {B b : Nat} {x y z : Value} (h : bH w b x y z) (hb : Below B w w') (hB : b < B) : bH w' b x y z:=by
 obtain ⟨r,h⟩:=h;exact ⟨r,(hb.block b hB).trans h⟩
theorem bH.set {w : World} {b : Nat} {x y z u : Value} {a : Addr} (h : bH w b x y z) (ha : a.block ≠ b) : bH (w.setCell a u) b x y z:=by
 obtain ⟨r,h⟩:=h;exact ⟨r,(Below.heap_setCell w a u b (Ne.symm ha)).trans h⟩
theorem bH.alloc {w : World} {b : Nat} {x y z : Value} (h : bH w b x y z) (o : Obj) : bH (w.alloc o) b x y z:=h.below (au w o) h.lt
theorem bH.new (w : World) (x y z : Value) (t : TypeId) : bH (w.alloc (.cells #[x,y,z] t)) w.heap.size x y z:=⟨t,by show (w.heap.push _)[w.heap.size]? = _;rw [Array.getElem?_push_size]⟩
theorem Gu (w : World) (a b c d : Int) : eU (w.alloc (.cells #[.int .i64 a,.int .i64 b,.int .i64 c,.int .i64 d] 83)) w.heap.size (.slice (some ⟨w.heap.size,0,none⟩) 2 2) [(a,b),(c,d)] [w.heap.size]:=by
 have:=World.ownsRow_lit (base:=w.heap.size) (e:=83) (size:=2) w #[.int .i64 a,.int .i64 b,.int .i64 c,.int .i64 d] 2 (Nat.le_refl _) (by simp [maxLen]) (by simp)
 exact ⟨this,rfl⟩
def gJ (n : Nat) : List Int:=(List.range n).map Int.ofNat
theorem fe (n : Nat) : (gJ n).length = n:=by simp [gJ]
theorem AE {n k : Nat} (h : k < n) : (gJ n)[k]? = some (k : Int):=by simp [gJ,h]
theorem jm (n : Nat) (hn : n ≤ 1000000) (w : World) : Calls Tryz.prog 101 #[.int .i64 n] w fun e w' => ∃ u,e = .returned u ∧ Own w' w.heap.size u (gJ n) ∧ Below w.heap.size w w':=by
 go_enter Tryz.func101,Tryz.ntmps101
 go_wp2_with (at_make;refine k6 _ rfl _ _ rfl _ _ n rfl rfl rfl rfl (by omega) ?_;intro w1 iu bj eF)
 go_loopw [9] (fun i wr => ∃ k : Nat,k ≤ n ∧ i = .int .i64 k ∧ Own wr w.heap.size (.slice (some ⟨w.heap.size,0,none⟩) n n) ((gJ n).take k ++ List.replicate (n - k) 0) ∧ Below w.heap.size w wr) (fun i _ => n - (intOf i).toNat)
 case atStart => exact ⟨0,Nat.zero_le _,rfl,by simpa using iu,bj⟩
 case round =>
  obtain ⟨k,hk,rfl,ho,hb⟩:=hrel;clear iu bj eF;have Ho:=zh ho;have Hb:=zh hb
  by_cases hlt : k < n
  ·have hf:=ho.free k
   obtain ⟨y,hy⟩:=aW ((gJ n).take k ++ List.replicate (n - k) 0) k (by simp [fe];omega)
   have lm:=ho.cell hy;clear hy ho hb;go_wp2;go_roundw
   case rel =>
    refine ⟨k + 1,by omega,by go_num,?_,Hb.out.setCell (Nat.le_refl _) _⟩
    have:=Ho.out.set (k:=k) (k : Int)
    have e:=Ah 0 (gJ n) k (k : Int) (AE hlt);rw [fe] at e
    rwa [e] at this
   case measure => simp [intOf];omega
  ·go_wp2;go_ret;refine ⟨_,rfl,?_,Hb.out⟩
   have:=Ho.out
   rwa [iC (gJ n) (by rw [fe];exact hlt),show n - k = 0 by omega,List.replicate_zero,List.append_nil] at this
theorem Fq {w : World} {ops : Array Oper} {rest : List Oper} {o : Oper} {a : Act} {Q : Exit → Act → World → Prop} (iS : o.guard = none) (s x : Operand)
  (ho : o.op = .call { callee:=.builtin .append,args:=#[s,x],argTypes:=#[25,25] }) {base : Nat} {v : Value} {xs : List Int} (hs : a.eval s = v) (h : Own w base v xs) (b : Nat) (y : Int)
  (hx : a.eval x = .slice (some ⟨b,0,none⟩) 1 1) (hc : w.cell? ⟨b,0,none⟩ = some (.int .i64 y)) (hl : xs.length + 1 ≤ 17592186044416) (ky : base ≤ w.heap.size)
  (k : ∀ g cap w',Own w' base (.slice (some ⟨g,0,none⟩) (xs.length + 1) cap) (xs ++ [y]) → w.grownBy w' v.ownBlock → (v.ownBlock = some g ∨ g = w.heap.size) → g < w'.heap.size → wpList Tryz.prog ops Q rest (a.put o.dst (.slice (some ⟨g,0,none⟩) (xs.length + 1) cap)) w') : wpList Tryz.prog ops Q (o :: rest) a w:=by
 obtain ⟨i0,hi,kg,eF,eD⟩:=info_parts kr
 refine wpList_append_lies w iS s x 25 ho base 3 i0 (.int .i64 0) 1 8 Tryz.underlying25 hi kg eF eD rfl (by decide) v xs.length (xs.map (Value.int .i64)) hs h ⟨b,0,none⟩ 1 1 [.int .i64 y] hx rfl
  (by intro j u hj;match j,hj with | 0,hj => (simp at hj;subst hj;simpa [Addr.add] using hc) | j + 1,hj => simp at hj) (by simp [Value.oneCell']) (by omega) (by unfold maxLen;omega) (by omega) ky w.heap.size rfl ?_
 intro g cap w' h1 h2 h3 h4;refine k g cap w' ?_ h2 h3 h4;unfold Own;simpa using h1
theorem de.grow {β : Type} {R : World → Nat → Value → β → List Nat → Prop} {e : TypeId} {w : World} {base g c n : Nat} {xs : List β} {S : List Nat} (L : f8 R) (h : de e R w base (.slice (some ⟨g,0,none⟩) n c) xs S) {k : Nat} {x : β} (hx : xs[k]? = some x) :
  ∃ u T,w.cell? ⟨g,k,none⟩ = some u ∧ R w base u x T ∧ (∀ j ∈ T,j ∈ S) ∧ g ∉ T ∧ (∀ (u' : Value) (x' : β) (T' : List Nat) (w' : World),R w' base u' x' T' → aU T w w' → (∀ j ∈ T',j ∈ T ∨ w.heap.size ≤ j) → ∃ S',de e R (w'.setCell ⟨g,k,none⟩ u') base (.slice (some ⟨g,0,none⟩) n c) (xs.set k x') S' ∧ ∀ j ∈ S',j ∈ S ∨ w.heap.size ≤ j):=by
 have hS:=(qs e L).range h;obtain ⟨vs,Ss,h1,h2,h3,h4,h5⟩:=h;have hk : k < xs.length:=aq hx;have hn:=ia h1;subst hn;have hvl : vs.length = xs.length:=by simpa using h1.1
 obtain ⟨u,hu⟩:=aW vs k (by omega);obtain ⟨T,hT⟩:=aW Ss k (by omega);have rV:=h5;rw [h4,List.nodup_append] at rV
 have Ax : g ∈ S:=by rw [h4];simp [Value.ownBlock]
 have OO : g ∉ Ss.flatten:=fun hg => rV.2.2 g (by simp [Value.ownBlock]) g hg rfl
 have P8 : ∀ j ∈ T,j ∈ S:=fun j hj => by rw [h4];exact List.mem_append_right _ (List.mem_flatten.2 ⟨T,List.mem_of_getElem? hT,hj⟩)
 have MQ : g ∉ T:=fun hg => OO (List.mem_flatten.2 ⟨T,List.mem_of_getElem? hT,hg⟩)
 refine ⟨u,T,by rw [h1.cellAt (cap:=c) k (by omega)];exact hu,h3 k u x T hu hx hT,P8,MQ,fun u' x' T' w' hR ho xO => ?_⟩
 have Y7:=(hS g Ax).2
 have TR : g ∉ T':=fun hg => by
  rcases xO g hg with h | h
  ·exact MQ h
  ·omega
 have Fr : w'.ownsRow base e 1 (.slice (some ⟨g,0,none⟩) xs.length c) xs.length vs:=aO h1 (fun j hj => by
  simp [Value.ownBlock] at hj
  subst hj
  exact ho.block _ Y7 MQ)
 have gE : ∀ j,j ≠ g → (w'.setCell ⟨g,k,none⟩ u').heap[j]? = w'.heap[j]?:=fun j hj => Below.heap_setCell w' _ _ j hj
 refine ⟨(Value.slice (some ⟨g,0,none⟩) xs.length c).ownBlock.toList ++ (Ss.set k T').flatten,⟨vs.set k u',Ss.set k T',?_,by simp [h2],?_,rfl,?_⟩,?_⟩
 ·have:=(Fr.stored k u').1
  rw [List.length_set];exact this
 ·intro j u2 x2 T2 wU pw SI
  by_cases lO : k = j
  ·subst lO;rw [List.getElem?_set_self (by omega)] at wU pw SI
   cases wU;cases pw;cases SI
   exact L.stable hR (fun i hi => gE i (fun e => TR (e ▸ hi)))
  ·rw [List.getElem?_set_ne lO] at wU pw SI;have h0:=h3 j u2 x2 T2 wU pw SI;refine L.stable h0 (fun i hi => (gE i (fun e => OO ?_)).trans (ho.block i (L.range h0 i hi).2 (mm rV.2.1 (Ne.symm lO) SI hT hi)))
   subst e;exact List.mem_flatten.2 ⟨T2,List.mem_of_getElem? SI,hi⟩
 ·rw [List.nodup_append];refine ⟨rV.1,k8 rV.2.1 (L.nodup hR) (fun i j U jX hU hj Y6 => ?_),fun a ha b hb pt => ?_⟩
  ·rcases xO j Y6 with h | h
   ·exact mm rV.2.1 jX hU hT hj h
   ·have:=(hS j (by rw [h4];exact List.mem_append_right _ (List.mem_flatten.2 ⟨U,List.mem_of_getElem? hU,hj⟩))).2
    omega
  ·subst pt;simp [Value.ownBlock] at ha
   subst ha;rcases fJ hb with hb | hb
   ·exact OO hb
   ·exact TR hb
 ·intro j hj;rcases List.mem_append.1 hj with hj | hj
  ·left;rw [h4];exact List.mem_append_left _ hj
  ·rcases fJ hj with hj | hj
   ·left;rw [h4];exact List.mem_append_right _ hj
   ·rcases xO j hj with h | h
    ·exact .inl (P8 j h)
    ·exact .inr h
theorem aA.growRow {w : World} {base g c n : Nat} {vi vn : Value} {N : am} {S : List Nat} (h : aA w base (.slice (some ⟨g,0,none⟩) n c) vi vn N S) {k : Nat} {x : List (Int × Int)} (hx : N.ends[k]? = some x) :
  ∃ u T,w.cell? ⟨g,k,none⟩ = some u ∧ w.frozen? ⟨g,k,none⟩ = false ∧ eU w base u x T ∧ (∀ j ∈ T,j ∈ S) ∧ g ∉ T ∧ g ∈ S ∧ (∀ (u' : Value) (x' : List (Int × Int)) (T' : List Nat) (w' : World),eU w' base u' x' T' → aU T w w' → (∀ j ∈ T',j ∈ T ∨ w.heap.size ≤ j) →
   ∃ S',aA (w'.setCell ⟨g,k,none⟩ u') base (.slice (some ⟨g,0,none⟩) n c) vi vn { N with ends:=N.ends.set k x' } S' ∧ ∀ j ∈ S',j ∈ S ∨ w.heap.size ≤ j):=by
 have wV:=h.range;obtain ⟨S1,S2,S3,h1,h2,h3,h4,h5⟩:=h;obtain ⟨_,_,_,hf,_,_,_,ib⟩:=de.at_ h1 hx;obtain ⟨u,T,hu,hR,P8,MQ,xP⟩:=de.grow jA h1 hx
 have Y8 : ∀ j ∈ T,j ∈ S:=fun j hj => by rw [h4];exact List.mem_append_left _ (P8 j hj)
 have Ax : g ∈ S:=by rw [h4];exact List.mem_append_left _ ib
 refine ⟨u,T,hu,hf,hR,Y8,MQ,Ax,fun u' x' T' w' Y9 ho xO => ?_⟩
 obtain ⟨MS,o1,hs⟩:=xP u' x' T' w' Y9 ho xO;rw [h4,List.nodup_append] at h5;obtain ⟨n1,n2,n3⟩:=h5;have dL : aU (g :: T) w (w'.setCell ⟨g,k,none⟩ u'):=(ho.mono (fun j hj => List.mem_cons_of_mem _ hj)).setCell (.inl (by simp)) _
 have d : ∀ j ∈ S2 ++ S3,j ∉ g :: T:=fun j hj hg' => by
  rcases List.mem_cons.1 hg' with rfl | hg'
  ·exact n3 _ ib _ hj rfl
  ·exact n3 _ (P8 j hg') _ hj rfl
 refine ⟨MS ++ (S2 ++ S3),⟨MS,S2,S3,o1,gQ.only h2 dL (fun j hj => d j (List.mem_append_left _ hj)),gQ.only h3 dL (fun j hj => d j (List.mem_append_right _ hj)),rfl,?_⟩,?_⟩
 ·rw [List.nodup_append];refine ⟨kv.nodup o1,n2,fun a ha b hb pt => ?_⟩
  subst pt;rcases hs a ha with h | h
  ·exact n3 a h a hb rfl
  ·have:=(wV a (by rw [h4];exact List.mem_append_right _ hb)).2
   omega
 ·intro j hj;rcases List.mem_append.1 hj with hj | hj
  ·rcases hs j hj with h | h
   ·exact .inl (by rw [h4];exact List.mem_append_left _ h)
   ·exact .inr h
  ·exact .inl (by rw [h4];exact List.mem_append_right _ hj)
theorem De (w : World) (base : Nat) : aA w base (.slice none 0 0) (.slice none 0 0) (.slice none 0 0) ⟨[],[],[]⟩ []:=
 ⟨[],[],[],⟨[],[],World.ownsRow_nil w base _ _,rfl,fun k u x T h => by simp at h,rfl,by simp⟩,kw _ _,kw _ _,rfl,by simp⟩
theorem bf {w w' : World} (hb : Below w.heap.size w w') {a : Addr} {u : Value} (h : w.cell? a = some u) (hf : w.frozen? a = false) : w'.frozen? a = false:=(hb.frozen (World.block_lt_of_cell? w _ h)).trans hf
theorem aU.fz {S : List Nat} {a b : World} (h : aU S a b) {p : Addr} {u : Value} (hp : p.block ∉ S) (hc : a.cell? p = some u) (hf : a.frozen? p = false) : b.frozen? p = false:=
 (World.frozen?_of_block (h.block p.block (World.block_lt_of_cell? a _ hc) hp)).trans hf
open Go.ChangeShapes Go.WideShapes Go.ChangeAt Go.RowKit Go.Joins Go.Deep
section
variable {H : Type} {enc : TypeId × Value → H} {W : World}
end
end Go.Proofs.YtgmdpppljkmabaaGreat
