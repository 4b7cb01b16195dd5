/- Parts of the proof: walks of functions and plain laws. -/
import Derived.Test.YtgmdpppljkmabaaGreatP0
import Derived.Test.YtgmdpppljkmabaaGreatP2
import Derived.Test.YtgmdpppljkmabaaGreatP1
set_option maxRecDepth 100000
set_option maxHeartbeats 16000000
namespace Go.Proofs.YtgmdpppljkmabaaGreat
open Go Go.RowKit
def left (l : Int) (n : Nat) : Int:=if l - n < 0 then -1 else l - n
def yP (jO : List (List (Int × Int))) : Nat:=(jO.map List.length).sum
def P9 (jO : List (List (Int × Int))) : Nat:=jO.length + yP jO
def f_ (n : am) : Nat:=P9 n.ends + n.ids.length + n.inputs.length
section
variable {ops : Array Oper} {rest : List Oper} {o : Oper} {a : Act} {Q : Exit → Act → World → Prop}
end
section
variable {ops : Array Oper} {rest : List Oper} {o : Oper} {a : Act} {Q : Exit → Act → World → Prop}
end
theorem bH.put0 {w : World} {b : Nat} {x y z u : Value} (h : bH w b x y z) : bH (w.setCell ⟨b,0,none⟩ u) b u y z:=by
 obtain ⟨r,h⟩:=h;exact ⟨r,by simp [World.setCell,Array.getElem?_modify,h]⟩
theorem bH.put1 {w : World} {b : Nat} {x y z u : Value} (h : bH w b x y z) : bH (w.setCell ⟨b,1,none⟩ u) b x u z:=by
 obtain ⟨r,h⟩:=h;exact ⟨r,by simp [World.setCell,Array.getElem?_modify,h]⟩
theorem bH.put2 {w : World} {b : Nat} {x y z u : Value} (h : bH w b x y z) : bH (w.setCell ⟨b,2,none⟩ u) b x y u:=by
 obtain ⟨r,h⟩:=h;exact ⟨r,by simp [World.setCell,Array.getElem?_modify,h]⟩
def nm (ids : List Int) (fp : Int) : Bool:=((List.range ids.length).all fun i => ee 1 999999 (ids.getD i 0) && !((ids.take i).contains (ids.getD i 0))) && ((ids.length : Int) == 0 || (ids.length : Int) == fp)
theorem fD {ids : List Int} {i : Nat} (h : i < ids.length) : ids.getD i 0 = ids[i]:=by simp [zDd,h]
theorem rX (ids : List Int) : (∀ i (h : i < ids.length),ids[i] ∉ ids.take i) ↔ ids.Nodup:=by
 unfold List.Nodup;rw [List.pairwise_iff_getElem];constructor
 ·intro h i j hi hj Aw e
  refine h j hj (List.mem_iff_getElem.2 ⟨i,by simp;omega,?_⟩)
  rw [List.getElem_take];exact e
 ·intro h i hi hm;obtain ⟨j,hj,e⟩:=List.mem_iff_getElem.1 hm;simp at hj
  rw [List.getElem_take] at e;exact h j i (by omega) hi (by omega) e
theorem Df (lo up : Int) (s : List Int) : qk lo up s = true ↔ (∀ x ∈ s,ee lo up x = true) ∧ s.Pairwise (· < ·):=by
 unfold qk;rw [List.all_eq_true];constructor
 ·intro h
  have h' : ∀ i (hl : i < s.length),ee lo up s[i] = true ∧ (i = 0 ∨ s.getD (i - 1) 0 < s[i]):=fun i hl => by
   have:=h i (List.mem_range.2 hl)
   rw [fD hl] at this;simpa using this
  refine ⟨fun x hx => ?_,?_⟩
  ·obtain ⟨i,hi,rfl⟩:=List.mem_iff_getElem.1 hx;exact (h' i hi).1
  ·rw [List.pairwise_iff_getElem];intro i j hi hj Aw
   induction j with
   | zero => omega
   | succ j ih =>
    have hs:=(h' (j + 1) hj).2;rw [Nat.add_sub_cancel,fD (show j < s.length by omega)] at hs
    rcases Nat.lt_or_ge i j with h1 | h1
    ·have:=ih (by omega) h1
     omega
    ·obtain rfl : i = j:=by omega
     omega
 ·rintro ⟨h1,h2⟩ i hi;have hl:=List.mem_range.1 hi;rw [fD hl];rw [List.pairwise_iff_getElem] at h2;rw [Bool.and_eq_true];refine ⟨h1 _ (List.getElem_mem hl),?_⟩;rcases Nat.eq_zero_or_pos i with h0 | h0
  ·simp [h0]
  ·have:=h2 (i - 1) i (by omega) hl (by omega)
   rw [fD (show i - 1 < s.length by omega)]
   simp [this]
theorem Jt (ids : List Int) (fp : Int) : nm ids fp = true ↔ (∀ x ∈ ids,ee 1 999999 x = true) ∧ ids.Nodup ∧ ((ids.length : Int) = 0 ∨ (ids.length : Int) = fp):=by
 unfold nm;rw [Bool.and_eq_true,List.all_eq_true,← rX];constructor
 ·rintro ⟨h,h2⟩
  have h' : ∀ i (hl : i < ids.length),ee 1 999999 ids[i] = true ∧ ids[i] ∉ ids.take i:=fun i hl => by
   have:=h i (List.mem_range.2 hl)
   rw [fD hl] at this;simpa using this
  refine ⟨fun x hx => ?_,fun i hl => (h' i hl).2,by simpa using h2⟩
  obtain ⟨i,hi,rfl⟩:=List.mem_iff_getElem.1 hx;exact (h' i hi).1
 ·rintro ⟨h1,h2,h3⟩;refine ⟨fun i hi => ?_,by simpa using h3⟩
  have hl:=List.mem_range.1 hi;rw [fD hl,Bool.and_eq_true];exact ⟨h1 _ (List.getElem_mem hl),by simpa using h2 i hl⟩
theorem sS (ids : List Int) (fp : Int) : nm ids fp = sy ids fp:=by
 rw [Bool.eq_iff_iff,Jt]
 cases Dg : ids with
 | nil => simp [sy]
 | cons a l =>
  rw [← Dg]
  have fS : ids.isEmpty = false:=by rw [Dg];rfl
  have Gv : ¬ (ids.length : Int) = 0:=by rw [Dg];simp;omega
  unfold sy;rw [fS,Bool.false_or,Bool.and_eq_true,Df,beq_iff_eq];have hp:=List.mergeSort_perm ids (fun x y => decide (x ≤ y))
  have hs : (ids.mergeSort fun x y => decide (x ≤ y)).Pairwise fun a b => decide (a ≤ b) = true:=
   List.pairwise_mergeSort (fun a b c h1 h2 => by simp at h1 h2 ⊢;omega) (fun a b => by simp;omega) ids
  constructor
  ·rintro ⟨h1,h2,h3⟩;refine ⟨by omega,fun x hx => h1 x (hp.mem_iff.1 hx),?_⟩
   have hn:=hp.nodup_iff.2 h2
   exact (hs.and hn).imp fun {a b} ⟨h,h'⟩ => by simp at h;omega
  ·rintro ⟨h1,h2,h3⟩;refine ⟨fun x hx => h2 x (hp.mem_iff.2 hx),hp.nodup_iff.1 (h3.imp fun {a b} h => by omega),.inr h1⟩
def jP (xs : List Int) (x : Int) : Bool:=xs.contains x
theorem n_ (v : Value) (xs : List Int) (x : Int) (w : World) (h : bD w v xs) : Calls Tryz.prog 187 #[v,.int .i64 x] w fun e w' => e = .returned (.bool (jP xs x)) ∧ w = w':=by
 obtain ⟨A,c,rfl,ft,hm,hA⟩:=h;unfold maxLen at hm;have HA:=zh hA;clear hA
 go_enter Tryz.func187,Tryz.ntmps187
 go_wp2
 go_loop [9] (fun i => ∃ k : Nat,k ≤ xs.length ∧ i = .int .i64 k ∧ x ∉ xs.take k) (fun i => xs.length - (intOf i).toNat)
 case atStart => exact ⟨0,Nat.zero_le _,rfl,by simp⟩
 case round =>
  obtain ⟨k,hk,rfl,lN⟩:=hrel;have px:=zh lN;clear lN
  by_cases hlt : k < xs.length
  ·obtain ⟨y,hy⟩:=aW xs k hlt;obtain ⟨b,off,rfl,jx⟩:=HA.out k y hy;have Hy:=zh hy;clear hy
   by_cases Ml : y = x
   ·subst Ml;go_wp2;go_ret
    exact ⟨lL (by unfold jP;simpa using List.mem_of_getElem? Hy.out),rfl⟩
   ·go_wp2
    go_round
    case rel =>
     refine ⟨k + 1,by omega,by simp,?_⟩
     rw [bk Hy.out];simp only [List.mem_append,List.mem_singleton,not_or];exact ⟨px.out,fun e => Ml e.symm⟩
    case measure => simp [intOf];omega
  ·go_wp2;go_ret
   have:=px.out
   rw [iC xs hlt] at this
   exact ⟨bt (by unfold jP;simpa using this),rfl⟩
theorem bD.take {w : World} {A : Option Addr} {c : Nat} {xs : List Int} (h : bD w (.slice A xs.length c) xs) (k : Nat) (hk : k ≤ xs.length) : bD w (.slice A k c) (xs.take k):=by
 obtain ⟨A',c',hv,ft,hm,hA⟩:=h;cases hv
 refine ⟨A,c,by simp [Nat.min_eq_left hk],by simp;omega,hm,fun j x hx => ?_⟩
 have hj : j < k:=by have:=aq hx;simp at this;omega
 rw [List.getElem?_take,if_pos hj] at hx;exact hA j x hx
theorem Gw (v : Value) (ids : List Int) (fp : Int) (w : World) (h : bD w v ids) : Calls Tryz.prog 132 #[v,.int .i64 fp] w fun e w' => e = .returned (.bool (nm ids fp)) ∧ w = w':=by
 have H:=zh h;obtain ⟨A,c,rfl,ft,hm,hA⟩:=h;unfold maxLen at hm;have HA:=zh hA;clear hA
 go_enter Tryz.func132,Tryz.ntmps132
 go_wp2
 go_loop [9] (fun i => ∃ k : Nat,k ≤ ids.length ∧ i = .int .i64 k ∧ ∀ j,j < k → ee 1 999999 (ids.getD j 0) = true ∧ jP (ids.take j) (ids.getD j 0) = false) (fun i => ids.length - (intOf i).toNat)
 case atStart => exact ⟨0,Nat.zero_le _,rfl,fun j hj => by omega⟩
 case round =>
  obtain ⟨k,hk,rfl,lN⟩:=hrel;have px:=zh lN;clear lN
  by_cases hlt : k < ids.length
  ·obtain ⟨y,hy⟩:=aW ids k hlt;obtain ⟨b,off,rfl,jx⟩:=HA.out k y hy;have hgy : ids.getD k 0 = y:=by simp [hy]
   have Hg:=zh hgy;clear hy hgy;cases hi : ee 1 999999 y
   ·go_wp2_with (go_at_call 75;refine (iZ _ _ _ _).mono ?_;rintro e w' ⟨rfl,rfl⟩)
    go_ret;refine ⟨bt ?_,rfl⟩;unfold nm;rw [Bool.and_eq_false_iff]
    left
    rw [List.all_eq_false]
    exact ⟨k,List.mem_range.2 hlt,by rw [Hg.out,hi];simp⟩
   ·cases hc : jP (ids.take k) y
    ·go_wp2_with (first | (go_at_call 75;refine (iZ _ _ _ _).mono ?_;rintro e w' ⟨rfl,rfl⟩) | (go_at_call 187;refine (n_ _ (ids.take k) y _ (H.out.take k hk)).mono ?_;rintro e w' ⟨rfl,rfl⟩))
     go_round
     case rel =>
      refine ⟨k + 1,by omega,by simp,fun j hj => ?_⟩
      rcases Nat.lt_or_ge j k with h | h
      ·exact px.out j h
      ·obtain rfl : j = k:=by omega
       rw [Hg.out];exact ⟨hi,hc⟩
     case measure => simp [intOf];omega
    ·go_wp2_with (first | (go_at_call 75;refine (iZ _ _ _ _).mono ?_;rintro e w' ⟨rfl,rfl⟩) | (go_at_call 187;refine (n_ _ (ids.take k) y _ (H.out.take k hk)).mono ?_;rintro e w' ⟨rfl,rfl⟩))
     go_ret;refine ⟨bt ?_,rfl⟩;unfold nm;rw [Bool.and_eq_false_iff]
     left
     rw [List.all_eq_false]
     exact ⟨k,List.mem_range.2 hlt,by rw [Hg.out,hi];unfold jP at hc;rw [hc];simp⟩
  ·have bW : Hid (nm ids fp = ((ids.length : Int) == 0 || (ids.length : Int) == fp)):=by
    show _ = _
    unfold nm
    rw [show ((List.range ids.length).all fun i => ee 1 999999 (ids.getD i 0) && !((ids.take i).contains (ids.getD i 0))) = true from List.all_eq_true.2 (fun j hj => by
     have:=px.out j (by have:=List.mem_range.1 hj;omega)
     unfold jP at this
     rw [this.1,this.2];rfl),Bool.true_and]
   by_cases h0 : (ids.length : Int) = 0
   ·go_wp2;go_ret
    exact ⟨lL (by rw [bW.out];simp [h0]),rfl⟩
   ·have fS : ¬ ids = []:=fun e => h0 (by simp [e])
    go_wp2;go_ret;refine ⟨bP ?_,rfl⟩;rw [bW.out,show ((ids.length : Int) == 0) = false by simpa using h0,Bool.false_or]
@[simp ↓] theorem OP (a b c d : Int) (w : World) : (binOp .neq 83 (.agg #[.int .i64 a,.int .i64 b]) (.agg #[.int .i64 c,.int .i64 d])).run Tryz.prog w = .ok (.bool (!zR (a,b) (c,d))) w:=by
 go_simp
 by_cases f1 : a = c
 ·by_cases f2 : b = d
  ·simp [f1,f2,zR]
  ·simp [f1,f2,zR]
 ·simp [f1,zR]
@[simp ↓] theorem OQ (a b c d : Int) (w : World) : (binOp .eql 83 (.agg #[.int .i64 a,.int .i64 b]) (.agg #[.int .i64 c,.int .i64 d])).run Tryz.prog w = .ok (.bool (zR (a,b) (c,d))) w:=by
 go_simp
 by_cases f1 : a = c
 ·by_cases f2 : b = d
  ·simp [f1,f2,zR]
  ·simp [f1,f2,zR]
 ·simp [f1,zR]
theorem aT.es {w : World} {a b c : Value} {n : am} (h : aT w a b c n) : oX w a n.ends:=h.1
theorem aT.is {w : World} {a b c : Value} {n : am} (h : aT w a b c n) : bD w b n.ids:=h.2.1
theorem aT.ns {w : World} {a b c : Value} {n : am} (h : aT w a b c n) : bD w c n.inputs:=h.2.2
theorem aL (z : Int) (h : -9223372036854775808 ≤ z) (h2 : z ≤ 9223372036854775807) : IntKind.i64.wrap z = z:=IntWalk.i64_in z ⟨h,h2⟩
theorem tV (ve vi vn : Value) (n : am) (w : World) (h : aT w ve vi vn n) :
  Calls Tryz.prog 55 #[.agg #[ve,vi,vn]] w fun e w' => e = .returned (.bool (an n)) ∧ Below w.heap.size w w':=by
 obtain ⟨w0,ck⟩ : ∃ w0,w0 = w.alloc (.cells #[ve,vi,vn] 27):=⟨_,rfl⟩
 have jL : Below w.heap.size w w0:=by rw [ck];exact au _ _
 have H:=zh (h.keep jL);obtain ⟨h1,h2,h3⟩:=h.keep jL;obtain ⟨A,c,rfl,ft,hm,hA⟩:=h1;obtain ⟨A2,c2,rfl,_,f6,_⟩:=h2;obtain ⟨A3,c3,rfl,_,gF,_⟩:=h3;unfold maxLen at hm f6 gF
 have p0 : ∀ W,aa w0 W → W.cell? ⟨w.heap.size,0,none⟩ = some (.slice A n.ends.length c):=fun W hW => bc hW (by rw [ck];simp)
 have p1 : ∀ W,aa w0 W → W.cell? ⟨w.heap.size,1,none⟩ = some (.slice A2 n.ids.length c2):=fun W hW => bc hW (by rw [ck];simp)
 have p2 : ∀ W,aa w0 W → W.cell? ⟨w.heap.size,2,none⟩ = some (.slice A3 n.inputs.length c3):=fun W hW => bc hW (by rw [ck];simp)
 have bv:=zh jL;have HA:=zh hA;have dh:=zh ck;clear jL hA h ck
 go_enter Tryz.func55,Tryz.ntmps55
 go_upto_region 1 with (fail);rw [← dh.out];refine aB 29 (aa w0) (ad _) ?_;simp only [zT]
 iterate 3 (apply ag rfl;(intro W hW;go_simp;with_reducible rfl);simp only [zA])
 refine dn ?_ rfl ?_ ?_;rotate_left;(intro W hW;unfold bG;go_simp;(with_reducible refine (iZ _ _ _ W).mono ?_);rintro e W' ⟨rfl,bg⟩;first | (refine ⟨?_,aa.trans hW bg⟩;with_reducible rfl) | (subst bg;refine ⟨?_,hW⟩;with_reducible rfl))
 simp only [zA]
 iterate 2 (apply ag rfl;(intro W hW;go_simp;with_reducible rfl);simp only [zA])
 iterate 5 (apply aj rfl rfl;(intro hb;intro W hW;go_simp;with_reducible rfl);simp only [zA])
 refine bC (v:=?_) rfl rfl ?_ ?_;rotate_left;(intro hb;intro W hW;unfold bG;go_simp;(with_reducible refine (Gw _ n.ids _ W (H.out.is.keep hW.below)).mono ?_);rintro e W' ⟨rfl,bg⟩;first | (refine ⟨?_,aa.trans hW bg⟩;with_reducible rfl) | (subst bg;refine ⟨?_,hW⟩;with_reducible rfl))
 simp only [zA]
 apply aj rfl rfl;(intro hb;intro W hW;go_simp;with_reducible rfl);simp only [zA]
 (first | refine bu rfl rfl ?_ | (apply ag rfl;(intro W hW;go_simp;with_reducible rfl)));simp only [zA]
 apply ag rfl;(intro W hW;go_simp;with_reducible rfl);simp only [zA]
 iterate 7 (apply aj rfl rfl;(intro hb;intro W hW;go_simp;with_reducible rfl);simp only [zA])
 (first | refine bu rfl rfl ?_ | (apply ag rfl;(intro W hW;go_simp;with_reducible rfl)));simp only [zA]
 apply ag rfl;(intro W hW;go_simp;with_reducible rfl);simp only [zA]
 iterate 2 (apply aj rfl rfl;(intro hb;intro W hW;go_simp;with_reducible rfl);simp only [zA])
 refine bC (v:=?_) rfl rfl ?_ ?_;rotate_left;(intro hb;intro W hW;unfold bG;go_simp;(with_reducible refine (ru _ n.inputs _ _ W (H.out.ns.keep hW.below)).mono ?_);rintro e W' ⟨rfl,bg⟩;first | (refine ⟨?_,aa.trans hW bg⟩;with_reducible rfl) | (subst bg;refine ⟨?_,hW⟩;with_reducible rfl))
 simp only [zA]
 apply aj rfl rfl;(intro hb;intro W hW;go_simp;with_reducible rfl);simp only [zA]
 (first | refine bu rfl rfl ?_ | (apply ag rfl;(intro W hW;go_simp;with_reducible rfl)));simp only [zA]
 intro W hW
 cases hg : (!ee 1 40 (n.ends.length : Int) || !nm n.ids n.ends.length || ((n.inputs.length : Int) != n.ends.length) || !n.inputs.all (ee 0 9))
 ·have hr:=zh (show an n = (List.range n.ends.length).all fun v => fT n.ends v (n.ends.getD v []) by
   simp only [Bool.or_eq_false_iff,Bool.not_eq_false',bne_eq_false_iff_eq] at hg
   simp [an,hg,← sS,jl])
  have Hg:=zh hg;have HW:=zh hW;clear hg;go_wp2
  go_loopw [39] (fun i wr => ∃ k : Nat,k ≤ n.ends.length ∧ i = .int .i64 k ∧ ((List.range k).all fun v => fT n.ends v (n.ends.getD v [])) = true ∧ aa w0 wr) (fun i _ => n.ends.length - (intOf i).toNat)
  case atStart => exact ⟨0,Nat.zero_le _,rfl,rfl,HW.out⟩
  case round =>
   obtain ⟨k,hk,rfl,bW,xM⟩:=hrel;have fk:=zh bW;clear bW hW
   by_cases hlt : k < n.ends.length
   ·obtain ⟨es,cM⟩:=aW n.ends k hlt;obtain ⟨b,off,u,rfl,eS,dG⟩:=HA.out k es cM;have lm:=ae eS;obtain ⟨A1,z1,rfl,eF,eD,lP⟩:=dG;have po:=zh lP;unfold maxLen at eD;have ml:=zh cM;clear cM eS lP
    by_cases h6 : es.length ≤ 6
    ·go_wp2;obtain ⟨wo,rfl⟩ : ∃ wo : World,wo = wr:=⟨_,rfl⟩
     go_loopw [49] (fun i wq => ∃ j : Nat,j ≤ es.length ∧ i = .int .i64 j ∧ ((List.range j).all fun i => iF n.ends k i (es.getD i (0,0))) = true ∧ aa w0 wq) (fun i _ => es.length - (intOf i).toNat)
     case atStart => exact ⟨0,Nat.zero_le _,rfl,rfl,xM⟩
     case round =>
      obtain ⟨j,hj,rfl,Ap,Mi⟩:=hrel;have Ar:=zh Ap;clear Ap xM
      by_cases jz : j < es.length
      ·obtain ⟨⟨x1,x2⟩,he⟩:=aW es j jz;obtain ⟨b1,qp,rfl,kV,iz⟩:=po.out j _ he;have q1:=ae kV;have q2:=ae iz;have He:=zh he;clear he kV iz;have iA : w.heap.size < wr.heap.size:=World.block_lt_of_cell? wr _ (p0 wr Mi);go_wp2;obtain ⟨w1,py⟩ : ∃ w1,(wr.alloc (Obj.cells #[Value.int IntKind.i64 x1,Value.int IntKind.i64 x2] 83)) = w1:=⟨_,rfl⟩
       rw [py]
       have dm : aa w0 w1:=by rw [← py];exact ah _ Mi
       have r0:=ai p0 dm
       have r3 : ∀ W,aa w1 W → W.cell? ⟨wr.heap.size,0,none⟩ = some (.int .i64 x1):=ae (by rw [← py];simp)
       have r4 : ∀ W,aa w1 W → W.cell? ⟨wr.heap.size,1,none⟩ = some (.int .i64 x2):=ae (by rw [← py];simp)
       have gh:=zh dm;have HP:=zh (And.intro p0 (And.intro p1 p2));have HQ:=zh (And.intro lm (And.intro q1 q2));have XH:=zh Mi;clear py dm p0 p1 p2 lm q1 q2 Mi
       by_cases tW : ee 0 ((n.ends.length : Int) - 1) x1 = true
       ·obtain ⟨p3,p4⟩:=aM.1 tW;obtain ⟨k1,rfl⟩:=Int.eq_ofNat_of_zero_le p3;have j_ : k1 < n.ends.length:=by omega
        obtain ⟨Fm,As⟩:=aW n.ends k1 j_;obtain ⟨b2,Y2,u',Gp,qo,Jp⟩:=HA.out k1 Fm As
        injection Gp with Gp
        injection Gp with q3 q4
        subst q3 q4;obtain ⟨Fo,TP,rfl,Y3,PZ,Dc⟩:=Jp;unfold maxLen at PZ;have r5:=ai (ae qo) gh.out;have Gt:=zh As;have Y_:=zh Dc;clear As qo Dc
        by_cases pw : ee 0 ((Fm.length : Int) - 1) x2 = true
        ·obtain ⟨p5,p6⟩:=aM.1 pw;obtain ⟨i1,rfl⟩:=Int.eq_ofNat_of_zero_le p5;have pp : i1 < Fm.length:=by omega
         obtain ⟨⟨y1,y2⟩,hy⟩:=aW Fm i1 pp;obtain ⟨b3,MP,rfl,P6,OM⟩:=Y_.out i1 _ hy;have r6:=ai (ae P6) gh.out;have r7:=ai (ae OM) gh.out;have Hy:=zh hy;have Hx:=zh (And.intro tW pw);clear hy P6 OM tW pw;have m1 : IntKind.i64.wrap ((n.ends.length : Int) - 1) = n.ends.length - 1:=aL _ (by omega) (by omega);have m2 : IntKind.i64.wrap ((Fm.length : Int) - 1) = Fm.length - 1:=aL _ (by omega) (by omega);refine ao 38 (aa w1) (by kernel_rfl) (by kernel_rfl) (by simp) (ak (ad _)) ?_;simp only [zT]
         iterate 6 (apply ag rfl;(intro W hW;go_simp;with_reducible rfl);simp only [zA])
         refine dn ?_ rfl ?_ ?_;rotate_left;(intro W hW;unfold bG;go_simp;(with_reducible refine (iZ _ _ _ W).mono ?_);rintro e W' ⟨rfl,bg⟩;first | (refine ⟨?_,aa.trans hW bg⟩;with_reducible rfl) | (subst bg;refine ⟨?_,hW⟩;with_reducible rfl))
         simp only [zA]
         iterate 2 (apply ag rfl;(intro W hW;go_simp;with_reducible rfl);simp only [zA])
         iterate 10 (apply aj rfl rfl;(intro hb;intro W hW;go_simp;with_reducible rfl);simp only [zA])
         refine bC (v:=?_) rfl rfl ?_ ?_;rotate_left;(intro hb;intro W hW;unfold bG;go_simp;(with_reducible refine (iZ _ _ _ W).mono ?_);rintro e W' ⟨rfl,bg⟩;first | (refine ⟨?_,aa.trans hW bg⟩;with_reducible rfl) | (subst bg;refine ⟨?_,hW⟩;with_reducible rfl))
         simp only [zA]
         apply aj rfl rfl;(intro hb;intro W hW;go_simp;with_reducible rfl);simp only [zA]
         (first | refine bu rfl rfl ?_ | (apply ag rfl;(intro W hW;go_simp;with_reducible rfl)));simp only [zA]
         apply ag rfl;(intro W hW;go_simp;with_reducible rfl);simp only [zA]
         iterate 14 (apply aj rfl rfl;(intro hb;intro W hW;go_simp;with_reducible rfl);simp only [zA])
         (first | refine bu rfl rfl ?_ | (apply ag rfl;(intro W hW;go_simp;with_reducible rfl)));simp only [zA]
         intro W2 iv;have CO:=zh iv;rw [Hx.out.1,Hx.out.2];cases hq : zR (y1,y2) ((k : Int),(j : Int))
         all_goals
          have Hq:=zh hq;clear hq iv m1 m2;go_wp2
         ·go_ret
          exact ⟨bt (by rw [hr.out];refine aZ hlt ?_;rw [aH ml.out];simp only [fT];rw [Bool.and_eq_false_iff];exact .inr (aZ jz (by rw [aH He.out];simp [iF,Gt.out,Hy.out,Hq.out]))),aa.after bv.out (gh.out.after CO.out)⟩
         ·go_roundw
          case rel => exact ⟨j + 1,by omega,by go_num,by rw [cB,Ar.out,aH He.out];simp [iF,cg,Hx.out.1,Hx.out.2,Gt.out,Hy.out,Hq.out],gh.out.after CO.out⟩
          case measure => simp [intOf];omega
        ·have TS : ee 0 ((Fm.length : Int) - 1) x2 = false:=by simpa using pw
         have Hx:=zh (And.intro tW TS);clear tW pw;have m1 : IntKind.i64.wrap ((n.ends.length : Int) - 1) = n.ends.length - 1:=aL _ (by omega) (by omega);have m2 : IntKind.i64.wrap ((Fm.length : Int) - 1) = Fm.length - 1:=aL _ (by omega) (by omega);refine ao 38 (aa w1) (by kernel_rfl) (by kernel_rfl) (by simp) (ak (ad _)) ?_;simp only [zT]
         iterate 6 (apply ag rfl;(intro W hW;go_simp;with_reducible rfl);simp only [zA])
         refine dn ?_ rfl ?_ ?_;rotate_left;(intro W hW;unfold bG;go_simp;(with_reducible refine (iZ _ _ _ W).mono ?_);rintro e W' ⟨rfl,bg⟩;first | (refine ⟨?_,aa.trans hW bg⟩;with_reducible rfl) | (subst bg;refine ⟨?_,hW⟩;with_reducible rfl))
         simp only [zA]
         iterate 2 (apply ag rfl;(intro W hW;go_simp;with_reducible rfl);simp only [zA])
         iterate 10 (apply aj rfl rfl;(intro hb;intro W hW;go_simp;with_reducible rfl);simp only [zA])
         refine bC (v:=?_) rfl rfl ?_ ?_;rotate_left;(intro hb;intro W hW;unfold bG;go_simp;(with_reducible refine (iZ _ _ _ W).mono ?_);rintro e W' ⟨rfl,bg⟩;first | (refine ⟨?_,aa.trans hW bg⟩;with_reducible rfl) | (subst bg;refine ⟨?_,hW⟩;with_reducible rfl))
         simp only [zA]
         apply aj rfl rfl;(intro hb;intro W hW;go_simp;with_reducible rfl);simp only [zA]
         (first | refine bu rfl rfl ?_ | (apply ag rfl;(intro W hW;go_simp;with_reducible rfl)));simp only [zA]
         apply ag rfl;(intro W hW;go_simp;with_reducible rfl);simp only [zA]
         iterate 14 (refine km rfl rfl (by simp [*]) ?_;simp only [zA])
         (first | refine bu rfl rfl ?_ | (apply ag rfl;(intro W hW;go_simp;with_reducible rfl)));simp only [zA]
         intro W2 iv;have CO:=zh iv;rw [Hx.out.1,Hx.out.2];clear TS iv m1 m2;go_wp2;go_ret
         exact ⟨bt (by rw [hr.out];refine aZ hlt ?_;rw [aH ml.out];simp only [fT];rw [Bool.and_eq_false_iff];exact .inr (aZ jz (by rw [aH He.out];simp [iF,cg,Gt.out,Hx.out.2]))),aa.after bv.out (gh.out.after CO.out)⟩
       ·have TT : ee 0 ((n.ends.length : Int) - 1) x1 = false:=by simpa using tW
        have Hx:=zh TT;clear tW;have m1 : IntKind.i64.wrap ((n.ends.length : Int) - 1) = n.ends.length - 1:=aL _ (by omega) (by omega);refine ao 38 (aa w1) (by kernel_rfl) (by kernel_rfl) (by simp) (ak (ad _)) ?_;simp only [zT]
        iterate 6 (apply ag rfl;(intro W hW;go_simp;with_reducible rfl);simp only [zA])
        refine dn ?_ rfl ?_ ?_;rotate_left;(intro W hW;unfold bG;go_simp;(with_reducible refine (iZ _ _ _ W).mono ?_);rintro e W' ⟨rfl,bg⟩;first | (refine ⟨?_,aa.trans hW bg⟩;with_reducible rfl) | (subst bg;refine ⟨?_,hW⟩;with_reducible rfl))
        simp only [zA]
        iterate 2 (apply ag rfl;(intro W hW;go_simp;with_reducible rfl);simp only [zA])
        iterate 12 (refine km rfl rfl (by simp [*]) ?_;simp only [zA])
        (first | refine bu rfl rfl ?_ | (apply ag rfl;(intro W hW;go_simp;with_reducible rfl)));simp only [zA]
        apply ag rfl;(intro W hW;go_simp;with_reducible rfl);simp only [zA]
        iterate 14 (refine km rfl rfl (by simp [*]) ?_;simp only [zA])
        (first | refine bu rfl rfl ?_ | (apply ag rfl;(intro W hW;go_simp;with_reducible rfl)));simp only [zA]
        intro W2 iv;have CO:=zh iv;rw [Hx.out];clear TT iv m1;go_wp2;go_ret
        exact ⟨bt (by rw [hr.out];refine aZ hlt ?_;rw [aH ml.out];simp only [fT];rw [Bool.and_eq_false_iff];exact .inr (aZ jz (by rw [aH He.out];simp [iF,cg,Hx.out]))),aa.after bv.out (gh.out.after CO.out)⟩
      ·obtain rfl : j = es.length:=by omega
       go_wp2;go_roundw
       case rel => exact ⟨k + 1,by omega,by go_num,by rw [cB,fk.out,aH ml.out,Bool.true_and];unfold fT;rw [Ar.out];simp [h6],Mi⟩
       case measure => simp [intOf];omega
    ·go_wp2;go_ret
     exact ⟨bt (by rw [hr.out];exact aZ hlt (by rw [aH ml.out];simp [fT,h6])),aa.after bv.out xM⟩
   ·obtain rfl : k = n.ends.length:=by omega
    go_wp2;go_ret
    exact ⟨lL (by rw [hr.out];exact fk.out),aa.after bv.out xM⟩
 ·have hr:=zh (show an n = false by
   simp only [Bool.or_eq_true,Bool.not_eq_true',bne_iff_ne,ne_eq] at hg
   rcases hg with ((hg | hg) | hg) | hg <;> simp [an,hg,← sS,jl])
  have Hg:=zh hg;have HW:=zh hW;clear hg;go_wp2;go_ret;exact ⟨bt hr.out,aa.after bv.out HW.out⟩
def fg (jO : List (List (Int × Int))) (v i : Int) : Int × Int:=(jO.getD v.toNat []).getD i.toNat (0,0)
theorem eV {w : World} {v : Value} {ls : List Int} (h : bD w v ls) {x : Int} (h0 : 0 ≤ x) (h1 : x < ls.length) :
  ∃ (k b off c : Nat) (y : Int),x = (k : Int) ∧ v = .slice (some ⟨b,off,none⟩) ls.length c ∧ k < ls.length ∧ ls[k]? = some y ∧ ls.getD x.toNat 0 = y ∧ w.cell? ⟨b,off + k,none⟩ = some (.int .i64 y):=by
 obtain ⟨k,rfl⟩:=Int.eq_ofNat_of_zero_le h0;have hk : k < ls.length:=by omega
 obtain ⟨y,hy⟩:=aW ls k hk;obtain ⟨A,c,rfl,_,_,hA⟩:=h;obtain ⟨b,off,rfl,hc⟩:=hA k y hy;exact ⟨k,b,off,c,y,rfl,rfl,hk,hy,by simp [hy],hc⟩
theorem rx {n : am} (h : an n = true) {v i : Int} (hp : cg n.ends v i = true) :
  cg n.ends (fg n.ends v i).1 (fg n.ends v i).2 = true ∧ fg n.ends (fg n.ends v i).1 (fg n.ends v i).2 = (v,i):=by
 unfold cg at hp;rw [Bool.and_eq_true] at hp;obtain ⟨p1,p2⟩:=hp;obtain ⟨p3,p4⟩:=aM.1 p1;obtain ⟨k,rfl⟩:=Int.eq_ofNat_of_zero_le p3;have hk : k < n.ends.length:=by omega
 obtain ⟨es,cM⟩:=aW n.ends k hk;rw [Int.toNat_natCast,aH cM] at p2;obtain ⟨p5,p6⟩:=aM.1 p2;obtain ⟨j,rfl⟩:=Int.eq_ofNat_of_zero_le p5;have hj : j < es.length:=by omega
 obtain ⟨⟨y1,y2⟩,hy⟩:=aW es j hj;have e : fg n.ends (k : Int) (j : Int) = (y1,y2):=by simp [fg,cM,hy]
 rw [e];unfold an at h;rw [Bool.and_eq_true,List.all_eq_true] at h
 have:=h.2 k (List.mem_range.2 hk)
 rw [aH cM] at this;unfold fT at this;rw [Bool.and_eq_true,List.all_eq_true] at this
 have:=this.2 j (List.mem_range.2 hj)
 rw [aH hy] at this;unfold iF at this;rw [Bool.and_eq_true] at this;exact ⟨this.1,by simpa [zR,fg] using this.2⟩
theorem aN {n : am} (h : an n = true) : 1 ≤ n.ends.length ∧ n.ends.length ≤ 40:=by
 unfold an at h;simp only [Bool.and_eq_true] at h
 have:=aM.1 h.1.1.1
 omega
theorem Dh {jO : List (List (Int × Int))} {v i : Int} (hp : cg jO v i = true) : 0 ≤ v ∧ v < jO.length:=by
 unfold cg at hp;rw [Bool.and_eq_true] at hp
 have:=aM.1 hp.1
 omega
theorem Own.since {w w' : World} {base : Nat} {v : Value} {xs : List Int} (h : Own w base v xs) (hs : aa w w') : Own w' base v xs:=h.keep hs
theorem ic {w w0 : World} {ops : Array Oper} {rest : List Oper} {o : Oper} {a : Act} {Q : Exit → Act → World → Prop} (iS : o.guard = none) (s x : Operand)
  (ho : o.op = .call { callee:=.builtin .append,args:=#[s,x],argTypes:=#[25,25] }) {v : Value} {xs : List Int} (hs : a.eval s = v) (h : Own w w0.heap.size v xs) (b : Nat) (y : Int)
  (hx : a.eval x = .slice (some ⟨b,0,none⟩) 1 1) (hc : w.cell? ⟨b,0,none⟩ = some (.int .i64 y)) (hl : xs.length + 1 ≤ 17592186044416) (ww : aa w0 w)
  (k : ∀ g cap w',Own w' w0.heap.size (.slice (some ⟨g,0,none⟩) (xs.length + 1) cap) (xs ++ [y]) → aa w0 w' → wpList Tryz.prog ops Q rest (a.put o.dst (.slice (some ⟨g,0,none⟩) (xs.length + 1) cap)) w') : wpList Tryz.prog ops Q (o :: rest) a w:=by
 refine Fq iS s x ho hs h b y hx hc hl ww.size ?_;intro g cap w' h1 h2 h3 h4;exact k g cap w' h1 (Below.grown ww h2 ww.size (fun j hj => (World.ownsRow.lt h j hj).1))
theorem jQ {w : World} {v : Value} {jO : List (List (Int × Int))} {k : Nat} {es : List (Int × Int)} (h : oX w v jO) (cM : jO[k]? = some es) :
  ∃ (b off c : Nat) (u : Value),v = .slice (some ⟨b,off,none⟩) jO.length c ∧ k < jO.length ∧ w.cell? ⟨b,off + k,none⟩ = some u ∧ tJ w u es:=by
 obtain ⟨A,c,rfl,ft,hm,hA⟩:=h;obtain ⟨b,off,u,rfl,hc,dG⟩:=hA k es cM;exact ⟨b,off,c,u,rfl,aq cM,hc,dG⟩
theorem kz (ve vi vn : Value) (n : am) (k : Nat) (es : List (Int × Int)) (w : World) (h : aT w ve vi vn n) (cM : n.ends[k]? = some es) (n9 : es.length ≤ 1000000) :
  Calls Tryz.prog 186 #[.agg #[ve,vi,vn],.int .i64 k] w fun e w' => ∃ u,e = .returned u ∧ Own w' w.heap.size u (es.map (·.1)) ∧ Below w.heap.size w w':=by
 obtain ⟨w0,A,c,A2,c2,A3,c3,rfl,rfl,rfl,ft,hm,f6,gF,HA,dh,bv,H,eG,eX,fb⟩:=zB h;clear h
 obtain ⟨b,off,c',u,hA,hk,eS,dG⟩:=jQ H.out.es cM;cases hA;obtain ⟨A1,z1,rfl,eF,eD,lP⟩:=dG;unfold maxLen at eD;have r1:=ae eS;have po:=zh lP;clear eS lP cM
 go_enter Tryz.func186,Tryz.ntmps186
 go_upto_region 1 with (fail);rw [← dh.out];have cX : aa w0 w0:=ad _;go_wp2
 go_loopw [5,14] (fun u i wr => ∃ j : Nat,j ≤ es.length ∧ i = .int .i64 j ∧ Own wr w0.heap.size u ((es.take j).map (·.1)) ∧ aa w0 wr) (fun _ i _ => es.length - (intOf i).toNat)
 case atStart => exact ⟨0,Nat.zero_le _,rfl,by simpa using cH w0 w0.heap.size,cX⟩
 case round =>
  obtain ⟨j,hj,rfl,ho,hs⟩:=hrel;have Ho:=zh ho;clear cX ho
  by_cases hlt : j < es.length
  ·obtain ⟨⟨x1,x2⟩,hx⟩:=aW es j hlt;obtain ⟨b1,qp,rfl,kV,iz⟩:=po.out j _ hx;have t1:=ae kV;have t2:=ae iz;have Hx:=zh hx;clear hx kV iz
   have hlen : ((es.take j).map (·.1)).length + 1 ≤ 17592186044416:=by simp;omega
   have eZ:=zh hlen;clear hlen
   go_wp2_with (at_builtin;refine ic rfl _ _ rfl rfl (Ho.out.since (ah _ (ah _ (ad _)))) (wr.heap.size + 1) x1 rfl (by simp [go_sem]) eZ.out (ah _ (ah _ hs)) ?_;intro g cc w2 dL dE)
   have E2 : Hid (((es.take j).map (·.1)).length = j):=by show _ = _;simp;omega
   have e1 : (es.take j).map (·.1) ++ [x1] = (es.take (j + 1)).map (·.1):=by rw [bk Hx.out];simp
   rw [e1] at dL;have iU:=zh dL;have cw:=zh dE;clear dL dE hs e1;go_wp2;go_roundw
   case rel => exact ⟨j + 1,by omega,by go_num,by first | exact iU.out | (have:=iU.out;rw [E2.out] at this;exact this),cw.out⟩
   case measure => simp [intOf];omega
  ·obtain rfl : j = es.length:=by omega
   go_wp2;go_ret
   exact ⟨_,rfl,by have:=Ho.out;rw [List.take_length] at this;exact this.mono bv.out.size,aa.after bv.out hs⟩
def aw (ls : List Int) (es : List (Int × Int)) : List Int:=es.map fun e => ls.getD e.1.toNat 0
theorem tX {ls : List Int} {es : List (Int × Int)} {j : Nat} {x : Int × Int} {l y : Int} (hx : es[j]? = some x) (hg : ls.getD x.1.toNat 0 = y) : y ∈ l :: aw ls es:=List.mem_cons_of_mem _ (List.mem_map.2 ⟨x,List.mem_of_getElem? hx,hg⟩)
theorem MT {ls : List Int} {es : List (Int × Int)} {k : Nat} {l y : Int} (hk : ls[k]? = some l) (dC : ∀ e ∈ es,0 ≤ e.1 ∧ e.1 < ls.length) (h : y ∈ l :: aw ls es) : y ∈ ls:=by
 rcases List.mem_cons.1 h with rfl | h
 ·exact List.mem_of_getElem? hk
 ·obtain ⟨e,he,rfl⟩:=List.mem_map.1 h;obtain ⟨h1,h2⟩:=dC e he
  have : e.1.toNat < ls.length:=by omega
  rw [zDd,List.getElem?_eq_getElem this];exact List.getElem_mem this
theorem kA (ve vi vn vl : Value) (n : am) (ls : List Int) (k : Nat) (es : List (Int × Int)) (w : World) (h : aT w ve vi vn n) (hl : bD w vl ls) (cM : n.ends[k]? = some es) (n9 : es.length ≤ 1000000) (dC : ∀ e ∈ es,0 ≤ e.1 ∧ e.1 < ls.length) :
  Calls Tryz.prog 146 #[.agg #[ve,vi,vn],.int .i64 k,vl] w fun e w' => ∃ u,e = .returned u ∧ Own w' w.heap.size u (aw ls es) ∧ Below w.heap.size w w':=by
 obtain ⟨w0,A,c,A2,c2,A3,c3,rfl,rfl,rfl,ft,hm,f6,gF,HA,dh,bv,H,eG,eX,fb⟩:=zB h;clear h
 obtain ⟨b,off,c',u,hA,hk,eS,dG⟩:=jQ H.out.es cM;cases hA;obtain ⟨A1,z1,rfl,eF,eD,lP⟩:=dG;unfold maxLen at eD;have r1:=ae eS;have po:=zh lP;have HL:=zh (hl.keep bv.out);have p9:=zh dC;obtain ⟨AL,cL,rfl,sA,mn,_⟩:=hl;unfold maxLen at mn;clear eS lP cM dC
 go_enter Tryz.func146,Tryz.ntmps146
 go_upto_region 1 with (fail);rw [← dh.out];have cX : aa w0 w0:=ad _;go_wp2
 go_loopw [7,16] (fun u i wr => ∃ j : Nat,j ≤ es.length ∧ i = .int .i64 j ∧ Own wr w0.heap.size u (aw ls (es.take j)) ∧ aa w0 wr) (fun _ i _ => es.length - (intOf i).toNat)
 case atStart => exact ⟨0,Nat.zero_le _,rfl,by simpa [aw] using cH w0 w0.heap.size,cX⟩
 case round =>
  obtain ⟨j,hj,rfl,ho,hs⟩:=hrel;have Ho:=zh ho;clear cX ho
  by_cases hlt : j < es.length
  ·obtain ⟨⟨x1,x2⟩,hx⟩:=aW es j hlt;obtain ⟨b1,qp,rfl,kV,iz⟩:=po.out j _ hx;obtain ⟨i1,i2⟩:=p9.out _ (List.mem_of_getElem? hx);simp only at i1 i2
   obtain ⟨m1,bl,ol,cl,y,rfl,hv,k9,CP,ib,yQ⟩:=eV HL.out i1 i2;cases hv;have t1:=ae kV;have t2:=ae iz;have t3:=ae yQ;have Hx:=zh hx;have Hg:=zh ib;clear hx kV iz yQ CP ib
   have hlen : (aw ls (es.take j)).length + 1 ≤ 17592186044416:=by simp [aw];omega
   have eZ:=zh hlen;have ed:=(aa.below hs).size;clear hlen
   go_wp2_with (at_builtin;refine ic rfl _ _ rfl rfl (Ho.out.since (ah _ (ah _ (ad _)))) (wr.heap.size + 1) y rfl (by simp [go_sem]) eZ.out (ah _ (ah _ hs)) ?_;intro g cc w2 dL dE)
   have E2 : Hid ((aw ls (es.take j)).length = j):=by show _ = _;simp [aw];omega
   have e1 : aw ls (es.take j) ++ [y] = aw ls (es.take (j + 1)):=by rw [bk Hx.out];simp only [aw,List.map_append,List.map_cons,List.map_nil,Hg.out]
   rw [e1] at dL;have iU:=zh dL;have cw:=zh dE;clear dL dE hs e1;go_wp2;go_roundw
   case rel => exact ⟨j + 1,by omega,by go_num,by first | exact iU.out | (have:=iU.out;rw [E2.out] at this;exact this),cw.out⟩
   case measure => simp [intOf];omega
  ·obtain rfl : j = es.length:=by omega
   go_wp2;go_ret
   exact ⟨_,rfl,by have:=Ho.out;rw [List.take_length] at this;exact this.mono bv.out.size,aa.after bv.out hs⟩
theorem oa (b : Bool) (w : World) : Calls Tryz.prog 90 #[.bool b] w fun e w' => e = .returned (.int .i64 (if b then 1 else 0)) ∧ w = w':=by
 cases b
 ·go_enter Tryz.func90,Tryz.ntmps90
  go_wp2;go_ret;exact ⟨rfl,rfl⟩
 ·go_enter Tryz.func90,Tryz.ntmps90
  go_wp2;go_ret;exact ⟨rfl,rfl⟩
theorem Ju {m x : Int} (hx : 0 ≤ x) (h : x < m) : (x + 1) % m = if x + 1 = m then 0 else x + 1:=by
 split
 ·rename_i e;rw [e];exact Int.emod_self
 ·exact Int.emod_eq_of_lt (by omega) (by omega)
theorem Jv {m l : Int} (hl : 0 ≤ l) (h : l < m) : (l + m - 1) % m = if l = 0 then m - 1 else l - 1:=by
 split
 ·rename_i e;subst e;rw [show (0 : Int) + m - 1 = m - 1 by omega];exact Int.emod_eq_of_lt (by omega) (by omega)
 ·rw [show l + m - 1 = (l - 1) + m by omega,Int.add_emod_right];exact Int.emod_eq_of_lt (by omega) (by omega)
def Di (m l : Int) (xs : List Int) : Bool:=
 decide (xs.countP (fun x => (x + 1) % m == l) ≤ 1) && (xs.countP (fun x => (x + 1) % m == l) + xs.countP (fun x => x == (l + 1) % m) == xs.length) && (xs.countP (fun x => (x + 1) % m == l) == 1 || l == 0)
def sB (m l : Int) (xs : List Int) : Bool:=
 (xs.all fun x => x == (l + m - 1) % m || x == (l + 1) % m) && (xs.countP (fun x => x == (l + m - 1) % m) == 1 || (xs.countP (fun x => x == (l + m - 1) % m) == 0 && l == 0))
theorem Jw {m l x : Int} (hm : 3 ≤ m) (hl : 0 ≤ l) (wy : l < m) (hx : 0 ≤ x) (xQ : x < m) : ((x + 1) % m == l) = (x == (l + m - 1) % m):=by
 rw [Ju hx xQ,Jv hl wy,Bool.eq_iff_iff,beq_iff_eq,beq_iff_eq]
 split <;> split <;> omega
theorem Jy {m l x : Int} (hm : 3 ≤ m) (hl : 0 ≤ l) (wy : l < m) (h : x = (l + m - 1) % m) : ¬ x = (l + 1) % m:=by
 rw [Jv hl wy] at h;rw [Ju hl wy]
 split at h <;> split <;> omega
theorem xR {p q : Int → Bool} {xs : List Int} (hd : ∀ x ∈ xs,p x = true → q x = false) : xs.countP p + xs.countP q ≤ xs.length ∧ (xs.countP p + xs.countP q = xs.length ↔ ∀ x ∈ xs,p x = true ∨ q x = true):=by
 induction xs with
 | nil => simp
 | cons a xs ih =>
  have ih:=ih (fun x hx => hd x (List.mem_cons_of_mem _ hx))
  have ha:=hd a (by simp);rw [List.countP_cons,List.countP_cons,List.length_cons];cases hp : p a
  ·cases hq : q a
   ·simp only [Bool.false_eq_true,if_false,List.forall_mem_cons,hp,hq,false_or,false_and,iff_false];omega
   ·simp only [Bool.false_eq_true,if_false,if_true,List.forall_mem_cons,hp,hq,or_true,true_and];refine ⟨by omega,?_⟩
    rw [← ih.2];omega
  ·have hq:=ha hp;simp only [Bool.false_eq_true,if_false,if_true,List.forall_mem_cons,hp,hq,true_or,true_and];refine ⟨by omega,?_⟩
   rw [← ih.2];omega
theorem Jz {m l : Int} {xs : List Int} (hm : 3 ≤ m) (hl : 0 ≤ l) (wy : l < m) (hx : ∀ x ∈ xs,0 ≤ x ∧ x < m) : Di m l xs = sB m l xs:=by
 have hc : xs.countP (fun x => (x + 1) % m == l) = xs.countP (fun x => x == (l + m - 1) % m):=by
  apply List.countP_congr
  intro x xQ;rw [Jw hm hl wy (hx x xQ).1 (hx x xQ).2]
 have hs:=xR (p:=fun x => x == (l + m - 1) % m) (q:=fun x => x == (l + 1) % m) (xs:=xs) (fun x _ hp => by
  simp only [beq_iff_eq] at hp
  simpa using Jy hm hl wy hp)
 unfold Di sB
 rw [hc]
 generalize xs.countP (fun x => x == (l + m - 1) % m) = a at *
 generalize xs.countP (fun x => x == (l + 1) % m) = b at *
 rw [Bool.eq_iff_iff];simp only [Bool.and_eq_true,decide_eq_true_eq,beq_iff_eq,Bool.or_eq_true,List.all_eq_true] at *
 rw [← hs.2];constructor
 ·rintro ⟨⟨h1,h2⟩,h3⟩;refine ⟨h2,?_⟩;rcases h3 with h3 | h3
  ·exact .inl h3
  ·rcases Nat.eq_zero_or_pos a with h | h
   ·exact .inr ⟨h,h3⟩
   ·exact .inl (by omega)
 ·rintro ⟨h1,h2⟩;rcases h2 with h2 | ⟨h2,h3⟩
  ·exact ⟨⟨by omega,h1⟩,.inl h2⟩
  ·exact ⟨⟨by omega,h1⟩,.inr h3⟩
theorem df {n : am} (h : an n = true) {k : Nat} {es : List (Int × Int)} (cM : n.ends[k]? = some es) : es.length ≤ 6 ∧ ∀ e ∈ es,0 ≤ e.1 ∧ e.1 < n.ends.length:=by
 have hk:=aq cM;have h':=h;unfold an at h;rw [Bool.and_eq_true,List.all_eq_true] at h
 have:=h.2 k (List.mem_range.2 hk)
 rw [aH cM] at this;unfold fT at this;rw [Bool.and_eq_true,List.all_eq_true] at this;refine ⟨by simpa using this.1,fun e he => ?_⟩
 obtain ⟨j,hj⟩:=List.getElem?_of_mem he
 have:=this.2 j (List.mem_range.2 (aq hj))
 rw [aH hj] at this;unfold iF at this;rw [Bool.and_eq_true] at this;exact Dh this.1
theorem oe (c : Nat) : ((c : Int) == 1) = (c == 1):=by rw [Bool.eq_iff_iff];simp;omega
theorem xS (c : Nat) : ((c : Int) == 0) = (c == 0):=by rw [Bool.eq_iff_iff];simp
theorem fq {p : Int → Bool} {xs : List Int} {y : Int} : (xs ++ [y]).countP p = xs.countP p + if p y then 1 else 0:=by
 rw [List.countP_append];simp [List.countP_cons]
theorem yR (ve vi vn vl : Value) (n : am) (m : Int) (ls : List Int) (k : Nat) (es : List (Int × Int)) (l : Int) (w : World) (h : aT w ve vi vn n) (hl : bD w vl ls) (cM : n.ends[k]? = some es) (n9 : es.length ≤ 6) (dC : ∀ e ∈ es,0 ≤ e.1 ∧ e.1 < ls.length)
  (k9 : 3 ≤ m) (f6 : m ≤ 40) (hk : ls[k]? = some l) (rj : 0 ≤ l) (lp : l < m) :
  Calls Tryz.prog 221 #[.agg #[ve,vi,vn],.int .i64 m,vl,.int .i64 k] w fun e w' => e = .returned (.bool (sB m l (aw ls es))) ∧ Below w.heap.size w w':=by
 obtain ⟨w0,A,c,A2,c2,A3,c3,rfl,rfl,rfl,ft,hm,f6,gF,HA,dh,bv,H,eG,eX,fb⟩:=zB h;clear h
 have HL:=zh (hl.keep bv.out);have p9:=zh dC;have ml:=zh cM
 obtain ⟨_,bl,ol,cl,l',e0,rfl,lq,lu,-,hd⟩:=eV HL.out (x:=(k : Int)) (by omega) (by have:=aq hk;omega)
 obtain rfl : k = _:=by exact Int.ofNat.inj e0
 obtain rfl : l = l':=Option.some.inj (hk.symm.trans lu)
 have t0:=ae hd;obtain ⟨_,_,hv,sA,mn,_⟩:=id hl;cases hv;unfold maxLen at mn;clear cM dC hd hk lu e0 hl
 go_enter Tryz.func221,Tryz.ntmps221
 go_upto_region 1 with (fail);rw [← dh.out];have cX : aa w0 w0:=ad _;go_wp2_with fail;refine (kz _ _ _ n k es _ H.out ml.out (by omega)).mono ?_;rintro e W1 ⟨u,rfl,ho,hb⟩;have dm : aa w0 W1:=hb;have Ho:=zh ho.ints;obtain ⟨A5,z5,hu,_,SJ,sC⟩:=ho.ints;subst hu;unfold maxLen at SJ;have Dj:=zh sC;simp only [List.length_map] at SJ ⊢
 clear hb ho cX sC;go_wp2
 go_loop [9,16] (fun c i => ∃ j : Nat,j ≤ es.length ∧ i = .int .i64 j ∧ c = .int .i64 (((aw ls (es.take j)).countP fun x => x == (l + m - 1) % m : Nat) : Int) ∧ ((aw ls (es.take j)).all fun x => x == (l + m - 1) % m || x == (l + 1) % m) = true) (fun _ i => es.length - (intOf i).toNat)
 case atStart => exact ⟨0,Nat.zero_le _,rfl,by simp [aw],by simp [aw]⟩
 case round =>
  obtain ⟨j,hj,rfl,rfl,bW⟩:=hrel;have fk:=zh bW
  have iw : ((aw ls (es.take j)).countP fun x => x == (l + m - 1) % m) ≤ 6:=by
   have:=List.countP_le_length (p:=fun x => x == (l + m - 1) % m) (l:=aw ls (es.take j))
   simp [aw] at this ⊢
   omega
  clear bW
  generalize hc : ((aw ls (es.take j)).countP fun x => x == (l + m - 1) % m) = c at iw ⊢
  have Hc:=zh hc;clear hc
  by_cases hlt : j < es.length
  ·obtain ⟨⟨x1,x2⟩,hx⟩:=aW es j hlt;obtain ⟨b1,qp,rfl,kV⟩:=Dj.out j x1 (by simp [hx]);obtain ⟨i1,i2⟩:=p9.out _ (List.mem_of_getElem? hx);simp only at i1 i2
   obtain ⟨m1,Za,Zb,Zc,y,rfl,hv,qt,CP,ib,yQ⟩:=eV HL.out i1 i2;cases hv;have t3:=ae yQ
   have e1 : Hid (aw ls (es.take (j + 1)) = aw ls (es.take j) ++ [y]):=by show _ = _;rw [bk hx];simp only [aw,List.map_append,List.map_cons,List.map_nil,ib]
   have jy : Hid (y ∈ aw ls es):=by
    show y ∈ aw ls es
    rw [← ib];exact List.mem_map.2 ⟨_,List.mem_of_getElem? hx,rfl⟩
   clear hx yQ CP ib;cases f1 : (y == (l + m - 1) % m)
   ·cases f2 : (y == (l + 1) % m)
    ·have F:=zh (And.intro f1 f2);go_wp2;go_ret;refine ⟨bt ?_,aa.after bv.out dm⟩;unfold sB;rw [Bool.and_eq_false_iff]
     left
     rw [List.all_eq_false];exact ⟨y,jy.out,by simp [F.out.1,F.out.2]⟩
    ·have F:=zh (And.intro f1 f2);go_wp2
     go_round
     case rel => exact ⟨j + 1,by omega,by go_num,by rw [e1.out,fq,Hc.out];simp [F.out.1],by rw [e1.out,List.all_append,fk.out];simp [F.out.2]⟩
     case measure => simp [intOf];omega
   ·have F:=zh f1;go_wp2
    go_round
    case rel => exact ⟨j + 1,by omega,by go_num,by rw [e1.out,fq,Hc.out];simp [F.out],by rw [e1.out,List.all_append,fk.out];simp [F.out]⟩
    case measure => simp [intOf];omega
  ·obtain rfl : j = es.length:=by omega
   have hr : Hid (sB m l (aw ls es) = ((c == 1) || ((c == 0) && (l == 0)))):=by
    show _ = _
    have h1:=fk.out;have h2:=Hc.out;rw [List.take_length] at h1 h2;unfold sB;rw [h1,h2,Bool.true_and]
   go_upto_region 11 with (fail);have dE : aa W1 W1:=ad _;have t1:=ai t0 dm;refine aB 14 (aa W1) (ad _) ?_;simp only [zT]
   iterate 3 (apply ag rfl;(intro W hW;go_simp;with_reducible rfl);simp only [zA])
   iterate 3 (apply aj rfl rfl;(intro hb;intro W hW;go_simp;with_reducible rfl);simp only [zA])
   iterate 5 (apply fB rfl rfl;(intro hb b_;intro W hW;go_simp;with_reducible rfl);simp only [zA])
   refine h_ rfl rfl rfl ?_;simp only [zA]
   (first | refine bu rfl rfl ?_ | (apply ag rfl;(intro W hW;go_simp;with_reducible rfl)));simp only [zA]
   apply ag rfl;(intro W hW;go_simp;with_reducible rfl);simp only [zA]
   intro W2 iv;have CO:=zh iv;clear iv;go_wp2;go_ret;refine ⟨bP ?_,aa.after bv.out (dm.after CO.out)⟩;rw [hr.out,oe,xS]
def ch (cur : Int) (st : List Int × List Int) (x : Int) : List Int × List Int:=if st.1.getD x.toNat 0 < 0 then (st.1.set x.toNat (st.1.getD cur.toNat 0 + 1),st.2 ++ [x]) else st
def eJ (n : am) (cur : Int) : List Int:=(n.ends.getD cur.toNat []).map fun e => e.1
def Dk (n : am) : Nat → List Int × List Int → Nat → List Int
 | 0,st,_ => st.1
 | f + 1,st,i => if i < st.2.length then Dk n f ((eJ n (st.2.getD i 0)).foldl (ch (st.2.getD i 0)) st) (i + 1) else st.1
def dg (n : am) (v : Nat) : List Int × List Int:=((List.replicate n.ends.length (-1)).set v 0,[(v : Int)])
def dM (n : am) (v : Nat) : List Int:=Dk n (n.ends.length + 1) (dg n v) 0
structure BI (N : Nat) (st : List Int × List Int) : Prop where
 len : st.1.length = N
 walk : ∀ x ∈ st.2,0 ≤ x ∧ x < N
 cnt : st.2.length + st.1.countP (fun x => decide (x < 0)) = N
 val : ∀ x ∈ st.1,-1 ≤ x ∧ x < st.2.length
theorem BI.start {n : am} {v : Nat} (hv : v < n.ends.length) : BI n.ends.length (dg n v) where
 len:=by simp [dg]
 walk:=fun x hx => by simp [dg] at hx;omega
 cnt:=by
  unfold dg;rw [List.countP_set (by simpa using hv)];simp [List.countP_replicate]
  omega
 val:=fun x hx => by
  unfold dg at hx ⊢
  rcases List.mem_or_eq_of_mem_set hx with hx | rfl
  ·have:=List.eq_of_mem_replicate hx
   subst this;simp
  ·simp
theorem BI.bd {N : Nat} {st : List Int × List Int} (h : BI N st) : st.2.length ≤ N:=by have:=h.cnt;omega
theorem BI.step {N : Nat} {st : List Int × List Int} (h : BI N st) {cur x : Int} (hc : 0 ≤ cur ∧ cur < N) (hx : 0 ≤ x ∧ x < N) : BI N (ch cur st x):=by
 unfold ch
 split
 ·rename_i ry
  have AG : x.toNat < st.1.length:=by rw [h.len];omega
  have kh : cur.toNat < st.1.length:=by rw [h.len];omega
  have tW : st.1[x.toNat] < 0:=by rwa [zDd,List.getElem?_eq_getElem AG] at ry
  have SK : -1 ≤ st.1.getD cur.toNat 0 ∧ st.1.getD cur.toNat 0 < st.2.length:=by
   rw [zDd,List.getElem?_eq_getElem kh];exact h.val _ (List.getElem_mem kh)
  obtain ⟨q,hq⟩ : ∃ q,q = st.1.getD cur.toNat 0:=⟨_,rfl⟩
  rw [← hq] at SK ⊢;refine ⟨by simp [h.len],fun y hy => ?_,?_,fun y hy => ?_⟩
  ·rcases List.mem_append.1 hy with hy | hy
   ·exact h.walk y hy
   ·simp at hy;subst hy;exact hx
  ·have h2:=h.cnt;have h3 : 0 < st.1.countP (fun x => decide (x < 0)):=List.countP_pos_iff.2 ⟨_,List.getElem_mem AG,by simpa using tW⟩
   have e1 : (decide (st.1[x.toNat] < 0)) = true:=by simpa using tW
   have e2 : (decide (q + 1 < 0)) = false:=by simp;omega
   show (st.2 ++ [x]).length + _ = _
   rw [List.countP_set AG,e1,e2,List.length_append];simp
   omega
  ·show _ ∧ y < ((st.2 ++ [x]).length : Nat)
   rw [List.length_append];rcases List.mem_or_eq_of_mem_set hy with hy | rfl
   ·have:=h.val y hy;simp;omega
   ·simp;omega
 ·exact h
theorem BI.fold {N : Nat} {cur : Int} (hc : 0 ≤ cur ∧ cur < N) : ∀ (xs : List Int) {st : List Int × List Int},BI N st → (∀ x ∈ xs,0 ≤ x ∧ x < N) → BI N (xs.foldl (ch cur) st)
 | [],_,h,_ => h
 | x :: xs,_,h,hx => BI.fold hc xs (h.step hc (hx x (by simp))) (fun y hy => hx y (List.mem_cons_of_mem _ hy))
theorem pz (cur : Int) (st : List Int × List Int) (x : Int) : ∃ ys,(ch cur st x).2 = st.2 ++ ys:=by
 unfold ch
 split
 ·exact ⟨_,rfl⟩
 ·exact ⟨[],by simp⟩
theorem lQ (cur : Int) : ∀ (xs : List Int) (st : List Int × List Int),∃ ys,(xs.foldl (ch cur) st).2 = st.2 ++ ys
 | [],st => ⟨[],by simp⟩
 | x :: xs,st => by
  obtain ⟨y1,h1⟩:=pz cur st x;obtain ⟨y2,h2⟩:=lQ cur xs (ch cur st x);exact ⟨y1 ++ y2,by rw [List.foldl_cons,h2,h1,List.append_assoc]⟩
theorem Gx {cur : Int} {xs : List Int} {st : List Int × List Int} {j : Nat} {x : Int} (hx : xs[j]? = some x) : (xs.take (j + 1)).foldl (ch cur) st = ch cur ((xs.take j).foldl (ch cur) st) x:=by
 rw [bk hx,List.foldl_append];rfl
theorem pA {n : am} (hn : an n = true) {cur : Int} (hc : 0 ≤ cur ∧ cur < n.ends.length) : ∀ x ∈ eJ n cur,0 ≤ x ∧ x < n.ends.length:=by
 obtain ⟨k,rfl⟩:=Int.eq_ofNat_of_zero_le hc.1;obtain ⟨es,cM⟩:=aW n.ends k (by omega);obtain ⟨-,dC⟩:=df hn cM;intro x hx;unfold eJ at hx;rw [Int.toNat_natCast,zDd,cM] at hx;obtain ⟨e,he,rfl⟩:=List.mem_map.1 hx;exact dC e he
theorem JA {n : am} (hn : an n = true) : ∀ (f : Nat) (st : List Int × List Int) (i : Nat),BI n.ends.length st → ∀ x ∈ Dk n f st i,-1 ≤ x ∧ x < n.ends.length
 | 0,st,_,h,x,hx => by have:=h.val x hx;have:=h.bd;omega
 | f + 1,st,i,h,x,hx => by
  unfold Dk at hx
  split at hx
  ·rename_i hi
   have hw:=h.walk (st.2.getD i 0) (by rw [zDd,List.getElem?_eq_getElem hi];exact List.getElem_mem hi)
   exact JA hn f _ (i + 1) (h.fold hw _ (pA hn hw)) x hx
  ·have:=h.val x hx;have:=h.bd;omega
theorem oh {n : am} (hn : an n = true) : ∀ (f : Nat) (st : List Int × List Int) (i : Nat),BI n.ends.length st → (Dk n f st i).length = n.ends.length
 | 0,st,_,h => h.len
 | f + 1,st,i,h => by
  unfold Dk
  split
  ·rename_i hi
   have hw:=h.walk (st.2.getD i 0) (by rw [zDd,List.getElem?_eq_getElem hi];exact List.getElem_mem hi)
   exact oh hn f _ (i + 1) (h.fold hw _ (pA hn hw))
  ·exact h.len
inductive fH (n : am) (v : Nat) : Nat → Prop
 | refl : fH n v v
 | step {a b : Nat} : fH n v a → (b : Int) ∈ eJ n (a : Int) → fH n v b
structure BR (n : am) (v : Nat) (st : List Int × List Int) : Prop where
 seen : ∀ w : Nat,w < n.ends.length → (0 ≤ st.1.getD w 0 ↔ (w : Int) ∈ st.2)
 rch : ∀ x ∈ st.2,fH n v x.toNat
 start : (v : Int) ∈ st.2
theorem BR.begin {n : am} {v : Nat} (hv : v < n.ends.length) : BR n v (dg n v) where
 seen:=fun w hw => by
  unfold dg;show 0 ≤ ((List.replicate n.ends.length (-1 : Int)).set v 0).getD w 0 ↔ _
  rw [zDd,List.getElem?_set]
  by_cases h : v = w
  ·subst h;simp [hv]
  ·rw [if_neg h,List.getElem?_replicate,if_pos hw];simp
   omega
 rch:=fun x hx => by
  have : x = (v : Int):=by simpa [dg] using hx
  subst this;exact fH.refl
 start:=by simp [dg]
theorem Gy {cur : Int} {st : List Int × List Int} {x y : Int} (h : y ∈ st.2) : y ∈ (ch cur st x).2:=by
 obtain ⟨ys,h2⟩:=pz cur st x;rw [h2];exact List.mem_append_left _ h
theorem BR.one {n : am} {v : Nat} {st : List Int × List Int} {cur x : Int} (hI : BI n.ends.length st) (h : BR n v st) (hc : cur ∈ st.2) (hx : x ∈ eJ n cur) (wE : 0 ≤ x ∧ x < n.ends.length) : BR n v (ch cur st x) ∧ x ∈ (ch cur st x).2:=by
 have Dl:=hI.walk cur hc;obtain ⟨c,rfl⟩:=Int.eq_ofNat_of_zero_le Dl.1;obtain ⟨y,rfl⟩:=Int.eq_ofNat_of_zero_le wE.1;have hq:=(h.seen c (by omega)).2 hc;have hlen:=hI.len;unfold ch
 split
 ·rename_i ry
  refine ⟨⟨fun w hw => ?_,fun z hz => ?_,List.mem_append_left _ h.start⟩,by simp⟩
  ·show 0 ≤ (st.1.set (y : Int).toNat _).getD w 0 ↔ (w : Int) ∈ st.2 ++ [(y : Int)]
   rw [zDd,List.getElem?_set,Int.toNat_natCast]
   by_cases e : y = w
   ·subst e;rw [if_pos rfl,if_pos (by omega)];simp only [Option.getD_some,List.mem_append,List.mem_singleton,or_true,iff_true];rw [Int.toNat_natCast];omega
   ·rw [if_neg e,← zDd,h.seen w hw,List.mem_append,List.mem_singleton];constructor
    ·exact Or.inl
    ·rintro (h2 | h2)
     ·exact h2
     ·omega
  ·rcases List.mem_append.1 hz with hz | hz
   ·exact h.rch z hz
   ·obtain rfl : z = (y : Int):=by simpa using hz
    exact fH.step (h.rch _ hc) (by simpa using hx)
 ·rename_i ry
  exact ⟨h,(h.seen y (by omega)).1 (by rw [Int.toNat_natCast] at ry;omega)⟩
theorem BR.fold {n : am} {v : Nat} {cur : Int} : ∀ (xs : List Int) {st : List Int × List Int},BI n.ends.length st → BR n v st → cur ∈ st.2 → (∀ x ∈ xs,x ∈ eJ n cur ∧ 0 ≤ x ∧ x < n.ends.length) → BR n v (xs.foldl (ch cur) st) ∧ ∀ x ∈ xs,x ∈ (xs.foldl (ch cur) st).2
 | [],_,_,h,_,_ => ⟨h,fun _ hx => by simp at hx⟩
 | x :: xs,st,hI,h,hc,hxs => by
  have hx:=hxs x (List.mem_cons_self ..);have h1:=BR.one hI h hc hx.1 hx.2;have h2:=BR.fold xs (hI.step (hI.walk cur hc) hx.2) h1.1 (Gy hc) (fun y hy => hxs y (List.mem_cons_of_mem _ hy))
  refine ⟨h2.1,fun y hy => ?_⟩
  rcases List.mem_cons.1 hy with rfl | hy
  ·obtain ⟨ys,hw⟩:=lQ cur xs (ch cur st y);show y ∈ (xs.foldl (ch cur) (ch cur st y)).2
   rw [hw];exact List.mem_append_left _ h1.2
  ·exact h2.2 y hy
theorem Fs {n : am} (hn : an n = true) {v : Nat} : ∀ (f : Nat) (st : List Int × List Int) (i : Nat),BI n.ends.length st → BR n v st → (∀ k,k < i → ∀ x ∈ eJ n (st.2.getD k 0),x ∈ st.2) → i ≤ st.2.length → n.ends.length < f + i →
  ∃ jY : List Int × List Int,Dk n f st i = jY.1 ∧ BI n.ends.length jY ∧ BR n v jY ∧ ∀ y ∈ jY.2,∀ x ∈ eJ n y,x ∈ jY.2
 | 0,st,i,hI,_,_,hi,hf => by have:=hI.bd;omega
 | f + 1,st,i,hI,hR,hC,hi,hf => by
  unfold Dk
  by_cases hlt : i < st.2.length
  ·rw [if_pos hlt]
   have hc : st.2.getD i 0 ∈ st.2:=by rw [zDd,List.getElem?_eq_getElem hlt];exact List.getElem_mem hlt
   have Dl:=hI.walk _ hc;have dC:=pA hn Dl;have h1:=BR.fold (cur:=st.2.getD i 0) (eJ n (st.2.getD i 0)) hI hR hc (fun x hx => ⟨hx,dC x hx⟩)
   obtain ⟨ys,hw⟩:=lQ (st.2.getD i 0) (eJ n (st.2.getD i 0)) st
   refine Fs hn f _ (i + 1) (hI.fold Dl _ dC) h1.1 (fun k hk x hx => ?_) (by rw [hw,List.length_append];omega) (by omega)
   have ek : ((eJ n (st.2.getD i 0)).foldl (ch (st.2.getD i 0)) st).2.getD k 0 = st.2.getD k 0:=by
    rw [hw,zDd,List.getElem?_append_left (by omega),← zDd]
   rw [ek] at hx
   by_cases e : k = i
   ·subst e;exact h1.2 x hx
   ·rw [hw];exact List.mem_append_left _ (hC k (by omega) x hx)
  ·rw [if_neg hlt];refine ⟨st,rfl,hI,hR,fun y hy x hx => ?_⟩
   obtain ⟨k,hk,rfl⟩:=List.mem_iff_getElem.1 hy;refine hC k (by omega) x ?_
   rwa [zDd,List.getElem?_eq_getElem hk]
theorem lv {n : am} (hn : an n = true) {v w : Nat} (hv : v < n.ends.length) (h : fH n v w) : w < n.ends.length:=by
 induction h with
 | refl => exact hv
 | step _ h2 ih => have:=pA hn ⟨by omega,by omega⟩ _ h2;omega
theorem iG {n : am} (hn : an n = true) {v w : Nat} (hv : v < n.ends.length) (hw : w < n.ends.length) : 0 ≤ (dM n v).getD w 0 ↔ fH n v w:=by
 obtain ⟨st,h1,h2,h3,h4⟩:=Fs hn (n.ends.length + 1) (dg n v) 0 (BI.start hv) (BR.begin hv) (fun k hk => by omega) (Nat.zero_le _) (by omega)
 unfold dM;rw [h1,h3.seen w hw];constructor
 ·intro h;have:=h3.rch _ h;simpa using this
 ·intro h;clear hw
  induction h with
  | refl => exact h3.start
  | step _ hb ih => exact h4 _ ih _ hb
theorem fH.trans {n : am} {a b c : Nat} (h : fH n a b) (h2 : fH n b c) : fH n a c:=by
 induction h2 with
 | refl => exact h
 | step _ hb ih => exact fH.step ih hb
theorem mp {n : am} {a b : Nat} : (b : Int) ∈ eJ n (a : Int) ↔ ∃ (j : Nat) (q : Int),(n.ends.getD a [])[j]? = some ((b : Int),q):=by
 unfold eJ;rw [List.mem_map,Int.toNat_natCast];constructor
 ·rintro ⟨⟨x,q⟩,hm,h⟩;obtain ⟨j,hj⟩:=List.mem_iff_getElem?.1 hm;simp only at h
  subst h;exact ⟨j,q,hj⟩
 ·rintro ⟨j,q,h⟩;exact ⟨_,List.mem_of_getElem? h,rfl⟩
theorem sT {n : am} (hn : an n = true) {a b : Nat} (ha : a < n.ends.length) (h : (b : Int) ∈ eJ n (a : Int)) : (a : Int) ∈ eJ n (b : Int):=by
 obtain ⟨j,q,hj⟩:=mp.1 h
 have wG : j < (n.ends.getD a []).length:=by
  rcases Nat.lt_or_ge j (n.ends.getD a []).length with h2 | h2
  ·exact h2
  ·rw [List.getElem?_eq_none h2] at hj;cases hj
 have hp : cg n.ends (a : Int) (j : Int) = true:=by
  unfold cg;rw [Bool.and_eq_true,Int.toNat_natCast];exact ⟨aM.2 (by omega),aM.2 (by omega)⟩
 have h2:=rx hn hp
 have he : fg n.ends (a : Int) (j : Int) = ((b : Int),q):=by
  unfold fg;rw [Int.toNat_natCast,Int.toNat_natCast,zDd,hj];rfl
 rw [he] at h2;obtain ⟨h3,h4⟩:=h2;unfold cg at h3;rw [Bool.and_eq_true] at h3;have h5:=aM.1 h3.2;obtain ⟨q',rfl⟩:=Int.eq_ofNat_of_zero_le h5.1;rw [mp];unfold fg at h4;rw [Int.toNat_natCast,Int.toNat_natCast] at h4;rw [Int.toNat_natCast] at h5;refine ⟨q',(j : Int),?_⟩;have hl : q' < (n.ends.getD b []).length:=by omega
 rw [zDd (l:=n.ends.getD b []),List.getElem?_eq_getElem hl] at h4
 rw [List.getElem?_eq_getElem hl];exact congrArg some h4
theorem fH.symm {n : am} (hn : an n = true) {a b : Nat} (ha : a < n.ends.length) (h : fH n a b) : fH n b a:=by
 induction h with
 | refl => exact fH.refl
 | step h1 hb ih => exact fH.trans (fH.step fH.refl (sT hn (lv hn ha h1) hb)) ih
end Go.Proofs.YtgmdpppljkmabaaGreat
