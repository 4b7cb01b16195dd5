/- Parts of the proof: walks of functions and plain laws. -/
import Derived.Test.YtgmdpppljkmabaaGreatP0
import Derived.Test.YtgmdpppljkmabaaGreatP3
import Derived.Lib.SliceRun
import Derived.Test.YtgmdpppljkmabaaGreatP1
import Derived.Test.YtgmdpppljkmabaaGreatP5
set_option maxRecDepth 100000
set_option maxHeartbeats 16000000
namespace Go.Proofs.YtgmdpppljkmabaaGreat
open Go Go.RowKit
theorem Own.cut {w : World} {base g n c : Nat} {xs : List Int} (h : Own w base (.slice (some ⟨g,0,none⟩) n c) xs) (i : Nat) (hi : i ≤ n) : Own w base (.slice (some ⟨g,0,none⟩) i c) (xs.take i):=by
 obtain rfl:=h.len
 unfold Own at *
 have hl : (xs.take i).length = i:=by simp;omega
 rw [hl];rcases h.2 with ⟨h',_⟩ | ⟨g',cap,cur,h',hb,hg,wN,hm,tC,tD⟩
 ·simp at h'
 ·simp only [Value.slice.injEq,Option.some.injEq,Addr.mk.injEq,and_true,true_and] at h';obtain ⟨rfl,rfl,rfl⟩:=h'
  refine ⟨by simp;omega,.inr ⟨g,c,cur,rfl,hb,hg,by omega,hm,tC,?_⟩⟩
  rw [List.map_take,← tD,List.take_take];congr 1
  simp;omega
theorem Own.clear {base g n c : Nat} (m : Nat) : ∀ {w : World} {xs : List Int} (o : Nat),Own w base (.slice (some ⟨g,0,none⟩) n c) xs → ∃ ys,Own (w.setCells g o (List.replicate m (.int .i64 0))) base (.slice (some ⟨g,0,none⟩) n c) ys ∧ ys.take o = xs.take o:=by
 induction m with
 | zero => intro w xs o h;exact ⟨xs,h,rfl⟩
 | succ m ih =>
  intro w xs o h;obtain ⟨ys,h1,h2⟩:=ih (o + 1) (h.set (k:=o) 0);refine ⟨ys,h1,?_⟩
  have:=congrArg (List.take o) h2
  rw [List.take_take,List.take_take,Nat.min_eq_left (by omega)] at this;rw [this];apply List.ext_getElem?
  intro j;rw [List.getElem?_take,List.getElem?_take]
  split
  ·rw [List.getElem?_set_ne (by omega)]
  ·rfl
theorem A7 {w0 : World} {g : Nat} (hg : w0.heap.size ≤ g) (vs : List Value) : ∀ (w : World) (o : Nat),aa w0 w → aa w0 (w.setCells g o vs):=by
 induction vs with
 | nil => intro w o h;exact h
 | cons v vs ih => intro w o h;exact ih _ _ (Below.setCell h hg v)
def gR (p : Int → Bool) (xs : List Int) : List Int:=xs.filter fun x => !p x
theorem Fv (p : Int → Bool) (xs : List Int) : (gR p xs).length ≤ xs.length:=List.length_filter_le _ _
theorem nt (v : Value) (xs : List Int) (dR : FuncId) (cS : Array Value) (p : Int → Bool) (w w0 : World) (h : Own w w0.heap.size v xs) (hs : aa w0 w) (hl : xs.length ≤ 17592186044416) (d9 : ∀ args w,(callFunc dR args).run Tryz.prog w = .ok (.enter dR args) w)
  (hp : mh w0 dR cS p xs) : Calls Tryz.prog 100 #[v,.func (.func dR) #[] cS] w fun e w' => ∃ u,e = .returned u ∧ Own w' w0.heap.size u (gR p xs) ∧ aa w0 w':=by
 have Hp:=zh hp;have HI:=zh h.ints;have hI:=oW v xs dR cS p w h.ints d9 (hp.keep hs);have XK:=zh hI;have eg:=d9;cases nf : xs.any p
 ·have e1 : yN p xs = -1:=xE nf
  have e2 : gR p xs = xs:=by
   unfold gR;rw [List.filter_eq_self];intro x hx;rw [List.any_eq_false] at nf;simpa using nf x hx
  rw [e2];rw [e1] at XK;have Ho:=zh h;have Hs:=zh hs;clear h hs hI nf e1 e2 hp d9
  go_enter Tryz.func100,Tryz.ntmps100
  go_wp2_with fail;refine XK.out.mono ?_;rintro e w1 ⟨rfl,bj⟩;have gG:=zh bj;clear bj;go_wp2;go_ret;exact ⟨_,rfl,Ho.out.keep gG.out,aa.trans Hs.out gG.out⟩
 ·rcases h.cases with ⟨rfl,rfl⟩ | ⟨g,c,rfl,ib,oH⟩
  ·simp at nf
  ·obtain ⟨k0,x0,zS,xW,lN⟩ : ∃ k x,xs[k]? = some x ∧ p x = true ∧ (xs.take k).any p = false:=by
    cases hf : xs.findIdx? p with
    | none =>
     rw [List.findIdx?_eq_none_iff] at hf;rw [List.any_eq_true] at nf;obtain ⟨x,hx,Ak⟩:=nf
     rw [hf x hx] at Ak;cases Ak
    | some i =>
     rw [List.findIdx?_eq_some_iff_getElem] at hf;obtain ⟨hi,T4,bW⟩:=hf;refine ⟨i,xs[i],List.getElem?_eq_getElem hi,T4,?_⟩;rw [List.any_eq_false];intro x hx;obtain ⟨j,hj,rfl⟩:=List.mem_take_iff_getElem.1 hx;simpa using bW j (by omega)
   have e1 : yN p xs = k0:=tG zS xW lN;have abh:=aq zS
   have e2 : gR p (xs.take (k0 + 1)) = xs.take k0:=by
    rw [bk zS];unfold gR
    rw [List.filter_append,List.filter_eq_self.2 (fun x hx => by rw [List.any_eq_false] at lN;simpa using lN x hx)]
    simp [xW]
   rw [e1] at XK;have hm:=h.bd;unfold maxLen at hm;have Ho:=zh h;have Hs:=zh hs;have E2:=zh e2;have GB : ((k0 : Int) == -1) = false:=beq_eq_false_iff_ne.2 (by omega)
   have n9 : Hid (∀ j,(gR p (xs.take j)).length ≤ j):=fun j => Nat.le_trans (Fv _ _) (by simp;omega)
   clear h hs hI nf e1 e2 hp d9 zS xW lN
   go_enter Tryz.func100,Tryz.ntmps100
   go_wp2_with fail;refine XK.out.mono ?_;rintro e w1 ⟨rfl,bj⟩;have gG:=zh bj;clear bj;go_wp2
   go_loopw [5,6] (fun i j wr => ∃ (jn : Nat) (ys : List Int),k0 < jn ∧ jn ≤ xs.length ∧ j = .int .i64 jn ∧ i = .int .i64 ((gR p (xs.take jn)).length : Nat) ∧ (gR p (xs.take jn)).length < jn ∧ Own wr w0.heap.size (.slice (some ⟨g,0,none⟩) xs.length c) ys ∧ ys.length = xs.length ∧ ys.take (gR p (xs.take jn)).length = gR p (xs.take jn) ∧ ys.drop jn = xs.drop jn ∧ aa w0 wr) (fun _ j _ => xs.length - (intOf j).toNat)
   case atStart =>
    have e3 : (gR p (xs.take (k0 + 1))).length = k0:=by rw [E2.out];simp;omega
    exact ⟨k0 + 1,xs,by omega,by omega,by go_num,by rw [e3],by omega,Ho.out.keep gG.out,rfl,by rw [e3,E2.out],rfl,aa.trans Hs.out gG.out⟩
   case round =>
    obtain ⟨jn,ys,sD,xF,rfl,rfl,Aw,ho,IT,ht,Ft,cJ⟩:=hrel
    generalize hi : (gR p (xs.take jn)).length = i at *
    have iU:=zh ho;have Dq:=zh IT;have Ht:=zh ht;have Hdr:=zh Ft;have Hi:=zh hi;have lw:=zh cJ
    by_cases hlt : jn < xs.length
    ·obtain ⟨x,hx⟩:=aW xs jn hlt
     have xL : ys[jn]? = some x:=by
      have:=congrArg (fun l => l[0]?) Ft
      simp only [List.getElem?_drop,Nat.add_zero] at this
      rw [this];exact hx
     have cx:=ho.cell xL;obtain ⟨z,hz⟩:=aW ys i (by omega);have cz:=ho.cell hz;have fz:=ho.free i;have Hx:=zh hx
     have SL : Hid (gR p (xs.take (jn + 1)) = gR p (xs.take jn) ++ if p x then [] else [x]):=by
      show _ = _
      rw [bk hx];unfold gR;rw [List.filter_append];congr 1
      cases Ak : p x <;> simp [Ak]
     clear ho IT ht Ft hi cJ hx xL hz;cases Ak : p x
     ·have Gq:=zh Ak;clear Ak;go_wp2_with fail;refine (Hp.out x (List.mem_of_getElem? Hx.out) _ lw.out).mono ?_;rintro e w2 ⟨rfl,b_⟩;rw [Gq.out];have ie:=iU.out.keep b_;have cz2:=bc b_ cz;have fz2:=ie.free i;have ms:=zh (ie.set (k:=i) x);have eY:=zh (Below.setCell (p:=⟨g,i,none⟩) (aa.trans lw.out b_) ib (.int .i64 x));clear b_ ie cz cx fz;go_wp2;go_roundw
      case rel =>
       refine ⟨jn + 1,ys.set i x,by omega,by omega,by go_num,?_,?_,ms.out,by simp [Dq.out],?_,?_,eY.out⟩
       ·rw [SL.out,Gq.out];simp [Hi.out]
       ·rw [SL.out,Gq.out];simp [Hi.out];omega
       ·rw [SL.out,Gq.out];simp only [Bool.false_eq_true,if_false,List.length_append,List.length_cons,List.length_nil,Nat.zero_add,Hi.out]
        have gH : (ys.set i x)[i]? = some x:=by rw [List.getElem?_set_self (by have:=Dq.out;omega)]
        rw [bk gH];congr 1
        rw [← Ht.out];apply List.ext_getElem?
        intro q;rw [List.getElem?_take,List.getElem?_take]
        split
        ·rw [List.getElem?_set_ne (by omega)]
        ·rfl
       ·have:=congrArg (List.drop 1) Hdr.out
        rw [List.drop_drop,List.drop_drop] at this;rw [← this];apply List.ext_getElem?
        intro q;rw [List.getElem?_drop,List.getElem?_drop,List.getElem?_set_ne (by omega)]
      case measure => simp [intOf];omega
     ·have Gq:=zh Ak;clear Ak;go_wp2_with fail;refine (Hp.out x (List.mem_of_getElem? Hx.out) _ lw.out).mono ?_;rintro e w2 ⟨rfl,b_⟩;rw [Gq.out];have ms:=zh (iU.out.keep b_);have eY:=zh (aa.trans lw.out b_);clear b_ cz cx fz;go_wp2;go_roundw
      case rel =>
       refine ⟨jn + 1,ys,by omega,by omega,by go_num,by rw [SL.out,Gq.out];simp [Hi.out],by rw [SL.out,Gq.out];simp [Hi.out];omega,ms.out,Dq.out,by rw [SL.out,Gq.out];simp [Hi.out,Ht.out],?_,eY.out⟩
       have:=congrArg (List.drop 1) Hdr.out
       rwa [List.drop_drop,List.drop_drop] at this
      case measure => simp [intOf];omega
    ·obtain rfl : jn = xs.length:=by omega
     have kh : ∀ ty,(Builtin.clear_ #[25] ty #[.slice (some ⟨g,i,none⟩) (xs.length - i) (c - i)]).run Tryz.prog wr = .ok (.tuple #[]) (wr.setCells g i (List.replicate (xs.length - i) (.int .i64 0))):=
      fun ty => Lib.run_clear_slice wr _ _ ty _ Tryz.underlying25 (fun w => by kernel_rfl) rfl rfl g i _ _ (by omega) (fun t ht' => by
       obtain ⟨z,hz⟩:=aW ys (i + t) (by omega)
       rw [ho.cell hz];rfl) (fun t ht' => ho.free _)
     obtain ⟨zs,eF,eD⟩:=ho.clear (m:=xs.length - i) (w:=wr) i;have A_:=zh (eF.cut i (by omega));have Fw:=zh eD;have eY:=zh (A7 ib (List.replicate (xs.length - i) (.int .i64 0)) wr i cJ)
     have wN : xs.length ≤ c ∧ c ≤ 9223372036854775807:=by
      rcases ho.2 with ⟨h',_⟩ | ⟨g',cap,cur,h',hb,hg,wN,hm,tC,tD⟩
      ·simp at h'
      ·simp only [Value.slice.injEq,Option.some.injEq,Addr.mk.injEq,and_true] at h';unfold maxLen at hm;omega
     obtain ⟨wN,MZ⟩:=wN;have hic : i ≤ c:=by omega
     clear ho IT ht Ft hi cJ eF eD hlt sD xF hl;go_wp2;go_ret;refine ⟨_,rfl,?_,eY.out⟩;have h1:=A_.out;rw [Fw.out,Ht.out,List.take_length] at h1;exact h1
theorem Ba {w : World} {ops : Array Oper} {rest : List Oper} {o : Oper} {a : Act} {Q : Exit → Act → World → Prop} (iS : o.guard = none) (s x : Operand)
  (ho : o.op = .call { callee:=.builtin .append,args:=#[s,x],argTypes:=#[25,25] }) {base : Nat} {v : Value} {xs : List Int} (hs : a.eval s = v) (h : Own w base v xs) (b off c : Nat) (ys : List Int)
  (hx : a.eval x = .slice (some ⟨b,off,none⟩) ys.length c) (hc : ∀ j y,ys[j]? = some y → w.cell? ⟨b,off + j,none⟩ = some (.int .i64 y)) (hy : 0 < ys.length) (hl : xs.length + ys.length ≤ 17592186044416) (ky : base ≤ w.heap.size)
  (k : ∀ g cap w',Own w' base (.slice (some ⟨g,0,none⟩) (xs.length + ys.length) cap) (xs ++ ys) → w.grownBy w' v.ownBlock → (v.ownBlock = some g ∨ g = w.heap.size) → g < w'.heap.size → wpList Tryz.prog ops Q rest (a.put o.dst (.slice (some ⟨g,0,none⟩) (xs.length + ys.length) cap)) w') : wpList Tryz.prog ops Q (o :: rest) a w:=by
 obtain ⟨i0,hi,kg,eF,eD⟩:=info_parts kr
 refine wpList_append_lies w iS s x 25 ho base 3 i0 (.int .i64 0) 1 8 Tryz.underlying25 hi kg eF eD rfl (by decide) v xs.length (xs.map (Value.int .i64)) hs h ⟨b,off,none⟩ ys.length c (ys.map (Value.int .i64)) hx (by simp)
  (by
   intro j u hj;rw [List.getElem?_map] at hj
   cases Zg : ys[j]? with
   | none => rw [Zg] at hj;simp at hj
   | some y =>
    rw [Zg] at hj;simp at hj
    subst hj;rw [Go.Addr.add_lit]
    exact hc j y Zg) (by simp [Value.oneCell']) hy (by unfold maxLen;omega) (by omega) ky w.heap.size rfl ?_
 intro g cap w' h1 h2 h3 h4;refine k g cap w' ?_ h2 h3 h4;unfold Own;simpa using h1
theorem GC (v : Value) (xs : List Int) (w : World) (h : bD w v xs) (SE : 0 < xs.length) (hl : xs.length ≤ 17592186044416) :
  Calls Tryz.prog 179 #[v] w fun e w' => ∃ u,e = .returned u ∧ Own w' w.heap.size u xs ∧ Below w.heap.size w w':=by
 obtain ⟨A,c,rfl,ft,hm,hA⟩:=h;unfold maxLen at hm;have ho:=jk w [] (by simp [maxLen]);simp only [List.map_nil,List.length_nil] at ho;obtain ⟨y0,yW⟩:=aW xs 0 (by omega);obtain ⟨b,off,rfl,_⟩:=hA 0 y0 yW
 have HA : Hid (∀ j y,xs[j]? = some y → w.cell? ⟨b,off + j,none⟩ = some (.int .i64 y)):=fun j y hj => by
  obtain ⟨b',pl,e,hc⟩:=hA j y hj;cases e;exact hc
 have Ho:=zh ho;clear hA yW ho
 go_enter Tryz.func179,Tryz.ntmps179
 go_wp2_with (at_builtin;refine Ba rfl _ _ rfl rfl Ho.out b off c xs rfl (fun j y hj => bc (au _ _) (HA.out j y hj)) SE (by simpa using hl) (by simp) ?_;intro g cc w2 dL oH _ _)
 simp only [List.length_nil,Nat.zero_add,List.nil_append] at dL ⊢
 have iU:=zh dL;have tP : Hid (Below w.heap.size w w2):=(au w _).grown oH (by simp) (fun j hj => (World.ownsRow.lt Ho.out j hj).1)
 clear dL oH;go_wp2;go_ret;exact ⟨_,rfl,iU.out,tP.out⟩
def I1 (W : World) (b : Nat) (x : Int) : Prop:=W.heap[b]? = some (.cells #[.int .i64 x] 3)
theorem I1.cells {W : World} {b : Nat} {x : Int} (h : I1 W b x) : W.cell? ⟨b,0,none⟩ = some (.int .i64 x) ∧ W.frozen? ⟨b,0,none⟩ = false:=by
 unfold I1 at h;simp [World.cell?,World.frozen?,h]
theorem I1.lt {W : World} {b : Nat} {x : Int} (h : I1 W b x) : b < W.heap.size:=(Array.getElem?_eq_some_iff.1 h).1
theorem I1.since {W W' : World} {b : Nat} {x : Int} (h : I1 W b x) (hs : aa W W') : I1 W' b x:=(hs.below.block b h.lt).trans h
theorem I1.set {W : World} {b : Nat} {x : Int} (h : I1 W b x) (y : Int) : I1 (W.setCell ⟨b,0,none⟩ (.int .i64 y)) b y:=by
 unfold I1 at *
 simp [World.setCell,Array.getElem?_modify,h]
theorem I1.new (W : World) (x : Int) : I1 (W.alloc (.cells #[.int .i64 x] 3)) W.heap.size x:=by
 show (W.heap.push _)[W.heap.size]? = _
 rw [Array.getElem?_push_size]
theorem JH (ev : Operand → Value) (d : Option Tmp) (ty : TypeId) (pos : String) (af : Array Edge) (W : World) : (execOp ev ⟨d,.alloc 3,ty,pos,af,none⟩).run Tryz.prog W = .ok (.value (MM W.heap.size)) (W.alloc (.cells #[.int .i64 0] 3)):=by
 unfold MM
 go_simp
theorem GF (ev : Operand → Value) (ty : TypeId) (pos : String) (af : Array Edge) (W : World) (p x : Operand) (b : Nat) (q1 : Value) (y1 : Int) (h1 : ev p = MM b) (h2 : ev x = .int .i64 y1) (h3 : W.cell? ⟨b,0,none⟩ = some q1) (h5 : W.frozen? ⟨b,0,none⟩ = false) :
  (execOp ev ⟨none,.store 3 p x,ty,pos,af,none⟩).run Tryz.prog W = .ok .skip (W.setCell ⟨b,0,none⟩ (.int .i64 y1)):=by
 unfold MM at h1
 go_simp
theorem Bb {W : World} {base b : Nat} {u : Value} {xs : List Int} (h : Own W base u xs) (hd : u.ownBlock ≠ some b) (v : Value) : Own (W.setCell ⟨b,0,none⟩ v) base u xs:=
 aO h fun k hk => Below.heap_setCell W _ v k (fun e => hd (by simp at hk;rw [hk,e]))
section
variable {ops : Array Oper}
theorem ud {Q : Exit → Act → World → Prop} {JB : Nat} {a : Act} {w w0 : World} (m d x c s : Nat) (y : Int) (xs : List Int) (hm : Tryz.prog.follows .mixedOrders = true) (hf : tK ops (m + 4) = true) (ed : ops.size = m + 4) (cX : aa w0 w) {oc : Oper} (s0 : ops[m]? = some oc) (T6 : oc.dst = some c)
  (s1 : ∃ ty pos af,ops[m + 1]? = some ⟨some d,.alloc 3,ty,pos,af,none⟩) (s2 : ∃ ty pos af,ops[m + 2]? = some ⟨none,.store 3 (.tmp d) (.tmp x),ty,pos,af,none⟩) (s3 : ∃ ty pos af,ops[m + 3]? = some ⟨some s,.assign (.tmp c),ty,pos,af,none⟩)
  (hx : x ≠ d ∧ x ≠ c ∧ x ≠ s) (hd : d < a.tmps.size) (hc : c < a.tmps.size)
  (h : k7 Tryz.prog ops w0 (fun A => A.eval (.tmp x) = .int .i64 y ∧ (Region.wanted oc (yielded ops A.tmps) = true ∧ ∀ W,aa w0 W → ku Tryz.prog (fun W' u => Own W' W.heap.size u xs) oc A W) ∧
   ∀ u b W,aa w0 W → Own W w0.heap.size u xs → I1 W b y → Q .normal (((A.put (some c) u).put (some d) (MM b)).put (some s) u) W) (ops.toList.take m) a) : (Code.region JB ops true).wp Tryz.prog Q a w:=by
 have gD:=qg hf;obtain ⟨vals,F,h0,⟨tW,⟨py,ib⟩,fA⟩,JI⟩:=qj _ a h
 have hlen : (ops.toList.take m).length = m:=by simp;omega
 rw [hlen] at tW py ib fA
 have qh : ∀ i o,i < m → ops[i]? = some o → (ops.toList.take m)[i]? = some o:=fun i o hi ho => by
  rw [List.getElem?_take,if_pos hi];simpa using ho
 obtain ⟨ty1,ps1,af1,s1⟩:=s1;obtain ⟨ty2,ps2,af2,s2⟩:=s2;obtain ⟨ty3,ps3,af3,s3⟩:=s3
 have hF0 : ∀ i,i ≤ m → aX a ops vals (fun j => j < i) (F i):=by
  intro i
  induction i with
  | zero => intro _;rw [h0];exact ⟨rfl,rfl,fun j _ _ hj => absurd hj (by omega),fun _ _ => rfl⟩
  | succ i ih =>
   intro hi;have wu : i < ops.size:=by omega
   have ho : ops[i]? = some ops[i]:=Array.getElem?_eq_getElem wu;rw [(JI i _ (qh i _ (by omega) ho)).2]
   exact ((ih (by omega)).put ho (fun j oj d hj fw hd iz => by
    have:=gD.dsts i _ (by omega) ho j oj (by omega) fw d hd iz
    omega)).same (fun j => by show (j < i ∨ j = i) ↔ j < i + 1;omega)
 let V : Value → Nat → Nat → Value:=fun u b j => if j = m then u else if j = m + 1 then MM b else if j = m + 3 then u else vals j
 have v0 : ∀ u b,V u b m = u:=fun u b => if_pos rfl
 have v1 : ∀ u b,V u b (m + 1) = MM b:=fun u b => by show (if m + 1 = m then _ else if m + 1 = m + 1 then _ else _) = _;rw [if_neg (by omega),if_pos rfl]
 have v3 : ∀ u b,V u b (m + 3) = u:=fun u b => by show (if m + 3 = m then _ else if m + 3 = m + 1 then _ else if m + 3 = m + 3 then _ else _) = _;rw [if_neg (by omega),if_neg (by omega),if_pos rfl]
 have vv : ∀ u b j,j < m → V u b j = vals j:=fun u b j hj => by show (if j = m then _ else if j = m + 1 then _ else if j = m + 3 then _ else vals j) = _;rw [if_neg (by omega),if_neg (by omega),if_neg (by omega)]
 have hF : ∀ u b i,i ≤ m → aX a ops (V u b) (fun j => j < i) (F i):=fun u b i hi => (hF0 i hi).vals (fun j hj => (vv u b j (by omega)).symm)
 refine wR hm gD.back (fun D a' W => aa w0 W ∧ ∃ u b,aX a ops (V u b) D a' ∧ (D m → Own W w0.heap.size u xs) ∧ (D (m + 1) → w0.heap.size ≤ b ∧ (D (m + 2) → I1 W b y) ∧ (¬ D (m + 2) → I1 W b 0)) ∧ (D m → D (m + 1) → u.ownBlock ≠ some b)) ?_ ?_ ?_
 ·exact ⟨ak cX,undef,0,⟨rfl,rfl,fun j _ _ hj => hj.elim,fun _ _ => rfl⟩,fun h => h.elim,fun h => h.elim,fun h => h.elim⟩
 ·rintro D a' W i o ⟨hW,u,b,i8,hO,hB,fS⟩ ho oo iR kh
  have dC : i < m + 4:=by have:=(Array.getElem?_eq_some_iff.1 ho).1;omega
  have look : ∀ t ∈ o.looksAt ops,∀ j oj,ops[j]? = some oj → oj.dst = some t → D j ∧ j < i:=fun t ht j oj fw hd => by
   have yO : j < m + 4:=by have:=(Array.getElem?_eq_some_iff.1 fw).1;omega
   have:=gD.looks i o dC ho t ht j oj yO fw hd
   exact ⟨iR j this,gD.back i o ho j this⟩
  have pC : ∀ j oj d,D j → ops[j]? = some oj → o.dst = some d → oj.dst ≠ some d:=fun j oj d hj fw hd iz => by
   have yO : j < m + 4:=by have:=(Array.getElem?_eq_some_iff.1 fw).1;omega
   have:=gD.dsts i o dC ho j oj yO fw d hd iz
   subst this;exact oo hj
  have yX : ∀ j,(D j ∨ j = i) → j ≠ i → D j:=fun j h hj => h.elim (fun h => h) fun e => absurd e hj
  rcases Nat.lt_or_ge i m with him | him
  ·obtain ⟨⟨hw,dt⟩,-⟩:=JI i o (qh i o him ho);obtain ⟨he,wY⟩:=fC (ops:=ops) (a':=a') (A:=F i) (fun t ht => i8.agree (hF u b i (by omega)) t (fun j oj hj fw hd => look t ht j oj fw hd)) (fun cs b => gD.nosel i o cs b ho)
   rw [if_pos (wY.trans hw)];unfold Oper.wp;rw [he,dt W hW];refine ⟨hW,u,b,?_,fun h => hO (yX _ h (by omega)),fun h => ?_,fun h h' => fS (yX _ h (by omega)) (yX _ h' (by omega))⟩
   ·have:=i8.put (i:=i) ho pC
    rwa [vv u b i him] at this
   ·obtain ⟨q1,q2,q3⟩:=hB (yX _ h (by omega));exact ⟨q1,fun h => q2 (yX _ h (by omega)),fun h => q3 fun hh => h (.inl hh)⟩
  ·obtain rfl | rfl | rfl | rfl : i = m ∨ i = m + 1 ∨ i = m + 2 ∨ i = m + 3:=by omega
   ·rw [s0] at ho;cases ho
    obtain ⟨he,wY⟩:=fC (ops:=ops) (a':=a') (A:=F i) (fun t ht => i8.agree (hF u b i (Nat.le_refl _)) t (fun j oj hj fw hd => look t ht j oj fw hd)) (fun cs b => gD.nosel i _ cs b s0)
    rw [if_pos (wY.trans py)];unfold Oper.wp;rw [he];have pD:=ib W hW;unfold ku at pD;have n3 : ¬ D (i + 3):=fun h => oo (kh _ _ h s3 _ (gD.looks (i + 3) _ (by omega) s3 c (by simp [Oper.looksAt,Op.operands]) i _ (by omega) s0 T6))
    have next : ∀ u' W',Own W' W.heap.size u' xs → aa W W' → aa w0 W' ∧ ∃ u b,aX a ops (V u b) (fun j => D j ∨ j = i) (a'.put oc.dst u') ∧ ((D i ∨ i = i) → Own W' w0.heap.size u xs) ∧ ((D (i + 1) ∨ i + 1 = i) → w0.heap.size ≤ b ∧ ((D (i + 2) ∨ i + 2 = i) → I1 W' b y) ∧ (¬ (D (i + 2) ∨ i + 2 = i) → I1 W' b 0)) ∧ ((D i ∨ i = i) → (D (i + 1) ∨ i + 1 = i) → u.ownBlock ≠ some b):=fun u' W' hr hs => by
     refine ⟨hW.after hs,u',b,?_,fun _ => hr.mono hW.below.size,fun h => ?_,fun _ h => ?_⟩
     ·have:=(i8.vals2 (v':=V u' b) (fun j yO hj => by
       rcases Nat.lt_or_ge j i with h | h
       ·rw [vv _ _ _ h,vv _ _ _ h]
       ·obtain rfl | rfl | rfl | rfl : j = i ∨ j = i + 1 ∨ j = i + 2 ∨ j = i + 3:=by omega
        ·exact absurd hj oo
        ·rw [v1,v1]
        ·show (if i + 2 = i then _ else if i + 2 = i + 1 then _ else if i + 2 = i + 3 then _ else vals (i + 2)) = (if i + 2 = i then _ else if i + 2 = i + 1 then _ else if i + 2 = i + 3 then _ else vals (i + 2))
         rw [if_neg (by omega),if_neg (by omega),if_neg (by omega),if_neg (by omega),if_neg (by omega),if_neg (by omega)]
        ·exact absurd hj n3)).put (i:=i) s0 pC
      rwa [v0] at this
     ·obtain ⟨q1,q2,q3⟩:=hB (yX _ h (by omega));exact ⟨q1,fun h => (q2 (yX _ h (by omega))).since hs,fun h => (q3 fun hh => h (.inl hh)).since hs⟩
     ·obtain ⟨q1,q2,q3⟩:=hB (yX _ h (by omega))
      have qy : b < W.heap.size:=by
       by_cases h2 : D (i + 2)
       ·exact (q2 h2).lt
       ·exact (q3 h2).lt
      intro e
      have:=(World.ownsRow.lt hr b e).1
      omega
    generalize (execOp (F i).eval oc).run Tryz.prog W = r at pD ⊢
    cases r with
    | ok nx W' =>
     cases nx with
     | value u' => exact next u' W' pD.1 pD.2
     | enter f args =>
      simp only at pD
      rw [Oper.upon_enter]
      exact pD.mono fun e mZ ⟨u',Da,hr,hs⟩ => by subst Da;exact next u' mZ hr hs
     | _ => exact pD.elim
    | halt x W' => exact pD.elim
   ·rw [s1] at ho;cases ho
    rw [if_pos (show Region.wanted (⟨some d,.alloc 3,ty1,ps1,af1,none⟩ : Oper) (yielded ops a'.tmps) = true from rfl)];unfold Oper.wp;rw [JH];have n2 : ¬ D (m + 2):=fun h => oo (kh _ _ h s2 _ (gD.looks (m + 2) _ (by omega) s2 d (by simp [Oper.looksAt,Op.operands]) (m + 1) _ (by omega) s1 rfl))
    refine ⟨ah _ hW,u,W.heap.size,?_,fun h => (hO (yX _ h (by omega))).since (ah _ (ad _)),fun _ => ⟨hW.below.size,fun h => (n2 (yX _ h (by omega))).elim,fun _ => I1.new W 0⟩,fun h _ e => ?_⟩
    ·have:=(i8.vals2 (v':=V u W.heap.size) (fun j yO hj => by
      rcases Nat.lt_or_ge j m with h | h
      ·rw [vv _ _ _ h,vv _ _ _ h]
      ·obtain rfl | rfl | rfl | rfl : j = m ∨ j = m + 1 ∨ j = m + 2 ∨ j = m + 3:=by omega
       ·rw [v0,v0]
       ·exact absurd hj oo
       ·exact absurd hj n2
       ·rw [v3,v3])).put (i:=m + 1) s1 pC
     rwa [v1] at this
    ·have:=(World.ownsRow.lt (hO (yX _ h (by omega))) _ e).2
     omega
   ·rw [s2] at ho;cases ho
    rw [if_pos (show Region.wanted (⟨none,.store 3 (.tmp d) (.tmp x),ty2,ps2,af2,none⟩ : Oper) (yielded ops a'.tmps) = true from rfl)];have XL : D (m + 1):=(look d (by simp [Oper.looksAt,Op.operands]) (m + 1) _ s1 rfl).1;obtain ⟨q1,q2,q3⟩:=hB XL;have q:=q3 oo;obtain ⟨c1,c2⟩:=q.cells
    have e1 : a'.eval (.tmp d) = MM b:=by
     have:=i8.on (m + 1) _ d XL s1 rfl hd
     simp only [Act.eval,Array.getD_eq_getD_getElem?,this,Option.getD_some];exact v1 u b
    have e2 : a'.eval (.tmp x) = .int .i64 y:=by
     rw [← tW]
     have:=i8.agree (hF u b m (Nat.le_refl _)) x (fun j oj hj fw yY => ⟨(look x (by simp [Oper.looksAt,Op.operands]) j oj fw yY).1,by
      have CN:=(look x (by simp [Oper.looksAt,Op.operands]) j oj fw yY).2;rcases Nat.lt_or_ge j m with hh | hh
      ·exact hh
      ·exfalso
       obtain rfl | rfl : j = m ∨ j = m + 1:=by omega
       ·rw [s0] at fw;cases fw
        rw [T6] at yY;exact hx.2.1 (Option.some.inj yY).symm
       ·rw [s1] at fw;cases fw
        exact hx.1 (Option.some.inj yY).symm⟩)
     simp [Act.eval,this]
    unfold Oper.wp;rw [GF a'.eval _ _ _ W _ _ b _ y e1 e2 c1 c2];refine ⟨Below.setCell hW q1 _,u,b,?_,fun h => Bb (hO (yX _ h (by omega))) (fS (yX _ h (by omega)) XL) _,fun _ => ⟨q1,fun _ => q.set y,fun h => (h (.inr rfl)).elim⟩,fun h _ => fS (yX _ h (by omega)) XL⟩
    exact i8.put (i:=m + 2) s2 pC
   ·rw [s3] at ho;cases ho
    rw [if_pos (show Region.wanted (⟨some s,.assign (.tmp c),ty3,ps3,af3,none⟩ : Oper) (yielded ops a'.tmps) = true from rfl)];have hD0 : D m:=(look c (by simp [Oper.looksAt,Op.operands]) m _ s0 T6).1
    have e1 : a'.eval (.tmp c) = u:=by
     have:=i8.on m _ c hD0 s0 T6 hc
     simp only [Act.eval,Array.getD_eq_getD_getElem?,this,Option.getD_some];exact v0 u b
    unfold Oper.wp
    have dt : (execOp a'.eval ⟨some s,.assign (.tmp c),ty3,ps3,af3,none⟩).run Tryz.prog W = .ok (.value u) W:=by
     rw [← e1]
     generalize a'.eval = ev
     simp [execOp,go_sem]
    rw [dt];refine ⟨hW,u,b,?_,fun h => hO (yX _ h (by omega)),fun h => ?_,fun h h' => fS (yX _ h (by omega)) (yX _ h' (by omega))⟩
    ·have:=i8.put (i:=m + 3) s3 pC
     rwa [v3] at this
    ·obtain ⟨q1,q2,q3⟩:=hB (yX _ h (by omega));exact ⟨q1,fun h => q2 (yX _ h (by omega)),fun h => q3 fun hh => h (.inl hh)⟩
 ·rintro D a' W ⟨hW,u,b,i8,hO,hB,fS⟩ bW
  have M0 : ∀ i o,i < m + 4 → ops[i]? = some o → ∀ j oj d,j < i → ops[j]? = some oj → o.dst = some d → oj.dst ≠ some d:=fun i o hi ho j oj d hj fw hd iz => by
   have:=gD.dsts i o hi ho j oj (by omega) fw d hd iz
   omega
  have f1:=((hF u b m (Nat.le_refl _)).put (i:=m) s0 (fun j oj d hj fw => M0 m _ (by omega) s0 j oj d hj fw)).same (E:=fun j => j < m + 1) (fun j => by show (j < m ∨ j = m) ↔ j < m + 1;omega)
  have f2:=(f1.put (i:=m + 1) s1 (fun j oj d hj fw => M0 (m + 1) _ (by omega) s1 j oj d hj fw)).same (E:=fun j => j < m + 2) (fun j => by show (j < m + 1 ∨ j = m + 1) ↔ j < m + 2;omega)
  have f3:=(f2.put (i:=m + 2) s2 (fun j oj d hj fw => M0 (m + 2) _ (by omega) s2 j oj d hj fw)).same (E:=fun j => j < m + 3) (fun j => by show (j < m + 2 ∨ j = m + 2) ↔ j < m + 3;omega)
  have f4:=(f3.put (i:=m + 3) s3 (fun j oj d hj fw => M0 (m + 3) _ (by omega) s3 j oj d hj fw)).same (E:=fun j => j < m + 4) (fun j => by show (j < m + 3 ∨ j = m + 3) ↔ j < m + 4;omega)
  have e:=i8.ext f4 (fun j hj => ⟨fun _ => by omega,fun _ => bW j hj⟩)
  rw [e,v0,v1,v3,T6];exact fA u b W hW (hO (bW m (by omega))) ((hB (bW (m + 1) (by omega))).2.1 (bW (m + 2) (by omega)))
end
theorem M1 {W : World} {base b k : Nat} {u : Value} {xs : List Int} (h : Own W base u xs) (hd : u.ownBlock ≠ some b) (v : Value) : Own (W.setCell ⟨b,k,none⟩ v) base u xs:=
 aO h fun j hj => Below.heap_setCell W _ v j (fun e => hd (by simp at hj;rw [hj,e]))
theorem sX {ls : List Int} {v : Nat} (h : v < ls.length) : ls[v]? = some (ls.getD v 0):=by rw [zDd,List.getElem?_eq_getElem h];rfl
abbrev Ed:=Int × Int × Int × Int
def mT (e : Ed) : List Value:=[.int .i64 e.1,.int .i64 e.2.1,.int .i64 e.2.2.1,.int .i64 e.2.2.2]
theorem GG : (Tryz.prog.info? 136).map (fun i => (i.zero,i.size,i.bytes)) = some (some (.agg #[.int .i64 0,.int .i64 0,.int .i64 0,.int .i64 0]),4,32):=by kernel_rfl
def oJ (w : World) (base : Nat) (v : Value) (xs : List Ed) : Prop:=w.ownsRow base 136 4 v xs.length (xs.flatMap mT)
theorem Bc : ∀ {xs : List Ed} {k : Nat} {x : Ed},xs[k]? = some x → (xs.flatMap mT)[k * 4]? = some (.int .i64 x.1) ∧ (xs.flatMap mT)[k * 4 + 1]? = some (.int .i64 x.2.1) ∧ (xs.flatMap mT)[k * 4 + 2]? = some (.int .i64 x.2.2.1) ∧ (xs.flatMap mT)[k * 4 + 3]? = some (.int .i64 x.2.2.2)
 | [],_,_,h => by simp at h
 | y :: xs,0,x,h => by simp at h;subst h;simp [mT]
 | y :: xs,k + 1,x,h => by
  obtain ⟨h1,h2,h3,h4⟩:=Bc (xs:=xs) (k:=k) (x:=x) (by simpa using h)
  have e : ∀ j,((y :: xs).flatMap mT)[(k + 1) * 4 + j]? = (xs.flatMap mT)[k * 4 + j]?:=fun j => by
   rw [List.flatMap_cons,List.getElem?_append_right (by simp [mT];omega)]
   congr 1
   simp [mT];omega
  exact ⟨(e 0).trans h1,(e 1).trans h2,(e 2).trans h3,(e 3).trans h4⟩
theorem oJ.keep {w w' : World} {base : Nat} {v : Value} {xs : List Ed} (h : oJ w base v xs) (hb : aa w w') : oJ w' base v xs:=aO h fun k hk => hb.below.block k (World.ownsRow.lt h k (by simpa using hk)).2
theorem oJ.mono {w : World} {base ks : Nat} {v : Value} {xs : List Ed} (h : oJ w base v xs) (hb : ks ≤ base) : oJ w ks v xs:=ka h hb
theorem JJ (w : World) (base : Nat) : oJ w base (.slice none 0 0) []:=World.ownsRow_nil w base _ _
def JK (W : World) (v : Value) (xs : List Ed) : Prop:=∃ A c,v = .slice A xs.length c ∧ c ≤ maxLen ∧ xs.length ≤ c ∧ ∀ k x,xs[k]? = some x → ∃ b,A = some ⟨b,0,none⟩ ∧ W.cell? ⟨b,k * 4,none⟩ = some (.int .i64 x.1) ∧ W.cell? ⟨b,k * 4 + 1,none⟩ = some (.int .i64 x.2.1) ∧ W.cell? ⟨b,k * 4 + 2,none⟩ = some (.int .i64 x.2.2.1) ∧ W.cell? ⟨b,k * 4 + 3,none⟩ = some (.int .i64 x.2.2.2)
theorem oJ.read {w : World} {base : Nat} {v : Value} {xs : List Ed} (h : oJ w base v xs) : JK w v xs:=by
 have h':=h;rcases h.2 with ⟨rfl,hn⟩ | ⟨g,cap,cur,rfl,hb,hg,wN,MZ,ed,IU⟩
 ·have : xs = []:=List.eq_nil_of_length_eq_zero hn
  subst this;exact ⟨none,0,rfl,Nat.zero_le _,Nat.le_refl _,fun k x hk => by simp at hk⟩
 ·refine ⟨_,cap,rfl,MZ,wN,fun k x hk => ⟨g,rfl,?_⟩⟩
  obtain ⟨h1,h2,h3,h4⟩:=Bc hk;have lq:=aq hk
  exact ⟨by rw [World.ownsRow.cellAt (cap:=cap) h' _ (by omega)];exact h1,by rw [World.ownsRow.cellAt (cap:=cap) h' _ (by omega)];exact h2,by rw [World.ownsRow.cellAt (cap:=cap) h' _ (by omega)];exact h3,by rw [World.ownsRow.cellAt (cap:=cap) h' _ (by omega)];exact h4⟩
theorem JL {w w0 : World} {ops : Array Oper} {rest : List Oper} {o : Oper} {a : Act} {Q : Exit → Act → World → Prop} (iS : o.guard = none) (s x : Operand)
  (ho : o.op = .call { callee:=.builtin .append,args:=#[s,x],argTypes:=#[133,133] }) {v : Value} {xs : List Ed} (hs : a.eval s = v) (h : oJ w w0.heap.size v xs) (b : Nat) (y : Ed)
  (hx : a.eval x = .slice (some ⟨b,0,none⟩) 1 1) (IV : w.cell? ⟨b,0,none⟩ = some (.int .i64 y.1)) (eS : w.cell? ⟨b,1,none⟩ = some (.int .i64 y.2.1)) (lm : w.cell? ⟨b,2,none⟩ = some (.int .i64 y.2.2.1)) (qo : w.cell? ⟨b,3,none⟩ = some (.int .i64 y.2.2.2)) (hl : xs.length + 1 ≤ 1000000) (ww : aa w0 w)
  (k : ∀ g cap w',oJ w' w0.heap.size (.slice (some ⟨g,0,none⟩) (xs.length + 1) cap) (xs ++ [y]) → aa w0 w' → wpList Tryz.prog ops Q rest (a.put o.dst (.slice (some ⟨g,0,none⟩) (xs.length + 1) cap)) w') : wpList Tryz.prog ops Q (o :: rest) a w:=by
 obtain ⟨i0,hi,kg,eF,eD⟩:=info_parts GG
 refine wpList_append_lies w iS s x 133 ho w0.heap.size 136 i0 _ 4 32 Tryz.underlying133 hi kg eF eD rfl (by decide) v xs.length (xs.flatMap mT) hs h ⟨b,0,none⟩ 1 1 (mT y) hx rfl
  (by
   intro j u hj;rw [Go.Addr.add_lit,Nat.zero_add]
   match j,hj with
   | 0,hj => simp [mT] at hj;subst hj;exact IV
   | 1,hj => simp [mT] at hj;subst hj;exact eS
   | 2,hj => simp [mT] at hj;subst hj;exact lm
   | 3,hj => simp [mT] at hj;subst hj;exact qo
   | j + 4,hj => simp [mT] at hj) (by simp [mT,Value.oneCell']) (by omega) (by unfold maxLen;omega) (by omega) ww.below.size w.heap.size rfl ?_
 intro g cap w' h1 h2 h3 h4;refine k g cap w' ?_ (Below.grown ww h2 ww.below.size (fun q hq => (World.ownsRow.lt h q hq).1))
 unfold oJ;simpa using h1
def OV (w0 : World) (dR : FuncId) (cS : Array Value) (p : Ed → Bool) (xs : List Ed) : Prop:=
 ∀ x ∈ xs,∀ w,aa w0 w → Calls Tryz.prog dR (#[.agg #[.int .i64 x.1,.int .i64 x.2.1,.int .i64 x.2.2.1,.int .i64 x.2.2.2]] ++ cS) w fun e w' => e = .returned (.bool (p x)) ∧ Below w.heap.size w w'
def yZ (p : Ed → Bool) (xs : List Ed) : Int:=match xs.findIdx? p with | some i => (i : Int) | none => -1
theorem GH {p : Ed → Bool} {xs : List Ed} (h : xs.any p = false) : yZ p xs = -1:=by
 have : xs.findIdx? p = none:=by
  rw [List.findIdx?_eq_none_iff];intro x hx;rw [List.any_eq_false] at h;simpa using h x hx
 simp [yZ,this]
theorem Dr {p : Ed → Bool} {xs : List Ed} {k : Nat} {x : Ed} (hx : xs[k]? = some x) (hp : p x = true) (h : (xs.take k).any p = false) : yZ p xs = k:=by
 have : xs.findIdx? p = some k:=by
  obtain ⟨hk,rfl⟩:=List.getElem?_eq_some_iff.1 hx;rw [List.findIdx?_eq_some_iff_getElem];refine ⟨hk,hp,fun j hj => ?_⟩
  rw [List.any_eq_false] at h
  have:=h xs[j] (List.mem_take_iff_getElem.2 ⟨j,by omega,rfl⟩)
  simpa using this
 simp [yZ,this]
theorem JM (p : Ed → Bool) (xs : List Ed) : decide (0 ≤ yZ p xs) = xs.any p:=by
 unfold yZ
 cases h : xs.findIdx? p with
 | none =>
  rw [List.findIdx?_eq_none_iff] at h
  have : xs.any p = false:=by rw [List.any_eq_false];intro x hx;simp [h x hx]
  rw [this];rfl
 | some i =>
  rw [List.findIdx?_eq_some_iff_getElem] at h;obtain ⟨hi,hp,-⟩:=h
  have : xs.any p = true:=List.any_eq_true.2 ⟨_,List.getElem_mem hi,hp⟩
  rw [this];simp
theorem GI {p : Ed → Bool} {xs : List Ed} {k : Nat} {x : Ed} (hx : xs[k]? = some x) (h : (xs.take k).any p = false) (hp : p x = false) : (xs.take (k + 1)).any p = false:=by
 rw [bk hx,List.any_append,h];simp [hp]
theorem ug (v : Value) (xs : List Ed) (dR : FuncId) (cS : Array Value) (p : Ed → Bool) (w : World) (h : JK w v xs) (d9 : ∀ args w,(callFunc dR args).run Tryz.prog w = .ok (.enter dR args) w) (hp : OV w dR cS p xs) :
  Calls Tryz.prog 202 #[v,.func (.func dR) #[] cS] w fun e w' => e = .returned (.int .i64 (yZ p xs)) ∧ Below w.heap.size w w':=by
 have H:=zh h;obtain ⟨A,c,rfl,hm,ft,hA⟩:=h;unfold maxLen at hm;have HA:=zh hA;clear hA;have Hp:=zh hp;have eg:=d9;clear hp
 go_enter Tryz.func202,Tryz.ntmps202
 go_wp2
 go_loopw [8] (fun i wr => ∃ k : Nat,k ≤ xs.length ∧ i = .int .i64 k ∧ (xs.take k).any p = false ∧ aa w wr) (fun i _ => xs.length - (intOf i).toNat)
 case atStart => exact ⟨0,Nat.zero_le _,rfl,rfl,ad _⟩
 case round =>
  obtain ⟨k,hk,rfl,nf,hb⟩:=hrel;have tH:=zh nf;have Hb:=zh hb;clear nf hb
  by_cases hlt : k < xs.length
  ·obtain ⟨x,hx⟩:=aW xs k hlt;obtain ⟨b,rfl,IV,eS,lm,qo⟩:=HA.out k x hx;have d0:=Hb.out.cell IV;have d1:=Hb.out.cell eS;have d2:=Hb.out.cell lm;have d3:=Hb.out.cell qo;have Hx:=zh hx;clear hx IV eS lm qo;obtain ⟨y,hy⟩ : ∃ y,y = p x:=⟨_,rfl⟩
   have Hy:=zh hy;have ig:=Hp.out x (List.mem_of_getElem? Hx.out) _ Hb.out;rw [← hy] at ig;have o5:=zh ig;clear hy ig;go_wp2_with fail;refine o5.out.mono ?_;rintro e w1 ⟨rfl,bj⟩;have gG:=zh (Hb.out.trans bj);clear bj;cases y
   ·go_wp2;go_roundw
    case rel => exact ⟨k + 1,by omega,by go_num,GI Hx.out tH.out Hy.out.symm,gG.out⟩
    case measure => simp [intOf];omega
   ·have Hr : Hid (yZ p xs = k):=Dr Hx.out Hy.out.symm tH.out;go_wp2;go_ret;exact ⟨congrArg (fun i => Ending.returned (.int .i64 i)) Hr.out.symm,gG.out⟩
  ·obtain rfl : k = xs.length:=by omega
   have Hr : Hid (yZ p xs = -1):=GH (by have:=tH.out;rwa [List.take_length] at this)
   go_wp2;go_ret;exact ⟨congrArg (fun i => Ending.returned (.int .i64 i)) Hr.out.symm,Hb.out⟩
theorem qz (v : Value) (xs : List Ed) (dR : FuncId) (cS : Array Value) (p : Ed → Bool) (w : World) (h : JK w v xs) (d9 : ∀ args w,(callFunc dR args).run Tryz.prog w = .ok (.enter dR args) w) (hp : OV w dR cS p xs) :
  Calls Tryz.prog 147 #[v,.func (.func dR) #[] cS] w fun e w' => e = .returned (.bool (xs.any p)) ∧ Below w.heap.size w w':=by
 have hi:=zh (ug v xs dR cS p w h d9 hp);have He:=zh (JM p xs);obtain ⟨A,c,rfl,hm,ft,hA⟩:=h
 go_enter Tryz.func147,Tryz.ntmps147
 go_wp2_with fail;refine hi.out.mono ?_;rintro e w1 ⟨rfl,hb⟩;have Hb:=zh hb;clear hb;go_wp2;go_ret;exact ⟨congrArg (fun b => Ending.returned (.bool b)) He.out,Hb.out⟩
def iV (v i : Nat) (e : Int × Int) : Bool:=decide ((v : Int) < e.1) || (((v : Int) == e.1) && decide ((i : Int) ≤ e.2))
def qC (v i : Nat) (e : Int × Int) : List Ed:=if iV v i e then [((v : Int),(i : Int),e.1,e.2)] else []
def mW (v : Nat) (es : List (Int × Int)) (i : Nat) : List Ed:=(List.range i).flatMap fun j => qC v j (es.getD j (0,0))
def dX (n : am) (u : Nat) : List (Int × Int):=n.ends.getD u []
def ea (n : am) (v : Nat) : List Ed:=(List.range v).flatMap fun u => mW u (dX n u) (dX n u).length
def ca (n : am) : List Ed:=ea n n.ends.length
theorem xX (v : Nat) (es : List (Int × Int)) (i : Nat) : mW v es (i + 1) = mW v es i ++ qC v i (es.getD i (0,0)):=by
 unfold mW;rw [List.range_succ,List.flatMap_append];simp
theorem qE (n : am) (v : Nat) : ea n (v + 1) = ea n v ++ mW v (dX n v) (dX n v).length:=by
 unfold ea;rw [List.range_succ,List.flatMap_append];simp
theorem Be (v : Nat) (es : List (Int × Int)) (i : Nat) : (mW v es i).length ≤ i:=by
 induction i with
 | zero => simp [mW]
 | succ i ih =>
  rw [xX,List.length_append]
  have : (qC v i (es.getD i (0,0))).length ≤ 1:=by unfold qC;split <;> simp
  omega
theorem nu {n : am} (hn : an n = true) (v : Nat) : (ea n v).length ≤ 6 * v:=by
 induction v with
 | zero => simp [ea]
 | succ v ih =>
  rw [qE,List.length_append];have h1:=Be v (dX n v) (dX n v).length
  have h2 : (dX n v).length ≤ 6:=by
   unfold dX;rw [zDd]
   cases h : n.ends[v]? with
   | none => simp
   | some es => exact (df hn h).1
  omega
theorem GJ {n : am} {e : Ed} : e ∈ ca n ↔ ∃ v i,v < n.ends.length ∧ i < (dX n v).length ∧ iV v i ((dX n v).getD i (0,0)) = true ∧ e = ((v : Int),(i : Int),((dX n v).getD i (0,0)).1,((dX n v).getD i (0,0)).2):=by
 unfold ca ea mW
 simp only [List.mem_flatMap,List.mem_range];constructor
 ·rintro ⟨v,hv,i,hi,he⟩;unfold qC at he
  split at he
  ·rename_i hk
   exact ⟨v,i,hv,hi,hk,by simpa using he⟩
  ·simp at he
 ·rintro ⟨v,i,hv,hi,hk,rfl⟩
  exact ⟨v,hv,i,hi,by unfold qC;rw [if_pos hk];simp⟩
theorem xY (ve vi vn : Value) (n : am) (w : World) (h : aT w ve vi vn n) (hn : an n = true) :
  Calls Tryz.prog 124 #[.agg #[ve,vi,vn]] w fun e w' => ∃ u,e = .returned u ∧ oJ w' w.heap.size u (ca n) ∧ Below w.heap.size w w':=by
 have uh:=(aN hn).2
 obtain ⟨w0,A,c,A2,c2,A3,c3,rfl,rfl,rfl,ft,hm,f6,gF,HA,dh,bv,H,eG,eX,fb⟩:=zB h;clear h
 have Hn:=zh hn;have cX : aa w0 w0:=ad _;clear hn
 go_enter Tryz.func124,Tryz.ntmps124
 go_upto_region 1 with (fail);rw [← dh.out];go_wp2
 go_loopw [3,11] (fun u i wr => ∃ k : Nat,k ≤ n.ends.length ∧ i = .int .i64 k ∧ oJ wr w0.heap.size u (ea n k) ∧ aa w0 wr) (fun _ i _ => n.ends.length - (intOf i).toNat)
 case atStart => exact ⟨0,Nat.zero_le _,rfl,by simpa [ea] using JJ _ w0.heap.size,cX⟩
 case round =>
  obtain ⟨k,hk,rfl,ho,hs⟩:=hrel;have Ho:=zh ho;have Hs:=zh hs;clear cX ho hs
  by_cases hlt : k < n.ends.length
  ·obtain ⟨es,cM⟩:=aW n.ends k hlt;obtain ⟨Zh,-⟩:=df Hn.out cM
   have PY : Hid (dX n k = es):=by show _ = _;rw [dX,zDd,cM];rfl
   obtain ⟨b,Qc,cr,ur,lP,hkr,eS,dG⟩:=jQ H.out.es cM;cases lP;obtain ⟨A1,z1,rfl,eF,eD,lP⟩:=dG;unfold maxLen at eD;have po:=zh lP;have r1:=ai (ae eS) Hs.out;have q5:=r1 wr (ad _);have q0:=eG wr Hs.out;have GK:=nu Hn.out k;have SN:=zh GK;clear cM eS lP GK;go_wp2
   go_loopw [3,18] (fun u i wr => ∃ j : Nat,j ≤ es.length ∧ i = .int .i64 j ∧ oJ wr w0.heap.size u (ea n k ++ mW k es j) ∧ aa w0 wr) (fun _ i _ => es.length - (intOf i).toNat)
   case atStart => exact ⟨0,Nat.zero_le _,rfl,by simpa [mW] using Ho.out,Hs.out⟩
   case round =>
    obtain ⟨j,hj,rfl,ho,hs⟩:=hrel;have iU:=zh ho;have cw:=zh hs;clear ho hs
    by_cases JN : j < es.length
    ·obtain ⟨⟨x1,x2⟩,hx⟩:=aW es j JN;obtain ⟨b1,qp,rfl,kV,iz⟩:=po.out j _ hx;have t1:=ae kV wr cw.out;have t2:=ae iz wr cw.out;have i_ : Hid (es.getD j (0,0) = (x1,x2)):=aH hx;obtain ⟨w8,rl⟩ : ∃ w8,w8 = wr.alloc (.cells #[.int .i64 x1,.int .i64 x2] 83):=⟨_,rfl⟩
     obtain ⟨be,me⟩ : ∃ be,be = wr.heap.size:=⟨_,rfl⟩
     have d0 : ∀ W,aa w8 W → W.cell? ⟨be,0,none⟩ = some (.int .i64 x1):=ae (by rw [rl,me];simp)
     have d1 : ∀ W,aa w8 W → W.cell? ⟨be,1,none⟩ = some (.int .i64 x2):=ae (by rw [rl,me];simp)
     have rY : Hid (oJ w8 w0.heap.size u3 (ea n k ++ mW k es j)):=by rw [rl];exact iU.out.keep (ah _ (ad _))
     have k_ : Hid (aa w0 w8):=by rw [rl];exact ah _ cw.out
     have Qd:=zh rl;have SO:=zh me;have m3 : IntKind.i64.wrap ((j : Int) + 1) = (j : Int) + 1:=aL _ (by omega) (by omega);clear hx kV iz rl me;go_upto_region 8 with (fail);rw [← Qd.out,← SO.out];clear t1 t2;refine aB 16 (aa w8) (ad _) ?_;simp only [zT]
     iterate 5 (apply ag rfl;(intro W hW;go_simp;with_reducible rfl);simp only [zA])
     iterate 5 (apply aj rfl rfl;(intro hb;intro W hW;go_simp;with_reducible rfl);simp only [zA])
     iterate 4 (apply fB rfl rfl;(intro hb b_;intro W hW;go_simp;with_reducible rfl);simp only [zA])
     refine h_ rfl rfl rfl ?_;simp only [zA]
     (first | refine bu rfl rfl ?_ | (apply ag rfl;(intro W hW;go_simp;with_reducible rfl)));simp only [zA]
     intro W hW;have XM:=zh (k_.out.after hW);have JO:=zh (rY.out.keep hW);have c0:=d0 W hW;have c1:=d1 W hW
     have eZ : Hid ((ea n k ++ mW k es j).length + 1 ≤ 1000000):=by
      have h1:=SN.out;have h2:=Be k es j;show _ ≤ _
      rw [List.length_append];omega
     have pE : Hid (ea n k ++ mW k es (j + 1) = (ea n k ++ mW k es j) ++ qC k j (x1,x2)):=by show _ = _;rw [xX,i_.out,List.append_assoc]
     cases hg : (decide ((k : Int) < x1) || ((k : Int) == x1 && decide ((j : Int) ≤ x2)))
     ·have px : Hid (qC k j (x1,x2) = []):=by show _ = _;unfold qC;rw [if_neg];rw [show iV k j (x1,x2) = false from hg];simp
      clear hg hW d0 d1 c0 c1;go_wp2;go_roundw
      case rel => exact ⟨j + 1,by omega,by go_num,by rw [pE.out,px.out,List.append_nil];exact JO.out,XM.out⟩
      case measure => simp [intOf];omega
     ·have Zi : Hid (qC k j (x1,x2) = [((k : Int),(j : Int),x1,x2)]):=by show _ = _;unfold qC;rw [if_pos (show iV k j (x1,x2) = true from hg)]
      clear hg hW d0 d1
      go_wp2_with (at_builtin;refine JL rfl _ _ rfl rfl (JO.out.keep (ah _ (ad _))) W.heap.size ((k : Int),(j : Int),x1,x2) rfl (by simp [go_sem]) (by simp [go_sem]) (by simp [go_sem]) (by simp [go_sem]) eZ.out (ah _ XM.out) ?_;intro g9 c9 w9 ix SQ)
      have Fx:=zh ix;have CR:=zh SQ;clear ix SQ c0 c1;go_wp2;go_roundw
      case rel => exact ⟨j + 1,by omega,by go_num,by rw [pE.out,Zi.out];have:=Fx.out;first | exact this | (rw [List.length_append] at this;exact this),CR.out⟩
      case measure => simp [intOf];omega
    ·obtain rfl : j = es.length:=by omega
     have pE : Hid (ea n (k + 1) = ea n k ++ mW k es es.length):=by show _ = _;rw [qE,PY.out]
     have m3 : IntKind.i64.wrap ((k : Int) + 1) = (k : Int) + 1:=aL _ (by omega) (by omega);go_wp2;go_roundw
     case rel => exact ⟨k + 1,by omega,by go_num,by rw [pE.out];exact iU.out,cw.out⟩
     case measure => simp [intOf];omega
  ·obtain rfl : k = n.ends.length:=by omega
   go_wp2;go_ret;exact ⟨_,rfl,Ho.out.mono bv.out.size,aa.after bv.out Hs.out⟩
inductive jM (E : List (Nat × Nat)) (a : Nat) : Nat → Prop
 | refl : jM E a a
 | step {b c : Nat} : jM E a b → ((b,c) ∈ E ∨ (c,b) ∈ E) → jM E a c
theorem jM.trans {E : List (Nat × Nat)} {a b c : Nat} (h : jM E a b) (k : jM E b c) : jM E a c:=by
 induction k with
 | refl => exact h
 | step _ hs ih => exact ih.step hs
theorem jM.one {E : List (Nat × Nat)} {a b : Nat} (h : (a,b) ∈ E ∨ (b,a) ∈ E) : jM E a b:=jM.refl.step h
theorem jM.symm {E : List (Nat × Nat)} {a b : Nat} (h : jM E a b) : jM E b a:=by
 induction h with
 | refl => exact .refl
 | step _ hs ih => exact (jM.one hs.symm).trans ih
theorem jM.sub {E F : List (Nat × Nat)} (hs : ∀ e ∈ E,e ∈ F) {a b : Nat} (h : jM E a b) : jM F a b:=by
 induction h with
 | refl => exact .refl
 | step _ k ih => exact ih.step (k.imp (hs _) (hs _))
theorem jM.cons_iff {E : List (Nat × Nat)} {x y a b : Nat} : jM ((a,b) :: E) x y ↔ jM E x y ∨ (jM E x a ∧ jM E b y) ∨ (jM E x b ∧ jM E a y):=by
 constructor
 ·intro h
  induction h with
  | refl => exact .inl .refl
  | @step u v _ k ih =>
   have k' : (u = a ∧ v = b) ∨ (u = b ∧ v = a) ∨ ((u,v) ∈ E ∨ (v,u) ∈ E):=by
    rcases k with k | k
    ·rcases List.mem_cons.1 k with e | k
     ·cases e;exact .inl ⟨rfl,rfl⟩
     ·exact .inr (.inr (.inl k))
    ·rcases List.mem_cons.1 k with e | k
     ·cases e;exact .inr (.inl ⟨rfl,rfl⟩)
     ·exact .inr (.inr (.inr k))
   rcases k' with ⟨rfl,rfl⟩ | ⟨rfl,rfl⟩ | k'
   ·rcases ih with ih | ⟨i1,i2⟩ | ⟨i1,i2⟩
    ·exact .inr (.inl ⟨ih,.refl⟩)
    ·exact .inr (.inl ⟨i1,.refl⟩)
    ·exact .inl i1
   ·rcases ih with ih | ⟨i1,i2⟩ | ⟨i1,i2⟩
    ·exact .inr (.inr ⟨ih,.refl⟩)
    ·exact .inl i1
    ·exact .inr (.inr ⟨i1,.refl⟩)
   ·rcases ih with ih | ⟨i1,i2⟩ | ⟨i1,i2⟩
    ·exact .inl (ih.step k')
    ·exact .inr (.inl ⟨i1,i2.step k'⟩)
    ·exact .inr (.inr ⟨i1,i2.step k'⟩)
 ·have s : ∀ {u v},jM E u v → jM ((a,b) :: E) u v:=fun h => h.sub fun e he => List.mem_cons_of_mem _ he
  have e : jM ((a,b) :: E) a b:=jM.one (.inl (by simp))
  rintro (h | ⟨h1,h2⟩ | ⟨h1,h2⟩)
  ·exact s h
  ·exact (s h1).trans (e.trans (s h2))
  ·exact (s h1).trans (e.symm.trans (s h2))
def o6 (E : List (Nat × Nat)) (v : Nat) : Prop:=∀ u,jM E v u → v ≤ u
theorem xZ (E : List (Nat × Nat)) : ∀ (k a : Nat),a ≤ k → ∃ m,jM E a m ∧ o6 E m:=by
 intro k
 induction k with
 | zero => intro a ha;exact ⟨a,.refl,fun u _ => by omega⟩
 | succ k ih =>
  intro a ha
  by_cases h : o6 E a
  ·exact ⟨a,.refl,h⟩
  ·unfold o6 at h
   have ⟨u,hu⟩:=Classical.not_forall.1 h
   have ⟨h1,h2⟩:=Classical.not_imp.1 hu
   obtain ⟨m,g1,g2⟩:=ih u (by omega);exact ⟨m,h1.trans g1,g2⟩
theorem o6.eq {E : List (Nat × Nat)} {a b : Nat} (ha : o6 E a) (hb : o6 E b) (h : jM E a b) : a = b:=Nat.le_antisymm (ha b h) (hb a h.symm)
open Classical in
noncomputable def jC (E : List (Nat × Nat)) (n : Nat) : Nat:=(List.range n).countP fun v => decide (o6 E v)
def Ds (E : List (Nat × Nat)) (n : Nat) : Prop:=∀ e ∈ E,e.1 < n ∧ e.2 < n
theorem GL {n m : Nat} (P Q : Nat → Bool) (hm : m < n) (hq : Q m = true) (h : ∀ v,v < n → P v = (Q v && v != m)) : (List.range n).countP P + 1 = (List.range n).countP Q:=by
 induction n with
 | zero => omega
 | succ n ih =>
  rw [List.range_succ,List.countP_append,List.countP_append]
  by_cases he : m = n
  ·subst he
   have e1 : (List.range m).countP P = (List.range m).countP Q:=by
    apply List.countP_congr
    intro v hv;have SR:=List.mem_range.1 hv;rw [h v (by omega)]
    simp;omega
   have e2 : P m = false:=by rw [h m (by omega)];simp
   rw [e1];simp [e2,hq]
  ·have i:=ih (by omega) (fun v hv => h v (by omega))
   have e2 : P n = Q n:=by rw [h n (by omega)];simp;omega
   rw [← i];simp [e2]
   omega
open Classical in
theorem uj {E : List (Nat × Nat)} {n a b : Nat} (h : jM E a b) : jC ((a,b) :: E) n = jC E n:=by
 unfold jC;apply List.countP_congr
 intro v _
 have : ∀ u,jM ((a,b) :: E) v u ↔ jM E v u:=by
  intro u;rw [jM.cons_iff]
  exact ⟨fun k => by
   rcases k with k | ⟨k1,k2⟩ | ⟨k1,k2⟩
   ·exact k
   ·exact (k1.trans h).trans k2
   ·exact (k1.trans h.symm).trans k2,.inl⟩
 rw [decide_eq_true_eq,decide_eq_true_eq];exact forall_congr' fun u => by rw [this]
open Classical in
theorem uk {E : List (Nat × Nat)} {n a b : Nat} (h : ¬ jM E a b) (ha : a < n) (hb : b < n) : jC ((a,b) :: E) n + 1 = jC E n:=by
 obtain ⟨la,a1,a2⟩:=xZ E a a (Nat.le_refl _);obtain ⟨lb,b1,b2⟩:=xZ E b b (Nat.le_refl _);have hla : la ≤ a:=a2 a a1.symm;have pF : lb ≤ b:=b2 b b1.symm
 have fS : la ≠ lb:=fun e => h (a1.trans (by rw [e];exact b1.symm))
 unfold jC;refine GL (m:=max la lb) _ _ (by omega) ?_ ?_
 ·rcases Nat.le_total la lb with k | k
  ·rw [Nat.max_eq_right k];simpa using b2
  ·rw [Nat.max_eq_left k];simpa using a2
 ·intro v _;rw [Bool.eq_iff_iff];simp only [decide_eq_true_eq,Bool.and_eq_true,bne_iff_ne,ne_eq];have hj : jM ((a,b) :: E) la lb:=jM.cons_iff.2 (.inr (.inl ⟨a1.symm,b1⟩));constructor
  ·intro hv;refine ⟨fun u hu => hv u (jM.cons_iff.2 (.inl hu)),fun e => ?_⟩
   rcases Nat.le_total la lb with k | k
   ·rw [Nat.max_eq_right k] at e;subst e;have:=hv la hj.symm;omega
   ·rw [Nat.max_eq_left k] at e;subst e;have:=hv lb hj;omega
  ·rintro ⟨hv,hm⟩ u hu;rcases jM.cons_iff.1 hu with k | ⟨k1,k2⟩ | ⟨k1,k2⟩
   ·exact hv u k
   ·have e:=o6.eq hv a2 (k1.trans a1)
    have:=b2 u (b1.symm.trans k2)
    omega
   ·have e:=o6.eq hv b2 (k1.trans b1)
    have:=a2 u (a1.symm.trans k2)
    omega
open Classical in
theorem x6 (n : Nat) : jC [] n = n:=by
 unfold jC;rw [List.countP_eq_length.2]
 ·simp
 ·intro v _
  have : o6 [] v:=by
   intro u hu
   have : ∀ {x y},jM [] x y → x = y:=by
    intro x y h
    induction h with
    | refl => rfl
    | step _ k _ => simp at k
   rw [this hu];exact Nat.le_refl _
  simpa using this
theorem JP {E : List (Nat × Nat)} {n : Nat} (h : Ds E n) : n ≤ jC E n + E.length:=by
 induction E with
 | nil => rw [x6];simp
 | cons e E ih =>
  obtain ⟨a,b⟩:=e;have i:=ih fun e he => h e (List.mem_cons_of_mem _ he)
  have pt:=h (a,b) (by simp)
  by_cases hc : jM E a b
  ·rw [uj hc];simp;omega
  ·have:=uk hc pt.1 pt.2
   simp;omega
open Classical in
theorem Dt {E F : List (Nat × Nat)} {n : Nat} (h : ∀ e,e ∈ E ↔ e ∈ F) : jC E n = jC F n:=by
 unfold jC;apply List.countP_congr
 intro v _
 have : ∀ u,jM E v u ↔ jM F v u:=fun u => ⟨jM.sub fun e => (h e).1,jM.sub fun e => (h e).2⟩
 rw [decide_eq_true_eq,decide_eq_true_eq];exact forall_congr' fun u => by rw [this]
theorem o8 {α : Type} {E : List α} {i : Nat} {e : α} (h : E[i]? = some e) (x : α) : x ∈ E ↔ x ∈ e :: E.eraseIdx i:=by
 obtain ⟨hl,rfl⟩:=List.getElem?_eq_some_iff.1 h;rw [List.eraseIdx_eq_take_drop_succ];have e : E = E.take i ++ E[i] :: E.drop (i + 1):=by rw [← List.drop_eq_getElem_cons hl,List.take_append_drop]
 have e2 : x ∈ E ↔ x ∈ E.take i ++ E[i] :: E.drop (i + 1):=by rw [← e]
 rw [e2];simp only [List.mem_append,List.mem_cons];constructor
 ·rintro (k | k | k)
  ·exact .inr (.inl k)
  ·exact .inl k
  ·exact .inr (.inr k)
 ·rintro (k | k | k)
  ·exact .inr (.inl k)
  ·exact .inl k
  ·exact .inr (.inr k)
theorem Du {E : List (Nat × Nat)} {n : Nat} (h : Ds E n) : jC E n + E.length = n ↔ ∀ (i : Nat) (e : Nat × Nat),E[i]? = some e → ¬ jM (E.eraseIdx i) e.1 e.2:=by
 constructor
 ·intro hn i e he hc;obtain ⟨hl,_⟩:=List.getElem?_eq_some_iff.1 he;have e1 : jC E n = jC (e :: E.eraseIdx i) n:=Dt (o8 he);have e2:=uj (n:=n) hc;have e3:=JP (E:=E.eraseIdx i) (n:=n) fun x hx => h x (List.mem_of_mem_eraseIdx hx)
  rw [List.length_eraseIdx_of_lt hl] at e3;rw [show (e.1,e.2) = e from rfl] at e2;omega
 ·intro hb
  induction E with
  | nil => rw [x6];simp
  | cons e E ih =>
   obtain ⟨a,b⟩:=e;have pt:=h (a,b) (by simp);have h0:=hb 0 (a,b) rfl;simp only [List.eraseIdx_cons_zero] at h0
   have i:=ih (fun e he => h e (List.mem_cons_of_mem _ he)) fun i e he hc => hb (i + 1) e (by simpa using he) (hc.sub fun x hx => by rw [List.eraseIdx_cons_succ];exact List.mem_cons_of_mem _ hx)
   have:=uk h0 pt.1 pt.2
   simp;omega
end Go.Proofs.YtgmdpppljkmabaaGreat
