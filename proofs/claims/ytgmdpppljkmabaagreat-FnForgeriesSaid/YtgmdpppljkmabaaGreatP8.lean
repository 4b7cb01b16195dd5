/- Parts of the proof: walks of functions and plain laws. -/
import Derived.Test.YtgmdpppljkmabaaGreatP0
import Derived.RangeFuncNested
import Derived.RangeFuncBound
import Derived.RangeFuncCalls
import Derived.RangeFuncLeaves
import Derived.RangeFuncBox
import Derived.Shelf.Abstract
import Derived.Shelf.RegionOpen
import Derived.OwnWalkIn
import Derived.TacticsInMore
import Derived.LoopNIn
import Derived.LoopIn
import Derived.Test.YtgmdpppljkmabaaGreatP7
set_option maxRecDepth 100000
set_option maxHeartbeats 16000000
namespace Go.Proofs.YtgmdpppljkmabaaGreat
open Go Go.RowKit
open Go.RowKit Go.Shelf
attribute [local go_sem] Oper.semAt_some
def lS {α : Type} (f : Nat → α) (k : Nat) : List α:=(List.range k).map f
theorem uC {α : Type} (f : Nat → α) (k : Nat) : lS f (k + 1) = lS f k ++ [f k]:=by simp [lS,List.range_succ]
theorem y7 {α : Type} (f : Nat → α) (k : Nat) : (lS f k).length = k:=by simp [lS]
def eK (lo hi : Nat) (W W' : World) : Prop:=W.heap.size ≤ W'.heap.size ∧ ∀ k,lo ≤ k → k < hi → W'.heap[k]? = W.heap[k]?
theorem eK.t {lo hi : Nat} {A B C : World} (h : eK lo hi A B) (k : eK lo hi B C) : eK lo hi A C:=⟨Nat.le_trans h.1 k.1,fun i h1 h2 => (k.2 i h1 h2).trans (h.2 i h1 h2)⟩
theorem eK.refl (lo hi : Nat) (W : World) : eK lo hi W W:=⟨Nat.le_refl _,fun _ _ _ => rfl⟩
theorem eK.b {lo hi : Nat} {w : World} (hh : hi ≤ w.heap.size) (W : World) (l : Nat) (o o' : Obj) (hl : w.heap.size ≤ l) (_ : W.heap[l]? = some o) (_ : o.isCells = false) (_ : o.isWalk = false) : eK lo hi W (W.putObj l o'):=
 ⟨(grownBy_putObj' W l o').size,fun k _ hk => by
  rcases Nat.lt_or_ge k W.heap.size with h | h
  ·exact (grownBy_putObj' W l o').block k h (fun e => by cases e;omega)
  ·exact World.putObj_heap_other (fun e => by omega)⟩
theorem eK.cell {lo hi : Nat} {W W' : World} (h : eK lo hi W W') {a : Addr} {u : Value} (h1 : lo ≤ a.block) (h2 : a.block < hi) (hc : W.cell? a = some u) : W'.cell? a = some u:=
 (World.cell?_of_block (h.2 a.block h1 h2)).trans hc
abbrev CS:={ x : Nat × Int // 1 ≤ x.2 ∧ x.2 ≤ 100 }
def M6 (x : CS) : Array Value:=#[.int .i64 (x.1.1 : Int),.int .i64 x.1.2]
theorem Qg (F : Fence) (n : Nat) (hf : F.fn 215) (IX : F.round = none) (hn : 1 ≤ n) (l Bs lo hi b off len cap : Nat) (g : Nat → CS) (hg : ∀ j,j < len → (g j).1.1 = j) (JU : len ≤ 1000) (bj : lo ≤ b) (b_ : b < hi) (j6 : lo ≤ Bs) (y8 : Bs < hi) (J Jx : List CS → World → Prop)
  (hY : ∀ pre x W,J pre W → pre.length < len → YieldAt F (n - 1) Tryz.prog l (M6 x) W fun e W' =>
   (e = .returned (.bool true) ∧ J (pre ++ [x]) W' ∧ eK lo hi W W') ∨ (e = .returned (.bool false) ∧ Jx (pre ++ [x]) W'))
  (W : World) (hBs : W.cell? ⟨Bs,0,none⟩ = some (.slice (some ⟨b,off,none⟩) len cap)) (hc : ∀ j,j < len → W.cell? ⟨b,off + j,none⟩ = some (.int .i64 (g j).1.2)) (h0 : J [] W) :
  CallsIn F n Tryz.prog 215 #[.func (.yield l) #[] #[],.pointer (some ⟨Bs,0,none⟩)] W fun e W' => (∃ v,e = .returned v) ∧
   ((∃ ys,ys = lS (fun j => g (len - 1 - j)) len ∧ J ys W') ∨ (∃ pre,(∃ k,k ≤ len ∧ pre = lS (fun j => g (len - 1 - j)) k) ∧ Jx pre W')):=by
 refine callsIn_of_wp Tryz.func215 rfl hf ?_ IX
 simp only [Tryz.ntmps215,List.size_toArray,List.length_cons,List.length_nil,Nat.reduceAdd,Nat.reduceSub,Array.replicate_succ,Array.replicate_zero,List.push_toArray,List.append_toArray,List.nil_append,List.cons_append];have Hg:=zh hg;clear hg
 gi_wp2
 gi_loopw [3] (fun i wr => ∃ k : Nat,k ≤ len ∧ i = .int .i64 ((len : Int) - 1 - k) ∧ J (lS (fun j => g (len - 1 - j)) k) wr ∧ eK lo hi W wr)
  (fun i _ => (intOf i + 1).toNat)
 case atStart => exact ⟨0,Nat.zero_le _,by simp,h0,eK.refl _ _ _⟩
 case round =>
  obtain ⟨k,hk,rfl,XO,CT⟩:=hrel;have Zn : wr.cell? ⟨Bs,0,none⟩ = some (.slice (some ⟨b,off,none⟩) len cap):=CT.cell j6 y8 hBs
  by_cases hlt : k < len
  ·obtain ⟨q,hq⟩ : ∃ q,len - 1 - k = q:=⟨_,rfl⟩
   have Zo : ((len : Int) - 1 - k) = (q : Int):=by omega
   rw [Zo];have Zp : wr.cell? ⟨b,off + q,none⟩ = some (.int .i64 (g q).1.2):=CT.cell bj b_ (hc q (by omega))
   obtain ⟨fn,tmps,assign,body,hy,hR⟩:=hY _ (g q) wr XO (by rw [y7];exact hlt)
   unfold M6 at hy;rw [Hg.out q (by omega)] at hy;have SS : q < len:=by omega
   have Hq:=zh hq;have Hqi:=zh Zo;clear hq Zo
   gi_wp2
   refine hR.mono ?_
   rintro e W3 (⟨rfl,hJ3,IY⟩ | ⟨rfl,Zq⟩)
   ·gi_wp2
    go_roundw
    case rel => exact ⟨k + 1,by omega,by have:=Hqi.out;congr 1;omega,by rw [uC,Hq.out];exact hJ3,CT.t IY⟩
    case measure => simp [intOf]
   ·gi_wp2
    refine bodyPost_ret (results_none rfl _ _ _) rfl ?_;exact ⟨⟨_,rfl⟩,.inr ⟨_,⟨k + 1,by omega,by rw [uC,Hq.out]⟩,Zq⟩⟩
  ·obtain rfl : k = len:=by omega
   gi_wp2
   go_end0
   exact ⟨⟨_,rfl⟩,.inl ⟨_,rfl,XO⟩⟩
theorem Dz (F : Fence) (n : Nat) (hf : F.fn 215) (IX : F.round = none) (l Bs c : Nat) (A : Option Addr) (J : List CS → World → Prop) (W : World) (hBs : W.cell? ⟨Bs,0,none⟩ = some (.slice A 0 c)) (h0 : J [] W) :
  CallsIn F n Tryz.prog 215 #[.func (.yield l) #[] #[],.pointer (some ⟨Bs,0,none⟩)] W fun e W' => (∃ v,e = .returned v) ∧ J [] W':=by
 refine callsIn_of_wp Tryz.func215 rfl hf ?_ IX
 simp only [Tryz.ntmps215,List.size_toArray,List.length_cons,List.length_nil,Nat.reduceAdd,Nat.reduceSub,Array.replicate_succ,Array.replicate_zero,List.push_toArray,List.append_toArray,List.nil_append,List.cons_append]
 gi_wp2
 gi_loopw [3] (fun i wr => i = .int .i64 (-1) ∧ J [] wr) (fun _ _ => 0)
 case atStart => exact ⟨rfl,h0⟩
 case round =>
  obtain ⟨rfl,XO⟩:=hrel
  gi_wp2
  go_end0
  exact ⟨⟨_,rfl⟩,XO⟩
theorem Uc (F : Fence) (n : Nat) (hf : F.fn 176) (IX : F.round = none) (a : Option Addr) (len cap : Nat) (w : World) :
  CallsIn F n Tryz.prog 176 #[.slice a len cap] w fun e w' => e = .returned (.func (.func 215) #[] #[.pointer (some ⟨w.heap.size,0,none⟩)]) ∧ w' = w.alloc (.cells #[.slice a len cap] 25):=by
 refine callsIn_of_wp Tryz.func176 rfl hf ?_ IX
 simp only [Tryz.ntmps176,List.size_toArray,List.length_cons,List.length_nil,Nat.reduceAdd,Nat.reduceSub,Array.replicate_succ,Array.replicate_zero,List.push_toArray,List.append_toArray,List.nil_append,List.cons_append]
 gi_wp2
 go_ret;exact ⟨rfl,rfl⟩
open Go.RowKit Go.Shelf
attribute [local go_sem] Oper.semAt_some
def lx (l : Int) (rs : List Int) : Int:=rs.foldl (fun l r => l / r) l
def eB (l : Int) : List Int → List Int
 | [] => []
 | r :: rs => (l % r) :: eB (l / r) rs
theorem GR (l : Int) (rs : List Int) (r : Int) : lx l (rs ++ [r]) = lx l rs / r:=by simp [lx]
theorem GS (l : Int) (rs : List Int) (r : Int) : eB l (rs ++ [r]) = eB l rs ++ [lx l rs % r]:=by
 induction rs generalizing l with
 | nil => simp [eB,lx]
 | cons x rs ih => simp [eB,ih,lx]
theorem Bm (l : Int) (rs : List Int) : (eB l rs).length = rs.length:=by
 induction rs generalizing l with
 | nil => rfl
 | cons x rs ih => simp [eB,ih]
theorem M7 (l : Int) (rs : List Int) (h0 : 0 ≤ l) (hr : ∀ r ∈ rs,1 ≤ r) : 0 ≤ lx l rs ∧ lx l rs ≤ l:=by
 induction rs generalizing l with
 | nil => simp [lx,h0]
 | cons x rs ih =>
  have hx:=hr x (by simp);have h1 : 0 ≤ l / x:=Int.ediv_nonneg h0 (by omega);have h2 : l / x ≤ l:=Int.ediv_le_self _ h0
  have:=ih (l / x) h1 (fun r ye => hr r (by simp [ye]))
  exact ⟨this.1,Int.le_trans this.2 h2⟩
def vals (pre : List CS) : List Int:=pre.map fun x => x.1.2
theorem yf (pre : List CS) (x : CS) : vals (pre ++ [x]) = vals pre ++ [x.1.2]:=by simp [vals]
theorem JV (pre : List CS) : ∀ r ∈ vals pre,1 ≤ r:=by
 intro r hr;obtain ⟨x,_,rfl⟩:=List.mem_map.1 hr;exact x.2.1
theorem JW (pre : List CS) : (vals pre).length = pre.length:=by simp [vals]
def Qh (l : Int) (b0 N1 : Nat) (w : World) (pre : List CS) (W : World) : Prop:=
 Boxed W b0 3 (.int .i64 (lx l (vals pre))) ∧ (∃ v,Boxed W (b0 + 1) 25 v ∧ Own W N1 v (eB l (vals pre))) ∧ Below b0 w W ∧ N1 ≤ W.heap.size
theorem JX (l : Int) (b0 N1 : Nat) (w : World) (hb : b0 ≤ w.heap.size) (B : Nat) (hB : b0 ≤ B) : OwnFrom B (Qh l b0 N1 w):=by
 refine OwnFrom.and (_root_.Go.Own.from (boxed_own b0 3 (fun pre : List CS => .int .i64 (lx l (vals pre)))) _) (OwnFrom.and ?_ (OwnFrom.and (ownFrom_below hb hB) (fun _ _ _ _ hs hg _ => Nat.le_trans hs hg.size)))
 have:=_root_.Go.Own.from (holdsRow_own (β:=List CS) N1 (b0 + 1) 25 3 1 (fun pre => (eB l (vals pre)).length) (fun pre => (eB l (vals pre)).map (Value.int .i64)) (fun _ _ => True)) B
 intro s W W' row hs hg hr;obtain ⟨v,h1,h2⟩:=hs;obtain ⟨v',Fr,Ud,_⟩:=this s W W' row ⟨v,h1,h2,trivial⟩ hg hr;exact ⟨v',Fr,Ud⟩
theorem JY (F : Fence) (n : Nat) (hf : F.fn 215) (IX : F.round = none) (hn : 1 ≤ n) (Bs lo hi : Nat) (sv : Value) (zs : List Int) (g : Nat → CS) (hg : ∀ j,j < zs.length → (g j).1.1 = j ∧ zs[j]? = some (g j).1.2) (JU : zs.length ≤ 1000) (w : World) (j6 : lo ≤ Bs) (y8 : Bs < hi) (_ : hi ≤ w.heap.size)
  (hc : w.cell? ⟨Bs,0,none⟩ = some sv) (hI : Own w lo sv zs) (hlt : ∀ k,sv.ownBlock = some k → k < hi) :
  SeqStopsK F n Tryz.prog 215 #[.pointer (some ⟨Bs,0,none⟩)] M6 (eK lo hi) (fun ys => ys = lS (fun j => g (zs.length - 1 - j)) zs.length)
   (fun pre => ∃ k,k ≤ zs.length ∧ pre = lS (fun j => g (zs.length - 1 - j)) k) zs.length w:=fun l J Jx W hW _ _ hY h0 => by
 have DA:=bc hW hc;have SD:=hI.keep hW;rcases SD.cases with ⟨rfl,rfl⟩ | ⟨gb,c,rfl,Mm,_⟩
 ·exact (Dz F n hf IX l Bs 0 none J W DA h0).mono fun e W' ⟨he,hj⟩ => ⟨he,.inl ⟨_,rfl,hj⟩⟩
 ·exact Qg F n hf IX hn l Bs lo hi gb 0 zs.length c g (fun j hj => (hg j hj).1) JU Mm (hlt gb rfl) j6 y8 J Jx hY W DA (fun j hj => by rw [Nat.zero_add];exact SD.cell (hg j hj).2) h0
theorem DB {W : World} {base : Nat} {v : Value} {xs : List Int} (h : Own W base v xs) {D : Nat} {o : Obj} (o' : Obj) (hD : W.heap[D]? = some o) (ho : o.isCells = false) : Own (W.putObj D o') base v xs:=ownsRow_putObj h o' hD ho
theorem Ue {w : World} {base : Nat} {v : Value} {xs : List Int} (h : Own w base v xs) (x : Int) (ty : TypeId) (b : Nat) (hc : w.cell? ⟨b,0,none⟩ = some (.int .i64 x)) (hl : xs.length + 1 ≤ 17592186044416) (hb : base ≤ w.heap.size) :
  ∃ g c w',(Builtin.append_ #[25,25] ty #[v,.slice (some ⟨b,0,none⟩) 1 1]).run Tryz.prog w = .ok (.slice (some ⟨g,0,none⟩) (xs.length + 1) c) w' ∧ Own w' base (.slice (some ⟨g,0,none⟩) (xs.length + 1) c) (xs ++ [x]) ∧ w.grownBy w' v.ownBlock ∧ (some g = v.ownBlock ∨ g = w.heap.size):=by
 obtain ⟨i0,hi,kg,eF,eD⟩:=info_parts kr
 obtain ⟨v',w',dt,h2,h3,_,h5⟩:=run_append_own_at (P:=Tryz.prog) w base 25 ty 3 i0 (.int .i64 0) 1 8 Tryz.underlying25 hi kg eF eD rfl (by decide) v xs.length (xs.map (Value.int .i64)) h ⟨b,0,none⟩ 1 1 [.int .i64 x] rfl
  (by intro j u hj;match j,hj with | 0,hj => (simp at hj;subst hj;simpa [Addr.add] using hc) | j + 1,hj => simp at hj) (by simp [Value.oneCell']) (by unfold maxLen;omega) (by omega) hb
 obtain ⟨g,c,rfl⟩:=ownsRow_succ h2;refine ⟨g,c,w',dt,?_,h3,?_⟩
 ·unfold Own;simpa using h2
 ·rcases h5 with h5 | h5
  ·exact .inl (by simpa [Value.ownBlock] using h5)
  ·exact .inr (by simpa [Value.ownBlock] using h5)
def pI (P : Program) (ty : TypeId) (v s : Value) (w : World) : Result Next:=((Builtin.append_ #[25,25] ty #[v,s]).run P w).andThen fun v' w' => .ok (.value v') w'
theorem eh {F : Fence} {nF : Nat} {Y : Nat → Option Bool} {o : Oper} {a : Act} {w : World} {K : Act → World → Prop} {Q : Exit → Act → World → Prop} {E : Prop} (s x : Operand)
  (iS : o.guard = none) (ho : o.op = .call { callee:=.builtin .append,args:=#[s,x],argTypes:=#[25,25] }) (v' : Value) (w' : World)
  (hr : pI Tryz.prog o.type (a.eval s) (a.eval x) w = .ok (.value v') w') (h : K (a.put o.dst v') w') :
  if Region.wanted o Y = true then Oper.wpIn F nF Tryz.prog o a w K Q else E:=by
 rw [if_pos (by simp [Region.wanted,iS])]
 unfold Oper.wpIn;refine ⟨by simp [Oper.about,ho,resolve,Target.leads,Sem.run_pure],?_⟩
 rw [Oper.semAt_plain F _ _ (by rw [ho];intro c DA;cases DA)]
 unfold pI at hr;simp only [execOp,ho,resolve,invoke,builtin,Sem.run_bind,Sem.run_pure,Result.andThen_ok,List.map_toArray,List.map_cons,List.map_nil]
 generalize (Builtin.append_ #[25,25] o.type #[a.eval s,a.eval x]).run Tryz.prog w = R at hr ⊢
 cases R with
 | ok v1 w1 => simp [Result.andThen] at hr;obtain ⟨rfl,rfl⟩:=hr;exact h
 | halt h1 w1 => simp [Result.andThen] at hr
theorem y_ {F : Fence} {nF : Nat} {ops : Array Oper} {rest : List Oper} {o : Oper} {a : Act} {w : World} {Q : Exit → Act → World → Prop} (s x : Operand)
  (iS : o.guard = none) (ho : o.op = .call { callee:=.builtin .append,args:=#[s,x],argTypes:=#[25,25] }) (v' : Value) (w' : World)
  (hr : pI Tryz.prog o.type (a.eval s) (a.eval x) w = .ok (.value v') w') (h : wpListIn F nF Tryz.prog ops Q rest (a.put o.dst v') w') : wpListIn F nF Tryz.prog ops Q (o :: rest) a w:=by
 refine wpListIn_plain iS fun K hK => ?_
 have:=eh (F:=F) (nF:=nF) (Y:=fun _ => none) (o:=o) (a:=a) (w:=w) (K:=K) (Q:=Q) (E:=False) s x iS ho v' w' hr (hK _ _ h)
 rwa [if_pos (by simp [Region.wanted,iS])] at this
theorem DC (s : Int) : ∀ r ∈ aV s,1 ≤ r ∧ r ≤ 100:=by
 intro r hr;unfold aV at hr
 split at hr
 ·simp at hr;omega
 ·split at hr
  ·simp at hr;omega
  ·simp at hr
def yg (s : Int) (j : Nat) : CS:=⟨(j,if h : j < (aV s).length then (aV s)[j] else 1),by
 by_cases h : j < (aV s).length
 ·simp only [h,dif_pos];exact DC s _ (List.getElem_mem h)
 ·simp [h]⟩
theorem DD (s : Int) (j : Nat) (h : j < (aV s).length) : (yg s j).1.1 = j ∧ (aV s)[j]? = some (yg s j).1.2:=by
 refine ⟨rfl,?_⟩;simp [yg,h]
theorem GU (s : Int) : vals (lS (fun j => yg s ((aV s).length - 1 - j)) (aV s).length) = (aV s).reverse:=by
 apply List.ext_getElem
 ·simp [vals,lS]
 ·intro i h1 h2;have hi : i < (aV s).length:=by simpa using h2
  simp [vals,lS,yg,show (aV s).length - 1 - i < (aV s).length by omega]
theorem DE (s : Int) : (aV s).length ≤ 3:=by unfold aV;(split;· decide);split <;> decide
theorem GV {l q r : Int} {b0 N1 g' c' : Nat} {w W w2 : World} {pre : List CS} {x : CS} {v : Value} {o : Obj} (hr : x.1.2 = r) (hq : lx l (vals pre) = q) (hN : b0 + 2 ≤ N1)
  (bj : Boxed W b0 3 (.int .i64 q)) (b_ : Boxed W (b0 + 1) 25 v) (aY : Own W N1 v (eB l (vals pre))) (hB : Below b0 w W) (ed : N1 ≤ W.heap.size)
  (qH : Own w2 N1 (.slice (some ⟨g',0,none⟩) ((eB l (vals pre)).length + 1) c') (eB l (vals pre) ++ [q % r])) (zQ : (W.alloc o).drew.grownBy w2 v.ownBlock) :
  (Boxed w2 b0 3 (.int .i64 q) ∧ Boxed w2 (b0 + 1) 25 v) ∧ KeepsFrom N1 W ((w2.setCell ⟨b0 + 1,0,none⟩ (.slice (some ⟨g',0,none⟩) ((eB l (vals pre)).length + 1) c')).setCell ⟨b0,0,none⟩ (.int .i64 (q / r))) ∧
   eK (b0 + 2) N1 W ((w2.setCell ⟨b0 + 1,0,none⟩ (.slice (some ⟨g',0,none⟩) ((eB l (vals pre)).length + 1) c')).setCell ⟨b0,0,none⟩ (.int .i64 (q / r))) ∧
   Qh l b0 N1 w (pre ++ [x]) ((w2.setCell ⟨b0 + 1,0,none⟩ (.slice (some ⟨g',0,none⟩) ((eB l (vals pre)).length + 1) c')).setCell ⟨b0,0,none⟩ (.int .i64 (q / r))):=by
 have hlt : ∀ k,v.ownBlock = some k → N1 ≤ k:=fun k hk => (World.ownsRow.lt aY k hk).1
 have Zr : some b0 ≠ v.ownBlock:=fun e => by have:=hlt b0 e.symm;omega
 have GB : some (b0 + 1) ≠ v.ownBlock:=fun e => by have:=hlt (b0 + 1) e.symm;omega
 have k1 : Boxed w2 b0 3 (.int .i64 q):=(show Boxed (W.alloc o).drew b0 _ _ from bj.alloc o).kept zQ Zr;have k2 : Boxed w2 (b0 + 1) 25 v:=(show Boxed (W.alloc o).drew (b0 + 1) _ _ from b_.alloc o).kept zQ GB;have hg:=qH.blk;have k3:=(k2.set (.slice (some ⟨g',0,none⟩) ((eB l (vals pre)).length + 1) c'));have k4:=(k1.other (show b0 ≠ b0 + 1 by omega) (.slice (some ⟨g',0,none⟩) ((eB l (vals pre)).length + 1) c')).set (.int .i64 (q / r))
 have k5:=k3.other (show b0 + 1 ≠ b0 by omega) (.int .i64 (q / r))
 have o3 : Own (w2.setCell ⟨b0 + 1,0,none⟩ (.slice (some ⟨g',0,none⟩) ((eB l (vals pre)).length + 1) c')) N1 (.slice (some ⟨g',0,none⟩) ((eB l (vals pre)).length + 1) c') (eB l (vals pre) ++ [q % r]):=
  World.ownsRow.kept qH (grownBy_setCell' w2 (b0 + 1) _) (.inr (by simp [Value.ownBlock];omega))
 have o4 : Own ((w2.setCell ⟨b0 + 1,0,none⟩ (.slice (some ⟨g',0,none⟩) ((eB l (vals pre)).length + 1) c')).setCell ⟨b0,0,none⟩ (.int .i64 (q / r))) N1 (.slice (some ⟨g',0,none⟩) ((eB l (vals pre)).length + 1) c') (eB l (vals pre) ++ [q % r]):=
  World.ownsRow.kept o3 (grownBy_setCell' _ b0 _) (.inr (by simp [Value.ownBlock];omega))
 have C7 : ∀ k,k < W.heap.size → k ≠ b0 → k ≠ b0 + 1 → v.ownBlock ≠ some k → ((w2.setCell ⟨b0 + 1,0,none⟩ (.slice (some ⟨g',0,none⟩) ((eB l (vals pre)).length + 1) c')).setCell ⟨b0,0,none⟩ (.int .i64 (q / r))).heap[k]? = W.heap[k]?:=by
  intro k hk h1 h2 h3
  rw [Below.heap_setCell _ _ _ k h1,Below.heap_setCell _ _ _ k h2,zQ.block k (by show k < (W.alloc o).heap.size;simp;omega) (fun e => h3 e.symm)]
  exact Below.heap_alloc W o k hk
 have Qi : W.heap.size ≤ ((w2.setCell ⟨b0 + 1,0,none⟩ (.slice (some ⟨g',0,none⟩) ((eB l (vals pre)).length + 1) c')).setCell ⟨b0,0,none⟩ (.int .i64 (q / r))).heap.size:=by
  have:=zQ.size
  simp [World.setCell] at *
  omega
 refine ⟨⟨k1,k2⟩,⟨Qi,?_⟩,⟨Qi,fun k h1 h2 => C7 k (by omega) (by omega) (by omega) (fun e => by have:=hlt k e;omega)⟩,?_,⟨_,k5,?_⟩,?_,by omega⟩
 ·intro k o' hk XP hc;refine (C7 k (Array.getElem?_eq_some_iff.1 XP).1 (by omega) (by omega) (fun e => ?_)).trans XP
  rcases World.ownsRow.lt aY k e with ⟨_,_⟩
  rcases aY.2 with ⟨rfl,_⟩ | ⟨gg,cap,cur,rfl,_,OH,_⟩
  ·simp [Value.ownBlock] at e
  ·simp only [Value.ownBlock,Option.some.injEq] at e;subst e;rw [OH] at XP;cases XP;simp [Obj.isCells] at hc
 ·rw [yf,GR,hq,hr];exact k4
 ·rw [yf,GS,hq,hr];exact o4
 ·refine hB.trans ⟨?_,?_,?_,Qi,fun k hk => C7 k (by have:=hB.size;omega) (by omega) (by omega) (fun e => by have:=hlt k e;omega)⟩
  ·exact zQ.os
  ·exact zQ.tape
  ·exact zQ.output
theorem DF (n : Nat) (hn : 4 ≤ n) (s l : Int) (h0 : 0 ≤ l) (h1 : l ≤ 999999999999) (w : World) :
  CallsIn Fence.wide n Tryz.prog 110 #[.int .i64 s,.int .i64 l] w fun e W' => ∃ v,e = .returned v ∧ Own W' w.heap.size v (lx l (aV s).reverse :: (eB l (aV s).reverse).reverse) ∧ Below w.heap.size w W':=by
 have mK : 1 ≤ n:=by omega
 have hl3:=DE s;refine callsIn_of_wp_marks Tryz.func110 rfl trivial ?_ rfl
 simp only [Tryz.ntmps110,List.size_toArray,List.length_cons,List.length_nil,Nat.reduceAdd,Nat.reduceSub,Array.replicate_succ,Array.replicate_zero,List.push_toArray,List.append_toArray,List.nil_append,List.cons_append]
 gi_wp2_with fail
 refine ⟨trivial,(callsIn_wide.2 (y6 _ _)).mono ?_⟩;rintro e w1 ⟨u,rfl,ho,bj⟩
 obtain ⟨A,c,hu,zV,MZ⟩ : ∃ A c,u = .slice A (aV s).length c ∧ (aV s).length ≤ c ∧ c ≤ maxLen:=by obtain ⟨A,c,h1,h2,h3,_⟩:=ho.ints;exact ⟨A,c,h1,h2,h3⟩
 subst hu
 have bL : Boxed w1 w.heap.size 3 (.int .i64 l):=(bj.block w.heap.size (by simp;omega)).trans ((Boxed.new w 3 (.int .i64 l)).alloc _)
 have bO : Boxed w1 (w.heap.size + 1) 25 (.slice none 0 0):=by
  have:=Boxed.new (w.alloc (.cells #[.int .i64 l] 3)) 25 (.slice none 0 0)
  rw [World.size_alloc] at this;exact (bj.block (w.heap.size + 1) (by simp)).trans this
 have hB0 : Below w.heap.size w w1:=(((Below.refl _ w).alloc (Nat.le_refl _) _).alloc (by simp) _).trans (bj.mono (by simp;omega))
 have ed : w.heap.size + 2 ≤ w1.heap.size:=by have:=bj.size;simp at this;omega
 have Mn : ∀ k,(Value.slice A (aV s).length c).ownBlock = some k → k < w1.heap.size:=fun k hk => (World.ownsRow.lt ho k hk).2
 have Ho:=zh (ho.mono (show w.heap.size + 2 ≤ _ by simp))
 have HbL:=zh bL;have HbO:=zh bO;have HB0:=zh hB0;have Hub:=zh Mn;clear ho bL bO hB0 bj Mn
 gi_wp2_with (refine ⟨trivial,?_⟩;gi_at_call 176;refine (Uc Fence.wide (n - 1) trivial rfl _ _ _ _).mono ?_;rintro e w' ⟨rfl,rfl⟩)
 have GW : (w1.alloc (.cells #[.slice A (aV s).length c] 25)).heap.size = w1.heap.size + 1:=by simp
 have hbW : Below w1.heap.size w1 (w1.alloc (.cells #[.slice A (aV s).length c] 25)):=au _ _
 refine wpIn_rangeFunc_ownG rfl mK (gf:=215) (lb:=#[.pointer (some ⟨w1.heap.size,0,none⟩)]) rfl trivial (enters_of Tryz.func215 (by kernel_rfl) rfl)
  (JY Fence.wide (n - 1) trivial rfl (by omega) w1.heap.size (w.heap.size + 2) (w1.heap.size + 1) _ (aV s) (yg s) (DD s) (by omega) (w1.alloc (.cells #[.slice A (aV s).length c] 25)) (by omega) (by omega) (by simp)
   (by simp) (Ho.out.keep hbW) (fun k hk => by have:=Hub.out k hk;omega)) eK.t (eK.b (by simp)) (Below.refl _ _) (fun _ => rfl)
  (Qh l w.heap.size (w1.heap.size + 1) w)
  (fun _ _ _ => False)
  (JX l w.heap.size (w1.heap.size + 1) w (Nat.le_refl _) _ (by simp;omega))
  (fun _ _ _ _ _ hs _ _ => hs)
  ⟨HbL.out.alloc _,⟨_,HbO.out.alloc _,cH _ _⟩,HB0.out.trans (hbW.mono (by omega)),by simp⟩
  (fun x => { tmps:=#[.int .i64 s,.int .i64 l,undef,.pointer (some ⟨w.heap.size,0,none⟩),.slice none 0 0,.pointer (some ⟨w.heap.size + 1,0,none⟩),undef,.int .i64 x.1.2,.int .i64 s,.slice A (aV s).length c,.func (.func 215) #[] #[.pointer (some ⟨w1.heap.size,0,none⟩)],.int .i64 (x.1.1 : Int),.int .i64 x.1.2,undef,undef,undef,undef,undef,undef,undef,undef,undef,undef,undef,undef,undef,undef,undef,undef],defers:=[] }) ?assign ?body ?done ?stop
 case assign =>
  intro l x W K hK;unfold M6
  gi_wp2
  exact hK
 case body =>
  rintro lr pre x W ⟨bj,⟨v,b_,aY⟩,hB,Uf⟩ hlt;have hx:=x.2
  have za : (eB l (vals pre)).length ≤ 3:=by rw [Bm,JW];omega
  obtain ⟨na,o_⟩:=M7 l (vals pre) h0 (JV pre);obtain ⟨r,hr⟩ : ∃ r,x.1.2 = r:=⟨_,rfl⟩
  rw [hr] at hx ⊢;obtain ⟨q,hq⟩ : ∃ q,lx l (vals pre) = q:=⟨_,rfl⟩
  rw [hq] at na o_ bj
  obtain ⟨g',c',w2,dt,qH,DG,oH⟩:=Ue (w:=(W.alloc (.cells #[.int .i64 (q % r)] 3)).drew) (show Own _ (w1.heap.size + 1) v (eB l (vals pre)) from (aY.keep (au W _).drew)) (q % r) 25 W.heap.size (by simp) (by omega) (by simp;omega)
  have eS:=bj.cell;have lm:=b_.cell;obtain ⟨⟨k1,k2⟩,s1,s2,s3⟩:=GV hr hq (by omega) bj b_ aY hB Uf qH DG;have kV:=k1.cell;have iz:=k2.cell;have hf1:=k1.frozen;have FG:=k2.frozen;have qo : (W.alloc (Obj.cells #[Value.int IntKind.i64 (q % r)] 3)).cell? ⟨w.heap.size + 1,0,none⟩ = some v:=(b_.alloc _).cell;have ht : q.tmod r = q % r:=Int.tmod_eq_emod_of_nonneg na
  have lT : pI Tryz.prog 25 v (Value.slice (some { block:=W.heap.size,off:=0 }) 1 1) (W.alloc (Obj.cells #[Value.int IntKind.i64 (q % r)] 3)).drew = .ok (.value (Value.slice (some { block:=g',off:=0 }) ((eB l (vals pre)).length + 1) c')) w2:=by unfold pI;rw [dt];rfl
  have M8 : r ≠ 0:=by omega
  obtain ⟨rZ,mN⟩:=hx;have s0:=s1;rw [← GW] at s0;clear dt bj b_ aY hB qH DG oH k1 k2 hq hr s1 GW
  generalize IZ : (eB l (vals pre)).length = pn at *
  gi_wp2
  refine wpIn_region_any (by kernel_rfl) ?_;change wpAnyIn _ _ _ _ _ _ _ _ _ (World.drew _)
  refine wpAnyIn_ready (rs:=[0,1,2]) (by kernel_rfl) (by simp) ?_;refine AllReadyIn.cons rfl (fun K hK => ?_) ?_
  ·go_simp
   refine hK _ _ ?_;clear hK K;refine wpAnyIn_ready (rs:=[1,2]) (by kernel_rfl) (by simp) ?_;refine AllReadyIn.cons rfl (fun K hK => ?_) ?_
   ·go_simp
    refine hK _ _ ?_;clear hK K;refine wpAnyIn_ready (rs:=[2]) (by kernel_rfl) (by simp) ?_;refine AllReadyIn.cons rfl (fun K hK => ?_) AllReadyIn.nil
    go_simp
    refine hK _ _ ?_;clear hK K;refine wpAnyIn_ready (rs:=[3]) (by kernel_rfl) (by simp) ?_;refine AllReadyIn.cons rfl (fun K hK => ?_) AllReadyIn.nil
    go_simp
    refine hK _ _ ?_;clear hK K;refine wpAnyIn_ready (rs:=[4]) (by kernel_rfl) (by simp) ?_;refine AllReadyIn.cons rfl (fun K hK => ?_) AllReadyIn.nil
    go_simp
    refine hK _ _ ?_;clear hK K;refine wpAnyIn_ready (rs:=[5]) (by kernel_rfl) (by simp) ?_;refine AllReadyIn.cons rfl (fun K hK => ?_) AllReadyIn.nil
    refine eh (.tmp 13) (.tmp 17) rfl rfl _ w2 lT ?_;refine hK _ _ ?_;clear hK K;refine wpAnyIn_ready (rs:=[6]) (by kernel_rfl) (by simp) ?_;refine AllReadyIn.cons rfl (fun K hK => ?_) AllReadyIn.nil
    go_simp
    refine hK _ _ ?_;clear hK K;refine wpAnyIn_done (by kernel_rfl) ?_ _
    gi_wp2
    exact ⟨s0,s2,s3⟩
   refine AllReadyIn.cons rfl (fun K hK => ?_) AllReadyIn.nil
   go_simp
   refine hK _ _ ?_;clear hK K;refine wpAnyIn_ready (rs:=[1]) (by kernel_rfl) (by simp) ?_;refine AllReadyIn.cons rfl (fun K hK => ?_) AllReadyIn.nil
   go_simp
   refine hK _ _ ?_;clear hK K;refine wpAnyIn_ready (rs:=[3]) (by kernel_rfl) (by simp) ?_;refine AllReadyIn.cons rfl (fun K hK => ?_) AllReadyIn.nil
   go_simp
   refine hK _ _ ?_;clear hK K;refine wpAnyIn_ready (rs:=[4]) (by kernel_rfl) (by simp) ?_;refine AllReadyIn.cons rfl (fun K hK => ?_) AllReadyIn.nil
   go_simp
   refine hK _ _ ?_;clear hK K;refine wpAnyIn_ready (rs:=[5]) (by kernel_rfl) (by simp) ?_;refine AllReadyIn.cons rfl (fun K hK => ?_) AllReadyIn.nil
   refine eh (.tmp 13) (.tmp 17) rfl rfl _ w2 lT ?_;refine hK _ _ ?_;clear hK K;refine wpAnyIn_ready (rs:=[6]) (by kernel_rfl) (by simp) ?_;refine AllReadyIn.cons rfl (fun K hK => ?_) AllReadyIn.nil
   go_simp
   refine hK _ _ ?_;clear hK K;refine wpAnyIn_done (by kernel_rfl) ?_ _
   gi_wp2
   exact ⟨s0,s2,s3⟩
  refine AllReadyIn.cons rfl (fun K hK => ?_) ?_
  ·go_simp
   refine hK _ _ ?_;clear hK K;refine wpAnyIn_ready (rs:=[0,2]) (by kernel_rfl) (by simp) ?_;refine AllReadyIn.cons rfl (fun K hK => ?_) ?_
   ·go_simp
    refine hK _ _ ?_;clear hK K;refine wpAnyIn_ready (rs:=[2]) (by kernel_rfl) (by simp) ?_;refine AllReadyIn.cons rfl (fun K hK => ?_) AllReadyIn.nil
    go_simp
    refine hK _ _ ?_;clear hK K;refine wpAnyIn_ready (rs:=[3]) (by kernel_rfl) (by simp) ?_;refine AllReadyIn.cons rfl (fun K hK => ?_) AllReadyIn.nil
    go_simp
    refine hK _ _ ?_;clear hK K;refine wpAnyIn_ready (rs:=[4]) (by kernel_rfl) (by simp) ?_;refine AllReadyIn.cons rfl (fun K hK => ?_) AllReadyIn.nil
    go_simp
    refine hK _ _ ?_;clear hK K;refine wpAnyIn_ready (rs:=[5]) (by kernel_rfl) (by simp) ?_;refine AllReadyIn.cons rfl (fun K hK => ?_) AllReadyIn.nil
    refine eh (.tmp 13) (.tmp 17) rfl rfl _ w2 lT ?_;refine hK _ _ ?_;clear hK K;refine wpAnyIn_ready (rs:=[6]) (by kernel_rfl) (by simp) ?_;refine AllReadyIn.cons rfl (fun K hK => ?_) AllReadyIn.nil
    go_simp
    refine hK _ _ ?_;clear hK K;refine wpAnyIn_done (by kernel_rfl) ?_ _
    gi_wp2
    exact ⟨s0,s2,s3⟩
   refine AllReadyIn.cons rfl (fun K hK => ?_) AllReadyIn.nil
   go_simp
   refine hK _ _ ?_;clear hK K;refine wpAnyIn_ready (rs:=[0,3]) (by kernel_rfl) (by simp) ?_;refine AllReadyIn.cons rfl (fun K hK => ?_) ?_
   ·go_simp
    refine hK _ _ ?_;clear hK K;refine wpAnyIn_ready (rs:=[3]) (by kernel_rfl) (by simp) ?_;refine AllReadyIn.cons rfl (fun K hK => ?_) AllReadyIn.nil
    go_simp
    refine hK _ _ ?_;clear hK K;refine wpAnyIn_ready (rs:=[4]) (by kernel_rfl) (by simp) ?_;refine AllReadyIn.cons rfl (fun K hK => ?_) AllReadyIn.nil
    go_simp
    refine hK _ _ ?_;clear hK K;refine wpAnyIn_ready (rs:=[5]) (by kernel_rfl) (by simp) ?_;refine AllReadyIn.cons rfl (fun K hK => ?_) AllReadyIn.nil
    refine eh (.tmp 13) (.tmp 17) rfl rfl _ w2 lT ?_;refine hK _ _ ?_;clear hK K;refine wpAnyIn_ready (rs:=[6]) (by kernel_rfl) (by simp) ?_;refine AllReadyIn.cons rfl (fun K hK => ?_) AllReadyIn.nil
    go_simp
    refine hK _ _ ?_;clear hK K;refine wpAnyIn_done (by kernel_rfl) ?_ _
    gi_wp2
    exact ⟨s0,s2,s3⟩
   refine AllReadyIn.cons rfl (fun K hK => ?_) AllReadyIn.nil
   go_simp
   refine hK _ _ ?_;clear hK K;refine wpAnyIn_ready (rs:=[0,4]) (by kernel_rfl) (by simp) ?_;refine AllReadyIn.cons rfl (fun K hK => ?_) ?_
   ·go_simp
    refine hK _ _ ?_;clear hK K;refine wpAnyIn_ready (rs:=[4]) (by kernel_rfl) (by simp) ?_;refine AllReadyIn.cons rfl (fun K hK => ?_) AllReadyIn.nil
    go_simp
    refine hK _ _ ?_;clear hK K;refine wpAnyIn_ready (rs:=[5]) (by kernel_rfl) (by simp) ?_;refine AllReadyIn.cons rfl (fun K hK => ?_) AllReadyIn.nil
    refine eh (.tmp 13) (.tmp 17) rfl rfl _ w2 lT ?_;refine hK _ _ ?_;clear hK K;refine wpAnyIn_ready (rs:=[6]) (by kernel_rfl) (by simp) ?_;refine AllReadyIn.cons rfl (fun K hK => ?_) AllReadyIn.nil
    go_simp
    refine hK _ _ ?_;clear hK K;refine wpAnyIn_done (by kernel_rfl) ?_ _
    gi_wp2
    exact ⟨s0,s2,s3⟩
   refine AllReadyIn.cons rfl (fun K hK => ?_) AllReadyIn.nil
   go_simp
   refine hK _ _ ?_;clear hK K;refine wpAnyIn_ready (rs:=[0]) (by kernel_rfl) (by simp) ?_;refine AllReadyIn.cons rfl (fun K hK => ?_) AllReadyIn.nil
   go_simp
   refine hK _ _ ?_;clear hK K;refine wpAnyIn_ready (rs:=[5]) (by kernel_rfl) (by simp) ?_;refine AllReadyIn.cons rfl (fun K hK => ?_) AllReadyIn.nil
   refine eh (.tmp 13) (.tmp 17) rfl rfl _ w2 lT ?_;refine hK _ _ ?_;clear hK K;refine wpAnyIn_ready (rs:=[6]) (by kernel_rfl) (by simp) ?_;refine AllReadyIn.cons rfl (fun K hK => ?_) AllReadyIn.nil
   go_simp
   refine hK _ _ ?_;clear hK K;refine wpAnyIn_done (by kernel_rfl) ?_ _
   gi_wp2
   exact ⟨s0,s2,s3⟩
  refine AllReadyIn.cons rfl (fun K hK => ?_) AllReadyIn.nil
  go_simp
  refine hK _ _ ?_;clear hK K;refine wpAnyIn_ready (rs:=[0,1]) (by kernel_rfl) (by simp) ?_;refine AllReadyIn.cons rfl (fun K hK => ?_) ?_
  ·go_simp
   refine hK _ _ ?_;clear hK K;refine wpAnyIn_ready (rs:=[1]) (by kernel_rfl) (by simp) ?_;refine AllReadyIn.cons rfl (fun K hK => ?_) AllReadyIn.nil
   go_simp
   refine hK _ _ ?_;clear hK K;refine wpAnyIn_ready (rs:=[3]) (by kernel_rfl) (by simp) ?_;refine AllReadyIn.cons rfl (fun K hK => ?_) AllReadyIn.nil
   go_simp
   refine hK _ _ ?_;clear hK K;refine wpAnyIn_ready (rs:=[4]) (by kernel_rfl) (by simp) ?_;refine AllReadyIn.cons rfl (fun K hK => ?_) AllReadyIn.nil
   go_simp
   refine hK _ _ ?_;clear hK K;refine wpAnyIn_ready (rs:=[5]) (by kernel_rfl) (by simp) ?_;refine AllReadyIn.cons rfl (fun K hK => ?_) AllReadyIn.nil
   refine eh (.tmp 13) (.tmp 17) rfl rfl _ w2 lT ?_;refine hK _ _ ?_;clear hK K;refine wpAnyIn_ready (rs:=[6]) (by kernel_rfl) (by simp) ?_;refine AllReadyIn.cons rfl (fun K hK => ?_) AllReadyIn.nil
   go_simp
   refine hK _ _ ?_;clear hK K;refine wpAnyIn_done (by kernel_rfl) ?_ _
   gi_wp2
   exact ⟨s0,s2,s3⟩
  refine AllReadyIn.cons rfl (fun K hK => ?_) AllReadyIn.nil
  go_simp
  refine hK _ _ ?_;clear hK K;refine wpAnyIn_ready (rs:=[0,3]) (by kernel_rfl) (by simp) ?_;refine AllReadyIn.cons rfl (fun K hK => ?_) ?_
  ·go_simp
   refine hK _ _ ?_;clear hK K;refine wpAnyIn_ready (rs:=[3]) (by kernel_rfl) (by simp) ?_;refine AllReadyIn.cons rfl (fun K hK => ?_) AllReadyIn.nil
   go_simp
   refine hK _ _ ?_;clear hK K;refine wpAnyIn_ready (rs:=[4]) (by kernel_rfl) (by simp) ?_;refine AllReadyIn.cons rfl (fun K hK => ?_) AllReadyIn.nil
   go_simp
   refine hK _ _ ?_;clear hK K;refine wpAnyIn_ready (rs:=[5]) (by kernel_rfl) (by simp) ?_;refine AllReadyIn.cons rfl (fun K hK => ?_) AllReadyIn.nil
   refine eh (.tmp 13) (.tmp 17) rfl rfl _ w2 lT ?_;refine hK _ _ ?_;clear hK K;refine wpAnyIn_ready (rs:=[6]) (by kernel_rfl) (by simp) ?_;refine AllReadyIn.cons rfl (fun K hK => ?_) AllReadyIn.nil
   go_simp
   refine hK _ _ ?_;clear hK K;refine wpAnyIn_done (by kernel_rfl) ?_ _
   gi_wp2
   exact ⟨s0,s2,s3⟩
  refine AllReadyIn.cons rfl (fun K hK => ?_) AllReadyIn.nil
  go_simp
  refine hK _ _ ?_;clear hK K;refine wpAnyIn_ready (rs:=[0,4]) (by kernel_rfl) (by simp) ?_;refine AllReadyIn.cons rfl (fun K hK => ?_) ?_
  ·go_simp
   refine hK _ _ ?_;clear hK K;refine wpAnyIn_ready (rs:=[4]) (by kernel_rfl) (by simp) ?_;refine AllReadyIn.cons rfl (fun K hK => ?_) AllReadyIn.nil
   go_simp
   refine hK _ _ ?_;clear hK K;refine wpAnyIn_ready (rs:=[5]) (by kernel_rfl) (by simp) ?_;refine AllReadyIn.cons rfl (fun K hK => ?_) AllReadyIn.nil
   refine eh (.tmp 13) (.tmp 17) rfl rfl _ w2 lT ?_;refine hK _ _ ?_;clear hK K;refine wpAnyIn_ready (rs:=[6]) (by kernel_rfl) (by simp) ?_;refine AllReadyIn.cons rfl (fun K hK => ?_) AllReadyIn.nil
   go_simp
   refine hK _ _ ?_;clear hK K;refine wpAnyIn_done (by kernel_rfl) ?_ _
   gi_wp2
   exact ⟨s0,s2,s3⟩
  refine AllReadyIn.cons rfl (fun K hK => ?_) AllReadyIn.nil
  go_simp
  refine hK _ _ ?_;clear hK K;refine wpAnyIn_ready (rs:=[0]) (by kernel_rfl) (by simp) ?_;refine AllReadyIn.cons rfl (fun K hK => ?_) AllReadyIn.nil
  go_simp
  refine hK _ _ ?_;clear hK K;refine wpAnyIn_ready (rs:=[5]) (by kernel_rfl) (by simp) ?_;refine AllReadyIn.cons rfl (fun K hK => ?_) AllReadyIn.nil
  refine eh (.tmp 13) (.tmp 17) rfl rfl _ w2 lT ?_;refine hK _ _ ?_;clear hK K;refine wpAnyIn_ready (rs:=[6]) (by kernel_rfl) (by simp) ?_;refine AllReadyIn.cons rfl (fun K hK => ?_) AllReadyIn.nil
  go_simp
  refine hK _ _ ?_;clear hK K;refine wpAnyIn_done (by kernel_rfl) ?_ _
  gi_wp2
  exact ⟨s0,s2,s3⟩
 case done =>
  rintro D ys W hD rfl ⟨bj,⟨v,b_,aY⟩,hB,Uf⟩ hK;rw [GU] at bj aY
  have za : (eB l (aV s).reverse).length ≤ 3:=by rw [Bm,List.length_reverse];omega
  obtain ⟨q,hq⟩ : ∃ q,lx l (aV s).reverse = q:=⟨_,rfl⟩
  rw [hq] at bj;have Hq:=zh hq
  obtain ⟨g',c',w2,dt,qH,DG,oH⟩:=Ue (w:=W.alloc (.cells #[.int .i64 q] 3)) (aY.keep (au W _)) q 25 W.heap.size (by simp) (by omega) (by simp;omega)
  have lT : pI Tryz.prog 25 v (Value.slice (some { block:=W.heap.size,off:=0 }) 1 1) (W.alloc (Obj.cells #[Value.int IntKind.i64 q] 3)) = .ok (.value (Value.slice (some { block:=g',off:=0 }) ((eB l (aV s).reverse).length + 1) c')) w2:=by unfold pI;rw [dt];rfl
  have hlt : ∀ k,v.ownBlock = some k → w1.heap.size + 1 ≤ k:=fun k hk => (World.ownsRow.lt aY k hk).1
  have Zs : D < W.heap.size:=(Array.getElem?_eq_some_iff.1 hK).1
  have Zt : some D ≠ v.ownBlock:=by
   intro e;rcases aY.2 with ⟨rfl,_⟩ | ⟨gg,cap,cur,rfl,_,OH,_⟩
   ·simp [Value.ownBlock] at e
   ·simp only [Value.ownBlock,Option.some.injEq] at e;subst e
    rw [OH] at hK;cases hK
  have hDg : D ≠ g':=by
   rcases oH with e | e
   ·intro h;subst h;exact Zt e
   ·simp at e;omega
  have Mm:=qH.blk
  have k2 : Boxed w2 (w.heap.size + 1) 25 v:=(b_.alloc _).kept DG (fun e => by have:=hlt _ e.symm;omega)
  have hK2 : w2.heap[D]? = some (.deferred (some [])):=(DG.block D (by simp;omega) Zt).trans ((Below.heap_alloc W _ D Zs).trans hK)
  have y8 : Below w.heap.size w w2:=hB.trans (((au W (.cells #[.int .i64 q] 3)).mono (by omega)).grown DG (by simp;omega) (fun k e => by have:=hlt k e;omega))
  have eS:=bj.cell;have lm:=b_.cell;have iz:=k2.cell;have FG:=k2.frozen;simp only [GW] at hD;have k3:=k2.set (.slice (some ⟨g',0,none⟩) ((eB l (aV s).reverse).length + 1) c')
  have hK3 : (w2.setCell ⟨w.heap.size + 1,0,none⟩ (.slice (some ⟨g',0,none⟩) ((eB l (aV s).reverse).length + 1) c')).heap[D]? = some (.deferred (some [])):=(Below.heap_setCell _ _ _ D (by simp;omega)).trans hK2
  have o3 : Own (w2.setCell ⟨w.heap.size + 1,0,none⟩ (.slice (some ⟨g',0,none⟩) ((eB l (aV s).reverse).length + 1) c')) (w1.heap.size + 1) (.slice (some ⟨g',0,none⟩) ((eB l (aV s).reverse).length + 1) c') (eB l (aV s).reverse ++ [q]):=
   World.ownsRow.kept qH (grownBy_setCell' w2 (w.heap.size + 1) _) (.inr (by simp [Value.ownBlock];omega))
  have M9 : Below w.heap.size w (w2.setCell ⟨w.heap.size + 1,0,none⟩ (.slice (some ⟨g',0,none⟩) ((eB l (aV s).reverse).length + 1) c')):=y8.setCell (by simp) _;have H3:=zh k3;have HK3:=zh hK3;have HO3:=zh o3;have Mo:=zh M9;have Hgb:=zh Mm;have hdg:=hDg;have pJ : w.heap.size + 1 < w2.heap.size:=k2.lt;clear k3 hK3 o3 M9 dt qH DG oH hK2 y8 hK aY hB bj b_ k2 hlt Zt hDg hq Mm
  generalize IZ : (eB l (aV s).reverse).length + 1 = pn at *
  have Hpn:=zh IZ;clear IZ
  gi_wp2_with (gi_at_builtin;refine y_ (.tmp 22) (.tmp 24) rfl rfl _ w2 lT ?_)
  refine ⟨trivial,(callsIn_wide.2 (Al _ _ _ _ HO3.out)).mono ?_⟩;rintro e w4 ⟨rfl,mf,Bn⟩;have Mm:=Hgb.out
  have k4:=(H3.out.kept Bn (by simp [Value.ownBlock];omega)).cell
  have hK4 : w4.heap[D]? = some (.deferred (some [])):=(Bn.block D (by simp [World.setCell];have:=(Array.getElem?_eq_some_iff.1 HK3.out).1;simpa [World.setCell] using this) (by simp [Value.ownBlock];omega)).trans HK3.out
  have Ug : Below w.heap.size w w4:=Mo.out.grown Bn Mo.out.size (fun k e => by simp [Value.ownBlock] at e;omega)
  have Uh:=zh mf;have M_:=zh Ug;have Zu:=zh hK4;clear mf Bn Ug hK4 Mm
  gi_wp2
  refine ⟨by simp,.inl ⟨_,_,rfl,run_takeDeferred Zu.out,?_⟩⟩;refine ⟨_,results_tmp rfl _ _ _,_,rfl,?_,M_.out.trans (belowK_b (w:=w) (Nat.le_refl _) w4 D _ _ (by omega) Zu.out rfl rfl)⟩
  have:=DB Uh.out (.deferred none) Zu.out rfl
  rw [List.reverse_append,← Hq.out] at this;exact this.mono (by omega)
 case stop =>
  rintro D c pre W _ _ h _;exact h.elim
def gM (s l : Int) : List Int:=lx l (aV s).reverse :: (eB l (aV s).reverse).reverse
theorem lc (s l : Int) (h0 : 0 ≤ l) (h1 : l ≤ 999999999999) (w : World) :
  Calls Tryz.prog 110 #[.int .i64 s,.int .i64 l] w fun e W' => ∃ v,e = .returned v ∧ Own W' w.heap.size v (gM s l) ∧ Below w.heap.size w W':=
 callsIn_wide.1 (DF 4 (Nat.le_refl _) s l h0 h1 w)
theorem JZ (l : Int) (h0 : 0 ≤ l) (h1 : l ≤ 999999999999) (w : World) :
  Calls Tryz.prog 217 #[.int .i64 5,.int .i64 l] w fun e w' => ∃ u,e = .returned u ∧ Own w' w.heap.size u (gM 5 l) ∧ Below w.heap.size w w':=by
 have fA:=zh (show gM 5 l = [l / 2 / 10 / 100,(l / 2 / 10) % 100,(l / 2) % 10,l % 2] by simp [gM,aV,lx,eB])
 go_enter Tryz.func217,Tryz.ntmps217
 go_wp2_with fail;refine (mw _ _).mono ?_;rintro e w1 ⟨u,rfl,ho,bj⟩;obtain ⟨g,cc,rfl,hg,oH,zV,kh⟩:=Own.lit (show Own w1 _ u (100 :: [10,2]) from ho);have r0:=kh 0 100 rfl;have r1:=kh 1 10 rfl;have r2:=kh 2 2 rfl;clear kh;have gG:=zh bj;clear ho bj
 go_wp2_with (at_make;refine k6 _ rfl _ _ rfl _ _ 4 rfl rfl rfl rfl (by omega) ?_;intro w2 dL b_ eD)
 have iU:=zh dL;have tP:=zh b_;have c0:=dL.cell (k:=0) (x:=0) rfl;have f0:=dL.free 0;have c1:=dL.cell (k:=1) (x:=0) rfl;have f1:=dL.free 1;have c2:=dL.cell (k:=2) (x:=0) rfl;have f2:=dL.free 2;have c3:=dL.cell (k:=3) (x:=0) rfl;have f3:=dL.free 3;have q0:=bc b_ r0;have q1:=bc b_ r1;have q2:=bc b_ r2;clear dL b_ r0 r1 r2;go_wp2;refine wp_loop_rounds 4 ?_
 iterate 4
  rw [rounds_succ];go_wp2
 go_ret;refine ⟨_,rfl,?_,?_⟩
 ·rw [fA.out];exact Own.mono ((((iU.out.set (k:=3) (l % 2)).set (k:=2) ((l / 2) % 10)).set (k:=1) ((l / 2 / 10) % 100)).set (k:=0) (l / 2 / 10 / 100)) gG.out.size
 ·exact (((((gG.out.trans (tP.out.mono gG.out.size)).setCell gG.out.size _).setCell gG.out.size _).setCell gG.out.size _).setCell gG.out.size _)
theorem J0 (l : Int) (h0 : 0 ≤ l) (h1 : l ≤ 999999999999) (w : World) :
  Calls Tryz.prog 217 #[.int .i64 4,.int .i64 l] w fun e w' => ∃ u,e = .returned u ∧ Own w' w.heap.size u (gM 4 l) ∧ Below w.heap.size w w':=by
 have fA:=zh (show gM 4 l = [l / 100,l % 100] by simp [gM,aV,lx,eB])
 go_enter Tryz.func217,Tryz.ntmps217
 go_wp2_with fail;refine (mw _ _).mono ?_;rintro e w1 ⟨u,rfl,ho,bj⟩;obtain ⟨g,cc,rfl,hg,oH,zV,kh⟩:=Own.lit (show Own w1 _ u (100 :: []) from ho);have r0:=kh 0 100 rfl;clear kh;have gG:=zh bj;clear ho bj
 go_wp2_with (at_make;refine k6 _ rfl _ _ rfl _ _ 2 rfl rfl rfl rfl (by omega) ?_;intro w2 dL b_ eD)
 have iU:=zh dL;have tP:=zh b_;have c0:=dL.cell (k:=0) (x:=0) rfl;have f0:=dL.free 0;have c1:=dL.cell (k:=1) (x:=0) rfl;have f1:=dL.free 1;have q0:=bc b_ r0;clear dL b_ r0;go_wp2;refine wp_loop_rounds 2 ?_
 iterate 2
  rw [rounds_succ];go_wp2
 go_ret;refine ⟨_,rfl,?_,?_⟩
 ·rw [fA.out];exact Own.mono ((iU.out.set (k:=1) (l % 100)).set (k:=0) (l / 100)) gG.out.size
 ·exact (((gG.out.trans (tP.out.mono gG.out.size)).setCell gG.out.size _).setCell gG.out.size _)
theorem J1 (l : Int) (s : Int) (hs : s ≠ 4) (dE : s ≠ 5) (_ : 0 ≤ l) (_ : l ≤ 999999999999) (w : World) :
  Calls Tryz.prog 217 #[.int .i64 s,.int .i64 l] w fun e w' => ∃ u,e = .returned u ∧ Own w' w.heap.size u (gM s l) ∧ Below w.heap.size w w':=by
 have fA:=zh (show gM s l = [l] by simp [gM,aV,lx,eB,hs,dE])
 go_enter Tryz.func217,Tryz.ntmps217
 go_wp2_with fail;refine (mw _ _).mono ?_;rintro e w1 ⟨u,rfl,ho,bj⟩
 obtain ⟨A,cc,rfl⟩:=Own.lit0 (show Own w1 _ u [] by have:=ho;rwa [show aV s = [] by simp [aV,hs,dE]] at this)
 have gG:=zh bj;clear ho bj
 go_wp2_with (at_make;refine k6 _ rfl _ _ rfl _ _ 1 rfl rfl rfl rfl (by omega) ?_;intro w2 dL b_ eD)
 have iU:=zh dL;have tP:=zh b_;have c0:=dL.cell (k:=0) (x:=0) rfl;have f0:=dL.free 0;clear dL b_;go_wp2;refine wp_loop_rounds 1 ?_
 iterate 1
  rw [rounds_succ];go_wp2
 go_ret;refine ⟨_,rfl,?_,?_⟩
 ·rw [fA.out];exact Own.mono (iU.out.set (k:=0) (l)) gG.out.size
 ·exact ((gG.out.trans (tP.out.mono gG.out.size)).setCell gG.out.size _)
theorem ld (s l : Int) (h0 : 0 ≤ l) (h1 : l ≤ 999999999999) (w : World) :
  Calls Tryz.prog 217 #[.int .i64 s,.int .i64 l] w fun e w' => ∃ u,e = .returned u ∧ Own w' w.heap.size u (gM s l) ∧ Below w.heap.size w w':=by
 by_cases h5 : s = 5
 ·subst h5;exact JZ l h0 h1 w
 ·by_cases h4 : s = 4
  ·subst h4;exact J0 l h0 h1 w
  ·exact J1 l s h4 h5 h0 h1 w
end Go.Proofs.YtgmdpppljkmabaaGreat
