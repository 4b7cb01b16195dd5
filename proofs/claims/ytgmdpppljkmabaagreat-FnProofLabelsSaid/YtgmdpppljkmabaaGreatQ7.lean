/- Parts of the proof: walks of functions and plain laws. -/
import Derived.Test.YtgmdpppljkmabaaGreatQ0
import Derived.RangeFuncNested
import Derived.RangeFuncBound
import Derived.RangeFuncCalls
import Derived.RangeFuncLeaves
import Derived.RangeFuncBox
import Derived.Shelf.Abstract
import Derived.Shelf.RegionOpen
import Derived.OwnWalkIn
import Derived.TacticsInMore
import Derived.LoopNIn
import Derived.LoopIn
import Derived.Test.YtgmdpppljkmabaaGreatQ6
set_option maxRecDepth 100000
set_option maxHeartbeats 16000000
namespace Go.Proofs.YtgmdpppljkmabaaGreat
open Go Go.RowKit
open Go.RowKit Go.Shelf
attribute [local go_sem] Oper.semAt_some
def mJ {α:Type} (f:Nat->α) (k:Nat):List α:=(List.range k).map f
theorem xo {α:Type} (f:Nat->α) (k:Nat):mJ f (k+1)=mJ f k++[f k]:=by simp[mJ,List.range_succ]
theorem BJ {α:Type} (f:Nat->α) (k:Nat):(mJ f k).length=k:=by simp[mJ]
def fp (lo hi:Nat) (W W':World):Prop:=W.heap.size<=W'.heap.size/\∀k,lo<=k->k<hi->W'.heap[k]?=W.heap[k]?
theorem fp.t {lo hi:Nat} {A B C:World} (h:fp lo hi A B) (k:fp lo hi B C):fp lo hi A C:=⟨Nat.le_trans h.1 k.1,fun i h1 h2=>(k.2 i h1 h2).trans (h.2 i h1 h2)⟩
theorem fp.refl (lo hi:Nat) (W:World):fp lo hi W W:=⟨Nat.le_refl _,fun _ _ _=>rfl⟩
theorem fp.b {lo hi:Nat} {w:World} (hh:hi<=w.heap.size) (W:World) (l:Nat) (o o':Obj) (hl:w.heap.size<=l) (_:W.heap[l]?=some o) (_:o.isCells=false) (_:o.isWalk=false):fp lo hi W (W.putObj l o'):=
 ⟨(grownBy_putObj' W l o').size,fun k _ hk=>by
  rcases Nat.lt_or_ge k W.heap.size with h | h
  ·exact(grownBy_putObj' W l o').block k h (fun e=>by cases e;omega)
  ·exact World.putObj_heap_other (fun e=>by omega)⟩
theorem fp.cell {lo hi:Nat} {W W':World} (h:fp lo hi W W') {a:Addr} {u:Value} (h1:lo<=a.block) (h2:a.block<hi) (hc:W.cell? a=some u):W'.cell? a=some u:=
 (World.cell?_of_block (h.2 a.block h1 h2)).trans hc
abbrev E_:={ x:Nat×Int // 1<=x.2/\x.2<=100 }
def QM (x:E_):Array Value:=#[.int .i64 (x.1.1:Int),.int .i64 x.1.2]
theorem Uz (F:Fence) (n:Nat) (hf:F.fn 215) (yH:F.round=none) (hn:1<=n) (l Bs lo hi b off len cap:Nat) (g:Nat->E_) (hg:∀j,j<len->(g j).1.1=j) (Nf:len<=1000) (ay:lo<=b) (bj:b<hi) (iE:lo<=Bs) (BK:Bs<hi) (J Jx:List E_->World->Prop)
  (hY:∀pre x W,J pre W->pre.length<len->YieldAt F (n-1) Tryz.prog l (QM x) W fun e W'=>
   (e=.returned (.bool true)/\J (pre++[x]) W'/\fp lo hi W W')\/(e=.returned (.bool false)/\Jx (pre++[x]) W'))
  (W:World) (hBs:W.cell? ⟨Bs,0,none⟩=some (.slice (some ⟨b,off,none⟩) len cap)) (hc:∀j,j<len->W.cell? ⟨b,off+j,none⟩=some (.int .i64 (g j).1.2)) (h0:J [] W):
  CallsIn F n Tryz.prog 215 #[.func (.yield l) #[] #[],.pointer (some ⟨Bs,0,none⟩)] W fun e W'=>(∃v,e=.returned v) /\
   ((∃ys,ys=mJ (fun j=>g (len-1-j)) len/\J ys W')\/(∃pre,(∃k,k<=len/\pre=mJ (fun j=>g (len-1-j)) k)/\Jx pre W')):=by
 refine callsIn_of_wp Tryz.func215 rfl hf ?_ yH
 simp only[Tryz.ntmps215,List.size_toArray,List.length_cons,List.length_nil,Nat.reduceAdd,Nat.reduceSub,Array.replicate_succ,Array.replicate_zero,List.push_toArray,List.append_toArray,List.nil_append,List.cons_append];have Hg:=zh hg;clear hg
 gi_wp2
 gi_loopw [3] (fun i wr=>∃k:Nat,k<=len/\i=.int .i64 ((len:Int)-1-k)/\J (mJ (fun j=>g (len-1-j)) k) wr/\fp lo hi W wr)
  (fun i _=>(intOf i+1).toNat)
 case atStart=>exact⟨0,Nat.zero_le _,by simp,h0,fp.refl _ _ _⟩
 case round=>
  obtain⟨k,hk,rfl,hJs,Fa⟩:=hrel;have hBr:wr.cell? ⟨Bs,0,none⟩=some (.slice (some ⟨b,off,none⟩) len cap):=Fa.cell iE BK hBs
  by_cases hlt:k<len
  ·obtain⟨q,hq⟩:∃q,len-1-k=q:=⟨_,rfl⟩
   have hqi:((len:Int)-1-k)=(q:Int):=by omega
   rw[hqi];have hcx:wr.cell? ⟨b,off+q,none⟩=some (.int .i64 (g q).1.2):=Fa.cell ay bj (hc q (by omega))
   obtain⟨fn,tmps,assign,body,hy,hR⟩:=hY _ (g q) wr hJs (by rw[BJ];exact hlt)
   unfold QM at hy;rw[Hg.out q (by omega)]at hy;have UA:q<len:=by omega
   have Hq:=zh hq;have Hqi:=zh hqi;clear hq hqi
   gi_wp2
   refine hR.mono ?_
   rintro e W3 (⟨rfl,hJ3,L0⟩ | ⟨rfl,abM⟩)
   ·gi_wp2
    go_roundw
    case rel=>exact⟨k+1,by omega,by have:=Hqi.out;congr 1;omega,by rw[xo,Hq.out];exact hJ3,Fa.t L0⟩
    case measure=>simp[intOf]
   ·gi_wp2
    refine bodyPost_ret (results_none rfl _ _ _) rfl ?_;exact⟨⟨_,rfl⟩,.inr ⟨_,⟨k+1,by omega,by rw[xo,Hq.out]⟩,abM⟩⟩
  ·obtain rfl:k=len:=by omega
   gi_wp2
   go_end0
   exact⟨⟨_,rfl⟩,.inl ⟨_,rfl,hJs⟩⟩
theorem F8 (F:Fence) (n:Nat) (hf:F.fn 215) (yH:F.round=none) (l Bs c:Nat) (A:Option Addr) (J:List E_->World->Prop) (W:World) (hBs:W.cell? ⟨Bs,0,none⟩=some (.slice A 0 c)) (h0:J [] W):
  CallsIn F n Tryz.prog 215 #[.func (.yield l) #[] #[],.pointer (some ⟨Bs,0,none⟩)] W fun e W'=>(∃v,e=.returned v)/\J [] W':=by
 refine callsIn_of_wp Tryz.func215 rfl hf ?_ yH
 simp only[Tryz.ntmps215,List.size_toArray,List.length_cons,List.length_nil,Nat.reduceAdd,Nat.reduceSub,Array.replicate_succ,Array.replicate_zero,List.push_toArray,List.append_toArray,List.nil_append,List.cons_append]
 gi_wp2
 gi_loopw [3] (fun i wr=>i=.int .i64 (-1)/\J [] wr) (fun _ _=>0)
 case atStart=>exact⟨rfl,h0⟩
 case round=>
  obtain⟨rfl,hJs⟩:=hrel
  gi_wp2
  go_end0
  exact⟨⟨_,rfl⟩,hJs⟩
theorem Yv (F:Fence) (n:Nat) (hf:F.fn 176) (yH:F.round=none) (a:Option Addr) (len cap:Nat) (w:World):
  CallsIn F n Tryz.prog 176 #[.slice a len cap] w fun e w'=>e=.returned (.func (.func 215) #[] #[.pointer (some ⟨w.heap.size,0,none⟩)])/\w'=w.alloc (.cells #[.slice a len cap] 25):=by
 refine callsIn_of_wp Tryz.func176 rfl hf ?_ yH
 simp only[Tryz.ntmps176,List.size_toArray,List.length_cons,List.length_nil,Nat.reduceAdd,Nat.reduceSub,Array.replicate_succ,Array.replicate_zero,List.push_toArray,List.append_toArray,List.nil_append,List.cons_append]
 gi_wp2
 go_ret;exact⟨rfl,rfl⟩
open Go.RowKit Go.Shelf
attribute [local go_sem] Oper.semAt_some
def kR (l:Int) (rs:List Int):Int:=rs.foldl (fun l r=>l/r) l
def eK (l:Int):List Int->List Int
 | []=>[]
 | r::rs=>(l%r)::eK (l/r) rs
theorem Kj (l:Int) (rs:List Int) (r:Int):kR l (rs++[r])=kR l rs/r:=by simp[kR]
theorem Kk (l:Int) (rs:List Int) (r:Int):eK l (rs++[r])=eK l rs++[kR l rs%r]:=by
 induction rs generalizing l with
 | nil=>simp[eK,kR]
 | cons x rs ih=>simp[eK,ih,kR]
theorem Dx (l:Int) (rs:List Int):(eK l rs).length=rs.length:=by
 induction rs generalizing l with
 | nil=>rfl
 | cons x rs ih=>simp[eK,ih]
theorem QN (l:Int) (rs:List Int) (h0:0<=l) (hr:∀r∈rs,1<=r):0<=kR l rs/\kR l rs<=l:=by
 induction rs generalizing l with
 | nil=>simp[kR,h0]
 | cons x rs ih=>
  have hx:=hr x (by simp);have h1:0<=l/x:=Int.ediv_nonneg h0 (by omega);have h2:l/x<=l:=Int.ediv_le_self _ h0
  have:=ih (l/x) h1 (fun r L4=>hr r (by simp[L4]))
  exact⟨this.1,Int.le_trans this.2 h2⟩
def aec (pre:List E_):List Int:=pre.map fun x=>x.1.2
theorem Ad (pre:List E_) (x:E_):aec (pre++[x])=aec pre++[x.1.2]:=by simp[aec]
theorem Ng (pre:List E_):∀r∈aec pre,1<=r:=by
 intro r hr;obtain⟨x,_,rfl⟩:=List.mem_map.1 hr;exact x.2.1
theorem Nh (pre:List E_):(aec pre).length=pre.length:=by simp[aec]
def UB (l:Int) (b0 N1:Nat) (w:World) (pre:List E_) (W:World):Prop:=
 Boxed W b0 3 (.int .i64 (kR l (aec pre)))/\(∃v,Boxed W (b0+1) 25 v/\Own W N1 v (eK l (aec pre)))/\Below b0 w W/\N1<=W.heap.size
theorem Ni (l:Int) (b0 N1:Nat) (w:World) (hb:b0<=w.heap.size) (B:Nat) (hB:b0<=B):OwnFrom B (UB l b0 N1 w):=by
 refine OwnFrom.and (_root_.Go.Own.from (boxed_own b0 3 (fun pre:List E_=>.int .i64 (kR l (aec pre)))) _) (OwnFrom.and ?_ (OwnFrom.and (ownFrom_below hb hB) (fun _ _ _ _ hs hg _=>Nat.le_trans hs hg.size)))
 have:=_root_.Go.Own.from (holdsRow_own (β:=List E_) N1 (b0+1) 25 3 1 (fun pre=>(eK l (aec pre)).length) (fun pre=>(eK l (aec pre)).map (Value.int .i64)) (fun _ _=>True)) B
 intro s W W' row hs hg hr;obtain⟨v,h1,h2⟩:=hs;obtain⟨v',MC,h2',_⟩:=this s W W' row ⟨v,h1,h2,trivial⟩ hg hr;exact⟨v',MC,h2'⟩
theorem Nj (F:Fence) (n:Nat) (hf:F.fn 215) (yH:F.round=none) (hn:1<=n) (Bs lo hi:Nat) (sv:Value) (zs:List Int) (g:Nat->E_) (hg:∀j,j<zs.length->(g j).1.1=j/\zs[j]?=some (g j).1.2) (Nf:zs.length<=1000) (w:World) (iE:lo<=Bs) (BK:Bs<hi) (_:hi<=w.heap.size)
  (hc:w.cell? ⟨Bs,0,none⟩=some sv) (hI:Own w lo sv zs) (hlt:∀k,sv.ownBlock=some k->k<hi):
  SeqStopsK F n Tryz.prog 215 #[.pointer (some ⟨Bs,0,none⟩)] QM (fp lo hi) (fun ys=>ys=mJ (fun j=>g (zs.length-1-j)) zs.length)
   (fun pre=>∃k,k<=zs.length/\pre=mJ (fun j=>g (zs.length-1-j)) k) zs.length w:=fun l J Jx W hW _ _ hY h0=>by
 have MN:=bc hW hc;have WE:=hI.keep hW;rcases WE.cases with⟨rfl,rfl⟩ | ⟨gb,c,rfl,UC,_⟩
 ·exact(F8 F n hf yH l Bs 0 none J W MN h0).mono fun e W' ⟨he,hj⟩=>⟨he,.inl ⟨_,rfl,hj⟩⟩
 ·exact Uz F n hf yH hn l Bs lo hi gb 0 zs.length c g (fun j hj=>(hg j hj).1) Nf UC (hlt gb rfl) iE BK J Jx hY W MN (fun j hj=>by rw[Nat.zero_add];exact WE.cell (hg j hj).2) h0
theorem F9 {W:World} {base:Nat} {v:Value} {xs:List Int} (h:Own W base v xs) {D:Nat} {o:Obj} (o':Obj) (hD:W.heap[D]?=some o) (ho:o.isCells=false):Own (W.putObj D o') base v xs:=ownsRow_putObj h o' hD ho
theorem Yw {w:World} {base:Nat} {v:Value} {xs:List Int} (h:Own w base v xs) (x:Int) (ty:TypeId) (b:Nat) (hc:w.cell? ⟨b,0,none⟩=some (.int .i64 x)) (hl:xs.length+1<=17592186044416) (hb:base<=w.heap.size):
  ∃g c w',(Builtin.append_ #[25,25] ty #[v,.slice (some ⟨b,0,none⟩) 1 1]).run Tryz.prog w=.ok (.slice (some ⟨g,0,none⟩) (xs.length+1) c) w'/\Own w' base (.slice (some ⟨g,0,none⟩) (xs.length+1) c) (xs++[x])/\w.grownBy w' v.ownBlock/\(some g=v.ownBlock\/g=w.heap.size):=by
 obtain⟨i0,hi,il,dV,d8⟩:=info_parts kZ
 obtain⟨v',w',dH,h2,h3,_,h5⟩:=run_append_own_at (P:=Tryz.prog) w base 25 ty 3 i0 (.int .i64 0) 1 8 Tryz.underlying25 hi il dV d8 rfl (by decide) v xs.length (xs.map (Value.int .i64)) h ⟨b,0,none⟩ 1 1 [.int .i64 x] rfl
  (by intro j u hj;match j,hj with | 0,hj=>(simp at hj;subst hj;simpa[Addr.add]using hc) | j+1,hj=>simp at hj) (by simp[Value.oneCell']) (by unfold maxLen;omega) (by omega) hb
 obtain⟨g,c,rfl⟩:=ownsRow_succ h2;refine⟨g,c,w',dH,?_,h3,?_⟩
 ·unfold Own;simpa using h2
 ·rcases h5 with h5 | h5
  ·exact .inl (by simpa[Value.ownBlock]using h5)
  ·exact .inr (by simpa[Value.ownBlock]using h5)
def ri (P:Program) (ty:TypeId) (v s:Value) (w:World):Result Next:=((Builtin.append_ #[25,25] ty #[v,s]).run P w).andThen fun v' w'=>.ok (.value v') w'
theorem eZ {F:Fence} {nF:Nat} {Y:Nat->Option Bool} {o:Oper} {a:Act} {w:World} {K:Act->World->Prop} {Q:Exit->Act->World->Prop} {E:Prop} (s x:Operand)
  (iY:o.guard=none) (ho:o.op=.call { callee:=.builtin .append,args:=#[s,x],argTypes:=#[25,25] }) (v':Value) (w':World)
  (hr:ri Tryz.prog o.type (a.eval s) (a.eval x) w=.ok (.value v') w') (h:K (a.put o.dst v') w'):
  if Region.wanted o Y=true then Oper.wpIn F nF Tryz.prog o a w K Q else E:=by
 rw[if_pos (by simp[Region.wanted,iY])]
 unfold Oper.wpIn;refine⟨by simp[Oper.about,ho,resolve,Target.leads,Sem.run_pure],?_⟩
 rw[Oper.semAt_plain F _ _ (by rw[ho];intro c MN;cases MN)]
 unfold ri at hr;simp only[execOp,ho,resolve,invoke,builtin,Sem.run_bind,Sem.run_pure,Result.andThen_ok,List.map_toArray,List.map_cons,List.map_nil]
 generalize (Builtin.append_ #[25,25] o.type #[a.eval s,a.eval x]).run Tryz.prog w=R at hr ⊢
 cases R with
 | ok v1 w1=>simp[Result.andThen]at hr;obtain⟨rfl,rfl⟩:=hr;exact h
 | halt h1 w1=>simp[Result.andThen]at hr
theorem BL {F:Fence} {nF:Nat} {ops:Array Oper} {rest:List Oper} {o:Oper} {a:Act} {w:World} {Q:Exit->Act->World->Prop} (s x:Operand)
  (iY:o.guard=none) (ho:o.op=.call { callee:=.builtin .append,args:=#[s,x],argTypes:=#[25,25] }) (v':Value) (w':World)
  (hr:ri Tryz.prog o.type (a.eval s) (a.eval x) w=.ok (.value v') w') (h:wpListIn F nF Tryz.prog ops Q rest (a.put o.dst v') w'):wpListIn F nF Tryz.prog ops Q (o::rest) a w:=by
 refine wpListIn_plain iY fun K hK=>?_
 have:=eZ (F:=F) (nF:=nF) (Y:=fun _=>none) (o:=o) (a:=a) (w:=w) (K:=K) (Q:=Q) (E:=False) s x iY ho v' w' hr (hK _ _ h)
 rwa [if_pos (by simp[Region.wanted,iY])]at this
theorem F_ (s:Int):∀r∈aH s,1<=r/\r<=100:=by
 intro r hr;unfold aH at hr
 split at hr
 ·simp at hr;omega
 ·split at hr
  ·simp at hr;omega
  ·simp at hr
def Ae (s:Int) (j:Nat):E_:=⟨(j,if h:j<(aH s).length then (aH s)[j] else 1),by
 by_cases h:j<(aH s).length
 ·simp only[h,dif_pos];exact F_ s _ (List.getElem_mem h)
 ·simp[h]⟩
theorem Ga (s:Int) (j:Nat) (h:j<(aH s).length):(Ae s j).1.1=j/\(aH s)[j]?=some (Ae s j).1.2:=by
 refine⟨rfl,?_⟩;simp[Ae,h]
theorem Kl (s:Int):aec (mJ (fun j=>Ae s ((aH s).length-1-j)) (aH s).length)=(aH s).reverse:=by
 apply List.ext_getElem
 ·simp[aec,mJ]
 ·intro i h1 h2;have hi:i<(aH s).length:=by simpa using h2
  simp[aec,mJ,Ae,show(aH s).length-1-i<(aH s).length by omega]
theorem Gb (s:Int):(aH s).length<=3:=by unfold aH;(split;· decide);split <;> decide
theorem Km {l q r:Int} {b0 N1 g' c':Nat} {w W w2:World} {pre:List E_} {x:E_} {v:Value} {o:Obj} (hr:x.1.2=r) (hq:kR l (aec pre)=q) (hN:b0+2<=N1)
  (ay:Boxed W b0 3 (.int .i64 q)) (bj:Boxed W (b0+1) 25 v) (aP:Own W N1 v (eK l (aec pre))) (hB:Below b0 w W) (eP:N1<=W.heap.size)
  (sr:Own w2 N1 (.slice (some ⟨g',0,none⟩) ((eK l (aec pre)).length+1) c') (eK l (aec pre)++[q%r])) (zF:(W.alloc o).drew.grownBy w2 v.ownBlock):
  (Boxed w2 b0 3 (.int .i64 q)/\Boxed w2 (b0+1) 25 v)/\KeepsFrom N1 W ((w2.setCell ⟨b0+1,0,none⟩ (.slice (some ⟨g',0,none⟩) ((eK l (aec pre)).length+1) c')).setCell ⟨b0,0,none⟩ (.int .i64 (q/r))) /\
   fp (b0+2) N1 W ((w2.setCell ⟨b0+1,0,none⟩ (.slice (some ⟨g',0,none⟩) ((eK l (aec pre)).length+1) c')).setCell ⟨b0,0,none⟩ (.int .i64 (q/r))) /\
   UB l b0 N1 w (pre++[x]) ((w2.setCell ⟨b0+1,0,none⟩ (.slice (some ⟨g',0,none⟩) ((eK l (aec pre)).length+1) c')).setCell ⟨b0,0,none⟩ (.int .i64 (q/r))):=by
 have hlt:∀k,v.ownBlock=some k->N1<=k:=fun k hk=>(World.ownsRow.lt aP k hk).1
 have abN:some b0≠v.ownBlock:=fun e=>by have:=hlt b0 e.symm;omega
 have yY:some (b0+1)≠v.ownBlock:=fun e=>by have:=hlt (b0+1) e.symm;omega
 have k1:Boxed w2 b0 3 (.int .i64 q):=(show Boxed (W.alloc o).drew b0 _ _ from ay.alloc o).kept zF abN;have k2:Boxed w2 (b0+1) 25 v:=(show Boxed (W.alloc o).drew (b0+1) _ _ from bj.alloc o).kept zF yY;have hg:=sr.blk;have k3:=(k2.set (.slice (some ⟨g',0,none⟩) ((eK l (aec pre)).length+1) c'));have k4:=(k1.other (show b0≠b0+1 by omega) (.slice (some ⟨g',0,none⟩) ((eK l (aec pre)).length+1) c')).set (.int .i64 (q/r))
 have k5:=k3.other (show b0+1≠b0 by omega) (.int .i64 (q/r))
 have o3:Own (w2.setCell ⟨b0+1,0,none⟩ (.slice (some ⟨g',0,none⟩) ((eK l (aec pre)).length+1) c')) N1 (.slice (some ⟨g',0,none⟩) ((eK l (aec pre)).length+1) c') (eK l (aec pre)++[q%r]):=
  World.ownsRow.kept sr (grownBy_setCell' w2 (b0+1) _) (.inr (by simp[Value.ownBlock];omega))
 have o4:Own ((w2.setCell ⟨b0+1,0,none⟩ (.slice (some ⟨g',0,none⟩) ((eK l (aec pre)).length+1) c')).setCell ⟨b0,0,none⟩ (.int .i64 (q/r))) N1 (.slice (some ⟨g',0,none⟩) ((eK l (aec pre)).length+1) c') (eK l (aec pre)++[q%r]):=
  World.ownsRow.kept o3 (grownBy_setCell' _ b0 _) (.inr (by simp[Value.ownBlock];omega))
 have Ft:∀k,k<W.heap.size->k≠b0->k≠b0+1->v.ownBlock≠some k->((w2.setCell ⟨b0+1,0,none⟩ (.slice (some ⟨g',0,none⟩) ((eK l (aec pre)).length+1) c')).setCell ⟨b0,0,none⟩ (.int .i64 (q/r))).heap[k]?=W.heap[k]?:=by
  intro k hk h1 h2 h3
  rw[Below.heap_setCell _ _ _ k h1,Below.heap_setCell _ _ _ k h2,zF.block k (by show k<(W.alloc o).heap.size;simp;omega) (fun e=>h3 e.symm)]
  exact Below.heap_alloc W o k hk
 have UD:W.heap.size<=((w2.setCell ⟨b0+1,0,none⟩ (.slice (some ⟨g',0,none⟩) ((eK l (aec pre)).length+1) c')).setCell ⟨b0,0,none⟩ (.int .i64 (q/r))).heap.size:=by
  have:=zF.size
  simp[World.setCell]at *
  omega
 refine⟨⟨k1,k2⟩,⟨UD,?_⟩,⟨UD,fun k h1 h2=>Ft k (by omega) (by omega) (by omega) (fun e=>by have:=hlt k e;omega)⟩,?_,⟨_,k5,?_⟩,?_,by omega⟩
 ·intro k o' hk hko hc;refine(Ft k (Array.getElem?_eq_some_iff.1 hko).1 (by omega) (by omega) (fun e=>?_)).trans hko
  rcases World.ownsRow.lt aP k e with⟨_,_⟩
  rcases aP.2 with⟨rfl,_⟩ | ⟨gg,cap,cur,rfl,_,zJ,_⟩
  ·simp[Value.ownBlock]at e
  ·simp only[Value.ownBlock,Option.some.injEq]at e;subst e;rw[zJ]at hko;cases hko;simp[Obj.isCells]at hc
 ·rw[Ad,Kj,hq,hr];exact k4
 ·rw[Ad,Kk,hq,hr];exact o4
 ·refine hB.trans ⟨?_,?_,?_,UD,fun k hk=>Ft k (by have:=hB.size;omega) (by omega) (by omega) (fun e=>by have:=hlt k e;omega)⟩
  ·exact zF.os
  ·exact zF.tape
  ·exact zF.output
theorem Gc (n:Nat) (hn:4<=n) (s l:Int) (h0:0<=l) (h1:l<=999999999999) (w:World):
  CallsIn Fence.wide n Tryz.prog 110 #[.int .i64 s,.int .i64 l] w fun e W'=>∃v,e=.returned v/\Own W' w.heap.size v (kR l (aH s).reverse::(eK l (aH s).reverse).reverse)/\Below w.heap.size w W':=by
 have kz:1<=n:=by omega
 have hl3:=Gb s;refine callsIn_of_wp_marks Tryz.func110 rfl trivial ?_ rfl
 simp only[Tryz.ntmps110,List.size_toArray,List.length_cons,List.length_nil,Nat.reduceAdd,Nat.reduceSub,Array.replicate_succ,Array.replicate_zero,List.push_toArray,List.append_toArray,List.nil_append,List.cons_append]
 gi_wp2_with fail
 refine⟨trivial,(callsIn_wide.2 (bY _ _)).mono ?_⟩;rintro e w1 ⟨u,rfl,ho,ay⟩
 obtain⟨A,c,hu,uy,LM⟩:∃A c,u=.slice A (aH s).length c/\(aH s).length<=c/\c<=maxLen:=by obtain⟨A,c,h1,h2,h3,_⟩:=ho.ints;exact⟨A,c,h1,h2,h3⟩
 subst hu
 have bL:Boxed w1 w.heap.size 3 (.int .i64 l):=(ay.block w.heap.size (by simp;omega)).trans ((Boxed.new w 3 (.int .i64 l)).alloc _)
 have bO:Boxed w1 (w.heap.size+1) 25 (.slice none 0 0):=by
  have:=Boxed.new (w.alloc (.cells #[.int .i64 l] 3)) 25 (.slice none 0 0)
  rw[World.size_alloc]at this;exact(ay.block (w.heap.size+1) (by simp)).trans this
 have hB0:Below w.heap.size w w1:=(((Below.refl _ w).alloc (Nat.le_refl _) _).alloc (by simp) _).trans (ay.mono (by simp;omega))
 have eP:w.heap.size+2<=w1.heap.size:=by have:=ay.size;simp at this;omega
 have Qa:∀k,(Value.slice A (aH s).length c).ownBlock=some k->k<w1.heap.size:=fun k hk=>(World.ownsRow.lt ho k hk).2
 have Ho:=zh (ho.mono (show w.heap.size+2<=_ by simp))
 have HbL:=zh bL;have HbO:=zh bO;have HB0:=zh hB0;have Hub:=zh Qa;clear ho bL bO hB0 ay Qa
 gi_wp2_with (refine⟨trivial,?_⟩;gi_at_call 176;refine(Yv Fence.wide (n-1) trivial rfl _ _ _ _).mono ?_;rintro e w' ⟨rfl,rfl⟩)
 have CH:(w1.alloc (.cells #[.slice A (aH s).length c] 25)).heap.size=w1.heap.size+1:=by simp
 have hbW:Below w1.heap.size w1 (w1.alloc (.cells #[.slice A (aH s).length c] 25)):=am _ _
 refine wpIn_rangeFunc_ownG rfl kz (gf:=215) (lb:=#[.pointer (some ⟨w1.heap.size,0,none⟩)]) rfl trivial (enters_of Tryz.func215 (by kernel_rfl) rfl)
  (Nj Fence.wide (n-1) trivial rfl (by omega) w1.heap.size (w.heap.size+2) (w1.heap.size+1) _ (aH s) (Ae s) (Ga s) (by omega) (w1.alloc (.cells #[.slice A (aH s).length c] 25)) (by omega) (by omega) (by simp)
   (by simp) (Ho.out.keep hbW) (fun k hk=>by have:=Hub.out k hk;omega)) fp.t (fp.b (by simp)) (Below.refl _ _) (fun _=>rfl)
  (UB l w.heap.size (w1.heap.size+1) w)
  (fun _ _ _=>False)
  (Ni l w.heap.size (w1.heap.size+1) w (Nat.le_refl _) _ (by simp;omega))
  (fun _ _ _ _ _ hs _ _=>hs)
  ⟨HbL.out.alloc _,⟨_,HbO.out.alloc _,bH _ _⟩,HB0.out.trans (hbW.mono (by omega)),by simp⟩
  (fun x => { tmps:=#[.int .i64 s,.int .i64 l,undef,.pointer (some ⟨w.heap.size,0,none⟩),.slice none 0 0,.pointer (some ⟨w.heap.size+1,0,none⟩),undef,.int .i64 x.1.2,.int .i64 s,.slice A (aH s).length c,.func (.func 215) #[] #[.pointer (some ⟨w1.heap.size,0,none⟩)],.int .i64 (x.1.1:Int),.int .i64 x.1.2,undef,undef,undef,undef,undef,undef,undef,undef,undef,undef,undef,undef,undef,undef,undef,undef],defers:=[] }) ?assign ?body ?done ?stop
 case assign=>
  intro l x W K hK;unfold QM
  gi_wp2
  exact hK
 case body=>
  rintro lr pre x W ⟨ay,⟨v,bj,aP⟩,hB,Yx⟩ hlt;have hx:=x.2
  have qH:(eK l (aec pre)).length<=3:=by rw[Dx,Nh];omega
  obtain⟨nZ,oC⟩:=QN l (aec pre) h0 (Ng pre);obtain⟨r,hr⟩:∃r,x.1.2=r:=⟨_,rfl⟩
  rw[hr]at hx ⊢;obtain⟨q,hq⟩:∃q,kR l (aec pre)=q:=⟨_,rfl⟩
  rw[hq]at nZ oC ay
  obtain⟨g',c',w2,dH,sr,Ge,lh⟩:=Yw (w:=(W.alloc (.cells #[.int .i64 (q%r)] 3)).drew) (show Own _ (w1.heap.size+1) v (eK l (aec pre))from(aP.keep (am W _).drew)) (q%r) 25 W.heap.size (by simp) (by omega) (by simp;omega)
  have dS:=ay.cell;have ks:=bj.cell;obtain⟨⟨k1,k2⟩,s1,s2,s3⟩:=Km hr hq (by omega) ay bj aP hB Yx sr Ge;have j6:=k1.cell;have iq:=k2.cell;have hf1:=k1.frozen;have Kn:=k2.frozen;have qf:(W.alloc (Obj.cells #[Value.int IntKind.i64 (q%r)] 3)).cell? ⟨w.heap.size+1,0,none⟩=some v:=(bj.alloc _).cell;have ht:q.tmod r=q%r:=Int.tmod_eq_emod_of_nonneg nZ
  have vq:ri Tryz.prog 25 v (Value.slice (some { block:=W.heap.size,off:=0 }) 1 1) (W.alloc (Obj.cells #[Value.int IntKind.i64 (q%r)] 3)).drew=.ok (.value (Value.slice (some { block:=g',off:=0 }) ((eK l (aec pre)).length+1) c')) w2:=by unfold ri;rw[dH];rfl
  have vr:r≠0:=by omega
  obtain⟨oD,oG⟩:=hx;have s0:=s1;rw[<- CH]at s0;clear dH ay bj aP hB sr Ge lh k1 k2 hq hr s1 CH
  generalize Nk:(eK l (aec pre)).length=pn at *
  gi_wp2
  refine wpIn_region_any (by kernel_rfl) ?_;change wpAnyIn _ _ _ _ _ _ _ _ _ (World.drew _)
  refine wpAnyIn_ready (rs:=[0,1,2]) (by kernel_rfl) (by simp) ?_;refine AllReadyIn.cons rfl (fun K hK=>?_) ?_
  ·go_simp
   refine hK _ _ ?_;clear hK K;refine wpAnyIn_ready (rs:=[1,2]) (by kernel_rfl) (by simp) ?_;refine AllReadyIn.cons rfl (fun K hK=>?_) ?_
   ·go_simp
    refine hK _ _ ?_;clear hK K;refine wpAnyIn_ready (rs:=[2]) (by kernel_rfl) (by simp) ?_;refine AllReadyIn.cons rfl (fun K hK=>?_) AllReadyIn.nil
    go_simp
    refine hK _ _ ?_;clear hK K;refine wpAnyIn_ready (rs:=[3]) (by kernel_rfl) (by simp) ?_;refine AllReadyIn.cons rfl (fun K hK=>?_) AllReadyIn.nil
    go_simp
    refine hK _ _ ?_;clear hK K;refine wpAnyIn_ready (rs:=[4]) (by kernel_rfl) (by simp) ?_;refine AllReadyIn.cons rfl (fun K hK=>?_) AllReadyIn.nil
    go_simp
    refine hK _ _ ?_;clear hK K;refine wpAnyIn_ready (rs:=[5]) (by kernel_rfl) (by simp) ?_;refine AllReadyIn.cons rfl (fun K hK=>?_) AllReadyIn.nil
    refine eZ (.tmp 13) (.tmp 17) rfl rfl _ w2 vq ?_;refine hK _ _ ?_;clear hK K;refine wpAnyIn_ready (rs:=[6]) (by kernel_rfl) (by simp) ?_;refine AllReadyIn.cons rfl (fun K hK=>?_) AllReadyIn.nil
    go_simp
    refine hK _ _ ?_;clear hK K;refine wpAnyIn_done (by kernel_rfl) ?_ _
    gi_wp2
    exact⟨s0,s2,s3⟩
   refine AllReadyIn.cons rfl (fun K hK=>?_) AllReadyIn.nil
   go_simp
   refine hK _ _ ?_;clear hK K;refine wpAnyIn_ready (rs:=[1]) (by kernel_rfl) (by simp) ?_;refine AllReadyIn.cons rfl (fun K hK=>?_) AllReadyIn.nil
   go_simp
   refine hK _ _ ?_;clear hK K;refine wpAnyIn_ready (rs:=[3]) (by kernel_rfl) (by simp) ?_;refine AllReadyIn.cons rfl (fun K hK=>?_) AllReadyIn.nil
   go_simp
   refine hK _ _ ?_;clear hK K;refine wpAnyIn_ready (rs:=[4]) (by kernel_rfl) (by simp) ?_;refine AllReadyIn.cons rfl (fun K hK=>?_) AllReadyIn.nil
   go_simp
   refine hK _ _ ?_;clear hK K;refine wpAnyIn_ready (rs:=[5]) (by kernel_rfl) (by simp) ?_;refine AllReadyIn.cons rfl (fun K hK=>?_) AllReadyIn.nil
   refine eZ (.tmp 13) (.tmp 17) rfl rfl _ w2 vq ?_;refine hK _ _ ?_;clear hK K;refine wpAnyIn_ready (rs:=[6]) (by kernel_rfl) (by simp) ?_;refine AllReadyIn.cons rfl (fun K hK=>?_) AllReadyIn.nil
   go_simp
   refine hK _ _ ?_;clear hK K;refine wpAnyIn_done (by kernel_rfl) ?_ _
   gi_wp2
   exact⟨s0,s2,s3⟩
  refine AllReadyIn.cons rfl (fun K hK=>?_) ?_
  ·go_simp
   refine hK _ _ ?_;clear hK K;refine wpAnyIn_ready (rs:=[0,2]) (by kernel_rfl) (by simp) ?_;refine AllReadyIn.cons rfl (fun K hK=>?_) ?_
   ·go_simp
    refine hK _ _ ?_;clear hK K;refine wpAnyIn_ready (rs:=[2]) (by kernel_rfl) (by simp) ?_;refine AllReadyIn.cons rfl (fun K hK=>?_) AllReadyIn.nil
    go_simp
    refine hK _ _ ?_;clear hK K;refine wpAnyIn_ready (rs:=[3]) (by kernel_rfl) (by simp) ?_;refine AllReadyIn.cons rfl (fun K hK=>?_) AllReadyIn.nil
    go_simp
    refine hK _ _ ?_;clear hK K;refine wpAnyIn_ready (rs:=[4]) (by kernel_rfl) (by simp) ?_;refine AllReadyIn.cons rfl (fun K hK=>?_) AllReadyIn.nil
    go_simp
    refine hK _ _ ?_;clear hK K;refine wpAnyIn_ready (rs:=[5]) (by kernel_rfl) (by simp) ?_;refine AllReadyIn.cons rfl (fun K hK=>?_) AllReadyIn.nil
    refine eZ (.tmp 13) (.tmp 17) rfl rfl _ w2 vq ?_;refine hK _ _ ?_;clear hK K;refine wpAnyIn_ready (rs:=[6]) (by kernel_rfl) (by simp) ?_;refine AllReadyIn.cons rfl (fun K hK=>?_) AllReadyIn.nil
    go_simp
    refine hK _ _ ?_;clear hK K;refine wpAnyIn_done (by kernel_rfl) ?_ _
    gi_wp2
    exact⟨s0,s2,s3⟩
   refine AllReadyIn.cons rfl (fun K hK=>?_) AllReadyIn.nil
   go_simp
   refine hK _ _ ?_;clear hK K;refine wpAnyIn_ready (rs:=[0,3]) (by kernel_rfl) (by simp) ?_;refine AllReadyIn.cons rfl (fun K hK=>?_) ?_
   ·go_simp
    refine hK _ _ ?_;clear hK K;refine wpAnyIn_ready (rs:=[3]) (by kernel_rfl) (by simp) ?_;refine AllReadyIn.cons rfl (fun K hK=>?_) AllReadyIn.nil
    go_simp
    refine hK _ _ ?_;clear hK K;refine wpAnyIn_ready (rs:=[4]) (by kernel_rfl) (by simp) ?_;refine AllReadyIn.cons rfl (fun K hK=>?_) AllReadyIn.nil
    go_simp
    refine hK _ _ ?_;clear hK K;refine wpAnyIn_ready (rs:=[5]) (by kernel_rfl) (by simp) ?_;refine AllReadyIn.cons rfl (fun K hK=>?_) AllReadyIn.nil
    refine eZ (.tmp 13) (.tmp 17) rfl rfl _ w2 vq ?_;refine hK _ _ ?_;clear hK K;refine wpAnyIn_ready (rs:=[6]) (by kernel_rfl) (by simp) ?_;refine AllReadyIn.cons rfl (fun K hK=>?_) AllReadyIn.nil
    go_simp
    refine hK _ _ ?_;clear hK K;refine wpAnyIn_done (by kernel_rfl) ?_ _
    gi_wp2
    exact⟨s0,s2,s3⟩
   refine AllReadyIn.cons rfl (fun K hK=>?_) AllReadyIn.nil
   go_simp
   refine hK _ _ ?_;clear hK K;refine wpAnyIn_ready (rs:=[0,4]) (by kernel_rfl) (by simp) ?_;refine AllReadyIn.cons rfl (fun K hK=>?_) ?_
   ·go_simp
    refine hK _ _ ?_;clear hK K;refine wpAnyIn_ready (rs:=[4]) (by kernel_rfl) (by simp) ?_;refine AllReadyIn.cons rfl (fun K hK=>?_) AllReadyIn.nil
    go_simp
    refine hK _ _ ?_;clear hK K;refine wpAnyIn_ready (rs:=[5]) (by kernel_rfl) (by simp) ?_;refine AllReadyIn.cons rfl (fun K hK=>?_) AllReadyIn.nil
    refine eZ (.tmp 13) (.tmp 17) rfl rfl _ w2 vq ?_;refine hK _ _ ?_;clear hK K;refine wpAnyIn_ready (rs:=[6]) (by kernel_rfl) (by simp) ?_;refine AllReadyIn.cons rfl (fun K hK=>?_) AllReadyIn.nil
    go_simp
    refine hK _ _ ?_;clear hK K;refine wpAnyIn_done (by kernel_rfl) ?_ _
    gi_wp2
    exact⟨s0,s2,s3⟩
   refine AllReadyIn.cons rfl (fun K hK=>?_) AllReadyIn.nil
   go_simp
   refine hK _ _ ?_;clear hK K;refine wpAnyIn_ready (rs:=[0]) (by kernel_rfl) (by simp) ?_;refine AllReadyIn.cons rfl (fun K hK=>?_) AllReadyIn.nil
   go_simp
   refine hK _ _ ?_;clear hK K;refine wpAnyIn_ready (rs:=[5]) (by kernel_rfl) (by simp) ?_;refine AllReadyIn.cons rfl (fun K hK=>?_) AllReadyIn.nil
   refine eZ (.tmp 13) (.tmp 17) rfl rfl _ w2 vq ?_;refine hK _ _ ?_;clear hK K;refine wpAnyIn_ready (rs:=[6]) (by kernel_rfl) (by simp) ?_;refine AllReadyIn.cons rfl (fun K hK=>?_) AllReadyIn.nil
   go_simp
   refine hK _ _ ?_;clear hK K;refine wpAnyIn_done (by kernel_rfl) ?_ _
   gi_wp2
   exact⟨s0,s2,s3⟩
  refine AllReadyIn.cons rfl (fun K hK=>?_) AllReadyIn.nil
  go_simp
  refine hK _ _ ?_;clear hK K;refine wpAnyIn_ready (rs:=[0,1]) (by kernel_rfl) (by simp) ?_;refine AllReadyIn.cons rfl (fun K hK=>?_) ?_
  ·go_simp
   refine hK _ _ ?_;clear hK K;refine wpAnyIn_ready (rs:=[1]) (by kernel_rfl) (by simp) ?_;refine AllReadyIn.cons rfl (fun K hK=>?_) AllReadyIn.nil
   go_simp
   refine hK _ _ ?_;clear hK K;refine wpAnyIn_ready (rs:=[3]) (by kernel_rfl) (by simp) ?_;refine AllReadyIn.cons rfl (fun K hK=>?_) AllReadyIn.nil
   go_simp
   refine hK _ _ ?_;clear hK K;refine wpAnyIn_ready (rs:=[4]) (by kernel_rfl) (by simp) ?_;refine AllReadyIn.cons rfl (fun K hK=>?_) AllReadyIn.nil
   go_simp
   refine hK _ _ ?_;clear hK K;refine wpAnyIn_ready (rs:=[5]) (by kernel_rfl) (by simp) ?_;refine AllReadyIn.cons rfl (fun K hK=>?_) AllReadyIn.nil
   refine eZ (.tmp 13) (.tmp 17) rfl rfl _ w2 vq ?_;refine hK _ _ ?_;clear hK K;refine wpAnyIn_ready (rs:=[6]) (by kernel_rfl) (by simp) ?_;refine AllReadyIn.cons rfl (fun K hK=>?_) AllReadyIn.nil
   go_simp
   refine hK _ _ ?_;clear hK K;refine wpAnyIn_done (by kernel_rfl) ?_ _
   gi_wp2
   exact⟨s0,s2,s3⟩
  refine AllReadyIn.cons rfl (fun K hK=>?_) AllReadyIn.nil
  go_simp
  refine hK _ _ ?_;clear hK K;refine wpAnyIn_ready (rs:=[0,3]) (by kernel_rfl) (by simp) ?_;refine AllReadyIn.cons rfl (fun K hK=>?_) ?_
  ·go_simp
   refine hK _ _ ?_;clear hK K;refine wpAnyIn_ready (rs:=[3]) (by kernel_rfl) (by simp) ?_;refine AllReadyIn.cons rfl (fun K hK=>?_) AllReadyIn.nil
   go_simp
   refine hK _ _ ?_;clear hK K;refine wpAnyIn_ready (rs:=[4]) (by kernel_rfl) (by simp) ?_;refine AllReadyIn.cons rfl (fun K hK=>?_) AllReadyIn.nil
   go_simp
   refine hK _ _ ?_;clear hK K;refine wpAnyIn_ready (rs:=[5]) (by kernel_rfl) (by simp) ?_;refine AllReadyIn.cons rfl (fun K hK=>?_) AllReadyIn.nil
   refine eZ (.tmp 13) (.tmp 17) rfl rfl _ w2 vq ?_;refine hK _ _ ?_;clear hK K;refine wpAnyIn_ready (rs:=[6]) (by kernel_rfl) (by simp) ?_;refine AllReadyIn.cons rfl (fun K hK=>?_) AllReadyIn.nil
   go_simp
   refine hK _ _ ?_;clear hK K;refine wpAnyIn_done (by kernel_rfl) ?_ _
   gi_wp2
   exact⟨s0,s2,s3⟩
  refine AllReadyIn.cons rfl (fun K hK=>?_) AllReadyIn.nil
  go_simp
  refine hK _ _ ?_;clear hK K;refine wpAnyIn_ready (rs:=[0,4]) (by kernel_rfl) (by simp) ?_;refine AllReadyIn.cons rfl (fun K hK=>?_) ?_
  ·go_simp
   refine hK _ _ ?_;clear hK K;refine wpAnyIn_ready (rs:=[4]) (by kernel_rfl) (by simp) ?_;refine AllReadyIn.cons rfl (fun K hK=>?_) AllReadyIn.nil
   go_simp
   refine hK _ _ ?_;clear hK K;refine wpAnyIn_ready (rs:=[5]) (by kernel_rfl) (by simp) ?_;refine AllReadyIn.cons rfl (fun K hK=>?_) AllReadyIn.nil
   refine eZ (.tmp 13) (.tmp 17) rfl rfl _ w2 vq ?_;refine hK _ _ ?_;clear hK K;refine wpAnyIn_ready (rs:=[6]) (by kernel_rfl) (by simp) ?_;refine AllReadyIn.cons rfl (fun K hK=>?_) AllReadyIn.nil
   go_simp
   refine hK _ _ ?_;clear hK K;refine wpAnyIn_done (by kernel_rfl) ?_ _
   gi_wp2
   exact⟨s0,s2,s3⟩
  refine AllReadyIn.cons rfl (fun K hK=>?_) AllReadyIn.nil
  go_simp
  refine hK _ _ ?_;clear hK K;refine wpAnyIn_ready (rs:=[0]) (by kernel_rfl) (by simp) ?_;refine AllReadyIn.cons rfl (fun K hK=>?_) AllReadyIn.nil
  go_simp
  refine hK _ _ ?_;clear hK K;refine wpAnyIn_ready (rs:=[5]) (by kernel_rfl) (by simp) ?_;refine AllReadyIn.cons rfl (fun K hK=>?_) AllReadyIn.nil
  refine eZ (.tmp 13) (.tmp 17) rfl rfl _ w2 vq ?_;refine hK _ _ ?_;clear hK K;refine wpAnyIn_ready (rs:=[6]) (by kernel_rfl) (by simp) ?_;refine AllReadyIn.cons rfl (fun K hK=>?_) AllReadyIn.nil
  go_simp
  refine hK _ _ ?_;clear hK K;refine wpAnyIn_done (by kernel_rfl) ?_ _
  gi_wp2
  exact⟨s0,s2,s3⟩
 case done=>
  rintro D ys W hD rfl ⟨ay,⟨v,bj,aP⟩,hB,Yx⟩ hK;rw[Kl]at ay aP
  have qH:(eK l (aH s).reverse).length<=3:=by rw[Dx,List.length_reverse];omega
  obtain⟨q,hq⟩:∃q,kR l (aH s).reverse=q:=⟨_,rfl⟩
  rw[hq]at ay;have Hq:=zh hq
  obtain⟨g',c',w2,dH,sr,Ge,lh⟩:=Yw (w:=W.alloc (.cells #[.int .i64 q] 3)) (aP.keep (am W _)) q 25 W.heap.size (by simp) (by omega) (by simp;omega)
  have vq:ri Tryz.prog 25 v (Value.slice (some { block:=W.heap.size,off:=0 }) 1 1) (W.alloc (Obj.cells #[Value.int IntKind.i64 q] 3))=.ok (.value (Value.slice (some { block:=g',off:=0 }) ((eK l (aH s).reverse).length+1) c')) w2:=by unfold ri;rw[dH];rfl
  have hlt:∀k,v.ownBlock=some k->w1.heap.size+1<=k:=fun k hk=>(World.ownsRow.lt aP k hk).1
  have abO:D<W.heap.size:=(Array.getElem?_eq_some_iff.1 hK).1
  have hDv:some D≠v.ownBlock:=by
   intro e;rcases aP.2 with⟨rfl,_⟩ | ⟨gg,cap,cur,rfl,_,zJ,_⟩
   ·simp[Value.ownBlock]at e
   ·simp only[Value.ownBlock,Option.some.injEq]at e;subst e
    rw[zJ]at hK;cases hK
  have hDg:D≠g':=by
   rcases lh with e | e
   ·intro h;subst h;exact hDv e
   ·simp at e;omega
  have UC:=sr.blk
  have k2:Boxed w2 (w.heap.size+1) 25 v:=(bj.alloc _).kept Ge (fun e=>by have:=hlt _ e.symm;omega)
  have hK2:w2.heap[D]?=some (.deferred (some [])):=(Ge.block D (by simp;omega) hDv).trans ((Below.heap_alloc W _ D abO).trans hK)
  have BK:Below w.heap.size w w2:=hB.trans (((am W (.cells #[.int .i64 q] 3)).mono (by omega)).grown Ge (by simp;omega) (fun k e=>by have:=hlt k e;omega))
  have dS:=ay.cell;have ks:=bj.cell;have iq:=k2.cell;have Kn:=k2.frozen;simp only[CH]at hD;have k3:=k2.set (.slice (some ⟨g',0,none⟩) ((eK l (aH s).reverse).length+1) c')
  have hK3:(w2.setCell ⟨w.heap.size+1,0,none⟩ (.slice (some ⟨g',0,none⟩) ((eK l (aH s).reverse).length+1) c')).heap[D]?=some (.deferred (some [])):=(Below.heap_setCell _ _ _ D (by simp;omega)).trans hK2
  have o3:Own (w2.setCell ⟨w.heap.size+1,0,none⟩ (.slice (some ⟨g',0,none⟩) ((eK l (aH s).reverse).length+1) c')) (w1.heap.size+1) (.slice (some ⟨g',0,none⟩) ((eK l (aH s).reverse).length+1) c') (eK l (aH s).reverse++[q]):=
   World.ownsRow.kept sr (grownBy_setCell' w2 (w.heap.size+1) _) (.inr (by simp[Value.ownBlock];omega))
  have QO:Below w.heap.size w (w2.setCell ⟨w.heap.size+1,0,none⟩ (.slice (some ⟨g',0,none⟩) ((eK l (aH s).reverse).length+1) c')):=BK.setCell (by simp) _;have H3:=zh k3;have HK3:=zh hK3;have HO3:=zh o3;have Qb:=zh QO;have Hgb:=zh UC;have hdg:=hDg;have rj:w.heap.size+1<w2.heap.size:=k2.lt;clear k3 hK3 o3 QO dH sr Ge lh hK2 BK hK aP hB ay bj k2 hlt hDv hDg hq UC
  generalize Nk:(eK l (aH s).reverse).length+1=pn at *
  have Hpn:=zh Nk;clear Nk
  gi_wp2_with (gi_at_builtin;refine BL (.tmp 22) (.tmp 24) rfl rfl _ w2 vq ?_)
  refine⟨trivial,(callsIn_wide.2 (CY _ _ _ _ HO3.out)).mono ?_⟩;rintro e w4 ⟨rfl,oH,y6⟩;have UC:=Hgb.out
  have k4:=(H3.out.kept y6 (by simp[Value.ownBlock];omega)).cell
  have hK4:w4.heap[D]?=some (.deferred (some [])):=(y6.block D (by simp[World.setCell];have:=(Array.getElem?_eq_some_iff.1 HK3.out).1;simpa[World.setCell]using this) (by simp[Value.ownBlock];omega)).trans HK3.out
  have Yy:Below w.heap.size w w4:=Qb.out.grown y6 Qb.out.size (fun k e=>by simp[Value.ownBlock]at e;omega)
  have Yz:=zh oH;have MQ:=zh Yy;have YA:=zh hK4;clear oH y6 Yy hK4 UC
  gi_wp2
  refine⟨by simp,.inl ⟨_,_,rfl,run_takeDeferred YA.out,?_⟩⟩;refine⟨_,results_tmp rfl _ _ _,_,rfl,?_,MQ.out.trans (belowK_b (w:=w) (Nat.le_refl _) w4 D _ _ (by omega) YA.out rfl rfl)⟩
  have:=F9 Yz.out (.deferred none) YA.out rfl
  rw[List.reverse_append,<- Hq.out]at this;exact this.mono (by omega)
 case stop=>
  rintro D c pre W _ _ h _;exact h.elim
def eu (s l:Int):List Int:=kR l (aH s).reverse::(eK l (aH s).reverse).reverse
theorem j_ (s l:Int) (h0:0<=l) (h1:l<=999999999999) (w:World):
  Calls Tryz.prog 110 #[.int .i64 s,.int .i64 l] w fun e W'=>∃v,e=.returned v/\Own W' w.heap.size v (eu s l)/\Below w.heap.size w W':=
 callsIn_wide.1 (Gc 4 (Nat.le_refl _) s l h0 h1 w)
theorem Nl (l:Int) (h0:0<=l) (h1:l<=999999999999) (w:World):
  Calls Tryz.prog 217 #[.int .i64 5,.int .i64 l] w fun e w'=>∃u,e=.returned u/\Own w' w.heap.size u (eu 5 l)/\Below w.heap.size w w':=by
 have ir:=zh (show eu 5 l=[l/2/10/100,(l/2/10)%100,(l/2)%10,l%2]by simp[eu,aH,kR,eK])
 go_enter Tryz.func217,Tryz.ntmps217
 go_wp2_with fail;refine(fo _ _).mono ?_;rintro e w1 ⟨u,rfl,ho,ay⟩;obtain⟨g,cc,rfl,hg,lh,uy,d9⟩:=Own.lit (show Own w1 _ u (100::[10,2])from ho);have r0:=d9 0 100 rfl;have r1:=d9 1 10 rfl;have r2:=d9 2 2 rfl;clear d9;have eD:=zh ay;clear ho ay
 go_wp2_with (at_make;refine jp _ rfl _ _ rfl _ _ 4 rfl rfl rfl rfl (by omega) ?_;intro w2 dl bj d8)
 have eX:=zh dl;have vc:=zh bj;have c0:=dl.cell (k:=0) (x:=0) rfl;have f0:=dl.free 0;have c1:=dl.cell (k:=1) (x:=0) rfl;have f1:=dl.free 1;have c2:=dl.cell (k:=2) (x:=0) rfl;have f2:=dl.free 2;have c3:=dl.cell (k:=3) (x:=0) rfl;have f3:=dl.free 3;have q0:=bc bj r0;have q1:=bc bj r1;have q2:=bc bj r2;clear dl bj r0 r1 r2;go_wp2;refine wp_loop_rounds 4 ?_
 iterate 4
  rw[rounds_succ];go_wp2
 go_ret;refine⟨_,rfl,?_,?_⟩
 ·rw[ir.out];exact Own.mono ((((eX.out.set (k:=3) (l%2)).set (k:=2) ((l/2)%10)).set (k:=1) ((l/2/10)%100)).set (k:=0) (l/2/10/100)) eD.out.size
 ·exact(((((eD.out.trans (vc.out.mono eD.out.size)).setCell eD.out.size _).setCell eD.out.size _).setCell eD.out.size _).setCell eD.out.size _)
theorem Nn (l:Int) (h0:0<=l) (h1:l<=999999999999) (w:World):
  Calls Tryz.prog 217 #[.int .i64 4,.int .i64 l] w fun e w'=>∃u,e=.returned u/\Own w' w.heap.size u (eu 4 l)/\Below w.heap.size w w':=by
 have ir:=zh (show eu 4 l=[l/100,l%100]by simp[eu,aH,kR,eK])
 go_enter Tryz.func217,Tryz.ntmps217
 go_wp2_with fail;refine(fo _ _).mono ?_;rintro e w1 ⟨u,rfl,ho,ay⟩;obtain⟨g,cc,rfl,hg,lh,uy,d9⟩:=Own.lit (show Own w1 _ u (100::[])from ho);have r0:=d9 0 100 rfl;clear d9;have eD:=zh ay;clear ho ay
 go_wp2_with (at_make;refine jp _ rfl _ _ rfl _ _ 2 rfl rfl rfl rfl (by omega) ?_;intro w2 dl bj d8)
 have eX:=zh dl;have vc:=zh bj;have c0:=dl.cell (k:=0) (x:=0) rfl;have f0:=dl.free 0;have c1:=dl.cell (k:=1) (x:=0) rfl;have f1:=dl.free 1;have q0:=bc bj r0;clear dl bj r0;go_wp2;refine wp_loop_rounds 2 ?_
 iterate 2
  rw[rounds_succ];go_wp2
 go_ret;refine⟨_,rfl,?_,?_⟩
 ·rw[ir.out];exact Own.mono ((eX.out.set (k:=1) (l%100)).set (k:=0) (l/100)) eD.out.size
 ·exact(((eD.out.trans (vc.out.mono eD.out.size)).setCell eD.out.size _).setCell eD.out.size _)
theorem No (l:Int) (s:Int) (hs:s≠4) (d_:s≠5) (_:0<=l) (_:l<=999999999999) (w:World):
  Calls Tryz.prog 217 #[.int .i64 s,.int .i64 l] w fun e w'=>∃u,e=.returned u/\Own w' w.heap.size u (eu s l)/\Below w.heap.size w w':=by
 have ir:=zh (show eu s l=[l]by simp[eu,aH,kR,eK,hs,d_])
 go_enter Tryz.func217,Tryz.ntmps217
 go_wp2_with fail;refine(fo _ _).mono ?_;rintro e w1 ⟨u,rfl,ho,ay⟩
 obtain⟨A,cc,rfl⟩:=Own.aeO (show Own w1 _ u []by have:=ho;rwa [show aH s=[]by simp[aH,hs,d_]]at this)
 have eD:=zh ay;clear ho ay
 go_wp2_with (at_make;refine jp _ rfl _ _ rfl _ _ 1 rfl rfl rfl rfl (by omega) ?_;intro w2 dl bj d8)
 have eX:=zh dl;have vc:=zh bj;have c0:=dl.cell (k:=0) (x:=0) rfl;have f0:=dl.free 0;clear dl bj;go_wp2;refine wp_loop_rounds 1 ?_
 iterate 1
  rw[rounds_succ];go_wp2
 go_ret;refine⟨_,rfl,?_,?_⟩
 ·rw[ir.out];exact Own.mono (eX.out.set (k:=0) (l)) eD.out.size
 ·exact((eD.out.trans (vc.out.mono eD.out.size)).setCell eD.out.size _)
theorem l9 (s l:Int) (h0:0<=l) (h1:l<=999999999999) (w:World):
  Calls Tryz.prog 217 #[.int .i64 s,.int .i64 l] w fun e w'=>∃u,e=.returned u/\Own w' w.heap.size u (eu s l)/\Below w.heap.size w w':=by
 by_cases h5:s=5
 ·subst h5;exact Nl l h0 h1 w
 ·by_cases h4:s=4
  ·subst h4;exact Nn l h0 h1 w
  ·exact No l s h4 h5 h0 h1 w
end Go.Proofs.YtgmdpppljkmabaaGreat
