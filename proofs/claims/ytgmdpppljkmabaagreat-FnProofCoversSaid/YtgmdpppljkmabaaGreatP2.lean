/- Parts of the proof: walks of functions and plain laws. -/
import Derived.Test.YtgmdpppljkmabaaGreatP0
import Derived.Test.YtgmdpppljkmabaaGreatP1
import Derived.Deep.AppendLies
import Derived.Deep.RegionHeld3
import Derived.Deep.SlicePairs
import Derived.Deep.Slices
import Derived.Lib.SmallJoins
set_option maxRecDepth 100000
set_option maxHeartbeats 16000000
namespace Go.Proofs.YtgmdpppljkmabaaGreat
open Go Go.RowKit
structure aX (S:List Nat) (w w':World):Prop where
 os:w'.os=w.os
 tape:w'.tape=w.tape
 output:w'.output=w.output
 size:w.heap.size<=w'.heap.size
 block:∀k,k<w.heap.size->k∉S->w'.heap[k]?=w.heap[k]?
theorem aX.refl (S:List Nat) (w:World):aX S w w:=⟨rfl,rfl,rfl,Nat.le_refl _,fun _ _ _=>rfl⟩
theorem aX.trans {S:List Nat} {a b c:World} (h:aX S a b) (k:aX S b c):aX S a c:=
 ⟨k.os.trans h.os,k.tape.trans h.tape,k.output.trans h.output,Nat.le_trans h.size k.size,fun i hi hn=>(k.block i (Nat.lt_of_lt_of_le hi h.size) hn).trans (h.block i hi hn)⟩
theorem aX.mono {S T:List Nat} {a b:World} (h:aX S a b) (hs:∀k∈S,k∈T):aX T a b:=⟨h.os,h.tape,h.output,h.size,fun i hi hn=>h.block i hi (fun e=>hn (hs i e))⟩
theorem aX.below {S:List Nat} {a b:World} (h:aX S a b) (B:Nat) (hB:B<=a.heap.size) (hs:∀k∈S,B<=k):Below B a b:=⟨h.os,h.tape,h.output,h.size,fun i hi=>h.block i (by omega) (fun e=>by have:=hs i e;omega)⟩
theorem aX.acH {S:List Nat} {a b:World} (h:Below a.heap.size a b):aX S a b:=⟨h.os,h.tape,h.output,h.size,fun i hi _=>h.block i hi⟩
theorem aX.acq {a b:World} {row:Option Nat} (h:a.grownBy b row):aX row.toList a b:=⟨h.os,h.tape,h.output,h.size,fun i hi hn=>h.block i hi (fun e=>hn (by rw[<- e];simp))⟩
theorem aX.cell {S:List Nat} {a b:World} (h:aX S a b) {p:Addr} {u:Value} (hp:p.block∉S) (hc:a.cell? p=some u):b.cell? p=some u:=
 (World.cell?_of_block (h.block p.block (World.block_lt_of_cell? a _ hc) hp)).trans hc
theorem aX.setCell {S:List Nat} {a w:World} (h:aX S a w) {p:Addr} (hp:p.block∈S\/a.heap.size<=p.block) (u:Value):aX S a (w.setCell p u):=
 ⟨h.os,h.tape,h.output,by simpa[World.setCell]using h.size,fun i hi hn=>(Below.heap_setCell w p u i (by
  rintro rfl;rcases hp with hp | hp
  ·exact hn hp
  ·omega)).trans (h.block i hi hn)⟩
theorem aX.alloc {S:List Nat} {a w:World} (h:aX S a w) (o:Obj):aX S a (w.alloc o):=⟨h.os,h.tape,h.output,Nat.le_trans h.size (by simp),fun i hi hn=>(Below.heap_alloc w o i (Nat.lt_of_lt_of_le hi h.size)).trans (h.block i hi hn)⟩
structure fh {β:Type} (R:World->Nat->Value->β->List Nat->Prop):Prop where
 aco:∀ {w w':World} {base:Nat} {v:Value} {x:β} {S:List Nat},R w base v x S->(∀k∈S,w'.heap[k]?=w.heap[k]?)->R w' base v x S
 range:∀ {w:World} {base:Nat} {v:Value} {x:β} {S:List Nat},R w base v x S->∀k∈S,base<=k/\k<w.heap.size
 nodup:∀ {w:World} {base:Nat} {v:Value} {x:β} {S:List Nat},R w base v x S->S.Nodup
 mono:∀ {w:World} {base iI:Nat} {v:Value} {x:β} {S:List Nat},R w base v x S->iI<=base->R w iI v x S
 one:∀ {w:World} {base:Nat} {v:Value} {x:β} {S:List Nat},R w base v x S->∃A n c,v=.slice A n c
section
variable {β : Type} {R : World → Nat → Value → β → List Nat → Prop}
theorem fh.keep (L:fh R) {w w':World} {base:Nat} {v:Value} {x:β} {S:List Nat} (h:R w base v x S) (hb:Below w.heap.size w w'):R w' base v x S:=L.aco h fun k hk=>hb.block k (L.range h k hk).2
theorem fh.only (L:fh R) {w w':World} {base:Nat} {v:Value} {x:β} {S T:List Nat} (h:R w base v x S) (hb:aX T w w') (hd:∀k∈S,k∉T):R w' base v x S:=L.aco h fun k hk=>hb.block k (L.range h k hk).2 (hd k hk)
end
def Jg {α:Type} (e:TypeId) (size:Nat) (enc:α->List Value) (w:World) (base:Nat) (v:Value) (xs:List α) (S:List Nat):Prop:=
 w.ownsRow base e size v xs.length (xs.flatMap enc)/\S=v.ownBlock.toList
theorem aG {w w':World} {base:Nat} {e:TypeId} {size:Nat} {v:Value} {n:Nat} {xs:List Value} (h:w.ownsRow base e size v n xs) (hs:∀k∈v.ownBlock.toList,w'.heap[k]?=w.heap[k]?):w'.ownsRow base e size v n xs:=by
 refine⟨h.1,h.2.imp id ?_⟩;rintro⟨g,cap,cur,rfl,h2,h3,h4⟩;exact⟨g,cap,cur,rfl,h2,(hs g (by simp[Value.ownBlock])).trans h3,h4⟩
theorem j1 {w:World} {base iI:Nat} {e:TypeId} {size:Nat} {v:Value} {n:Nat} {xs:List Value} (h:w.ownsRow base e size v n xs) (hb:iI<=base):w.ownsRow iI e size v n xs:=
 ⟨h.1,h.2.imp id fun ⟨g,cap,cur,h1,h2,h3⟩=>⟨g,cap,cur,h1,Nat.le_trans hb h2,h3⟩⟩
theorem mK {w:World} {base:Nat} {e:TypeId} {size:Nat} {v:Value} {n:Nat} {xs:List Value} (h:w.ownsRow base e size v n xs):∃A m c,v=.slice A m c:=by
 rcases h.2 with⟨rfl,_⟩ | ⟨g,cap,cur,rfl,_⟩
 ·exact⟨_,_,_,rfl⟩
 ·exact⟨_,_,_,rfl⟩
theorem Ag {α:Type} (e:TypeId) (size:Nat) (enc:α->List Value):fh (Jg (α:=α) e size enc) where
 aco:=fun ⟨h,hS⟩ hs=>⟨aG h (fun k hk=>hs k (by rw[hS];exact hk)),hS⟩
 range:=fun ⟨h,hS⟩ k hk=>World.ownsRow.lt h k (by rw[hS]at hk;simpa using hk)
 nodup:=fun {_ _ v _ _} ⟨_,hS⟩=>by rw[hS];cases v.ownBlock <;> simp
 mono:=fun ⟨h,hS⟩ hb=>⟨j1 h hb,hS⟩
 one:=fun ⟨h,_⟩=>mK h
def bu {β:Type} (e:TypeId) (R:World->Nat->Value->β->List Nat->Prop) (w:World) (base:Nat) (v:Value) (xs:List β) (S:List Nat):Prop:=
 ∃(vs:List Value) (Ss:List (List Nat)),w.ownsRow base e 1 v xs.length vs/\Ss.length=xs.length /\
  (∀(k:Nat) u x T,vs[k]?=some u->xs[k]?=some x->Ss[k]?=some T->R w base u x T)/\S=v.ownBlock.toList++Ss.flatten/\S.Nodup
theorem jv {β:Type} {R:World->Nat->Value->β->List Nat->Prop} (e:TypeId) (L:fh R):fh (bu e R) where
 aco:=fun {w w' base v xs S} h hs=>by
  obtain⟨vs,Ss,h1,h2,h3,h4,h5⟩:=h
  refine⟨vs,Ss,aG h1 (fun k hk=>hs k (by rw[h4];simp[hk])),h2,fun k u x T hu hx hT=>L.aco (h3 k u x T hu hx hT) (fun j hj=>hs j ?_),h4,h5⟩
  rw[h4];exact List.mem_append_right _ (List.mem_flatten.2 ⟨T,List.mem_of_getElem? hT,hj⟩)
 range:=fun {w base v xs S} h k hk=>by
  obtain⟨vs,Ss,h1,h2,h3,h4,h5⟩:=h;rw[h4]at hk;rcases List.mem_append.1 hk with hk | hk
  ·exact World.ownsRow.lt h1 k (by simpa using hk)
  ·obtain⟨T,hT,hkT⟩:=List.mem_flatten.1 hk;obtain⟨j,hj⟩:=List.mem_iff_getElem?.1 hT;have az:j<Ss.length:=al hj;have CF:vs.length=xs.length:=by simpa using h1.1
   obtain⟨u,hu⟩:=aA vs j (by omega);obtain⟨x,hx⟩:=aA xs j (by omega);exact L.range (h3 j u x T hu hx hj) k hkT
 nodup:=fun ⟨_,_,_,_,_,_,h5⟩=>h5
 mono:=fun {w base iI v xs S} h hb=>by
  obtain⟨vs,Ss,h1,h2,h3,h4,h5⟩:=h;exact⟨vs,Ss,j1 h1 hb,h2,fun k u x T hu hx hT=>L.mono (h3 k u x T hu hx hT) hb,h4,h5⟩
 one:=fun ⟨_,_,h1,_⟩=>mK h1
section
variable {β : Type} {R : World → Nat → Value → β → List Nat → Prop} {e : TypeId} {w : World} {base g c n : Nat} {xs : List β} {S : List Nat}
theorem fA {e:TypeId} {size:Nat} {m:Nat} {ys:List Value} (h:w.ownsRow base e size (.slice (some ⟨g,0,none⟩) n c) m ys):m=n:=by
 rcases h.2 with⟨h',_⟩ | ⟨g',sD,cur,h',_⟩
 ·simp at h'
 ·simp only[Value.slice.injEq]at h';exact h'.2.1.symm
theorem qj {e:TypeId} {size:Nat} {m:Nat} {ys:List Value} (h:w.ownsRow base e size (.slice (some ⟨g,0,none⟩) n c) m ys) (k:Nat):w.frozen? ⟨g,k,none⟩=false:=by
 obtain rfl:=fA h
 exact h.frozenAt k
theorem dF {e:TypeId} {size:Nat} {m:Nat} {ys:List Value} {v:Value} (h:w.ownsRow base e size v m ys):(v=.slice none 0 0/\m=0)\/∃g c,v=.slice (some ⟨g,0,none⟩) m c/\base<=g/\g<w.heap.size/\m<=c/\c<=maxLen:=by
 rcases h.2 with h | ⟨g,cap,cur,rfl,hb,hg,s8,hm,pX,tA⟩
 ·exact .inl h
 ·exact .inr ⟨g,cap,rfl,hb,(Array.getElem?_eq_some_iff.1 hg).1,s8,hm⟩
theorem bu.at_ (h:bu e R w base (.slice (some ⟨g,0,none⟩) n c) xs S) {k:Nat} {x:β} (hx:xs[k]?=some x):∃u T,w.cell? ⟨g,k,none⟩=some u/\w.frozen? ⟨g,k,none⟩=false/\R w base u x T/\(∀j∈T,j∈S)/\g∉T/\g∈S:=by
 obtain⟨vs,Ss,h1,h2,h3,h4,h5⟩:=h;have hk:k<xs.length:=al hx;have hn:=fA h1;have CF:vs.length=xs.length:=by simpa using h1.1
 obtain⟨u,hu⟩:=aA vs k (by omega);obtain⟨T,hT⟩:=aA Ss k (by omega);subst hn;refine⟨u,T,?_,h1.frozenAt k,h3 k u x T hu hx hT,fun j hj=>?_,fun hg=>?_,?_⟩
 ·rw[h1.cellAt (cap:=c) k (by omega)];exact hu
 ·rw[h4];exact List.mem_append_right _ (List.mem_flatten.2 ⟨T,List.mem_of_getElem? hT,hj⟩)
 ·rw[h4]at h5
  have:=(List.nodup_append.1 h5).2.2 g (by simp[Value.ownBlock]) g (List.mem_flatten.2 ⟨T,List.mem_of_getElem? hT,hg⟩)
  exact this rfl
 ·rw[h4];simp[Value.ownBlock]
theorem jL {Ss:List (List Nat)} {k j:Nat} {T:List Nat} (h:j∈(Ss.set k T).flatten):j∈Ss.flatten\/j∈T:=by
 obtain⟨U,hU,hj⟩:=List.mem_flatten.1 h;rcases List.mem_or_eq_of_mem_set hU with h1 | h1
 ·exact .inl (List.mem_flatten.2 ⟨U,h1,hj⟩)
 ·subst h1;exact .inr hj
theorem qk {Ss:List (List Nat)} {k:Nat} {T:List Nat} (h:Ss.flatten.Nodup) (hT:T.Nodup) (hd:∀i j U,i≠k->Ss[i]?=some U->j∈U->j∉T):(Ss.set k T).flatten.Nodup:=by
 induction Ss generalizing k with
 | nil=>simp
 | cons U Ss ih=>
  rw[List.flatten_cons,List.nodup_append]at h
  cases k with
  | zero=>
   rw[List.set_cons_zero,List.flatten_cons,List.nodup_append];refine⟨hT,h.2.1,fun a ha b hb yk=>?_⟩
   subst yk;obtain⟨V,hV,hbV⟩:=List.mem_flatten.1 hb;obtain⟨i,hi⟩:=List.mem_iff_getElem?.1 hV;exact hd (i+1) a V (by omega) (by simpa using hi) hbV ha
  | succ k=>
   rw[List.set_cons_succ,List.flatten_cons,List.nodup_append];refine⟨h.1,ih h.2.1 (fun i j V hi hV hj=>hd (i+1) j V (by omega) (by simpa using hV) hj),fun a ha b hb yk=>?_⟩
   subst yk;rcases jL hb with hb | hb
   ·exact h.2.2 a ha a hb rfl
   ·exact hd 0 a U (by omega) (by simp) ha hb
theorem lX {Ss:List (List Nat)} (h:Ss.flatten.Nodup) {i j x:Nat} {U V:List Nat} (Sr:i≠j) (hU:Ss[i]?=some U) (hV:Ss[j]?=some V) (hx:x∈U):x∉V:=by
 induction Ss generalizing i j with
 | nil=>simp at hU
 | cons W Ss ih=>
  rw[List.flatten_cons,List.nodup_append]at h
  cases i with
  | zero=>
   cases j with
   | zero=>omega
   | succ j=>
    simp at hU hV
    subst hU;exact fun ZA=>h.2.2 x hx x (List.mem_flatten.2 ⟨V,List.mem_of_getElem? hV,ZA⟩) rfl
  | succ i=>
   cases j with
   | zero=>
    simp at hU hV
    subst hV;exact fun ZA=>h.2.2 x ZA x (List.mem_flatten.2 ⟨U,List.mem_of_getElem? hU,hx⟩) rfl
   | succ j=>exact ih (i:=i) (j:=j) h.2.1 (by omega) (by simpa using hU) (by simpa using hV)
theorem bu.acX (L:fh R) (h:bu e R w base (.slice (some ⟨g,0,none⟩) n c) xs S) {k:Nat} {x:β} (hx:xs[k]?=some x):
  ∃u T,w.cell? ⟨g,k,none⟩=some u/\R w base u x T/\(∀j∈T,j∈S)/\(∀(x':β) (w':World),R w' base u x' T->aX T w w'->bu e R w' base (.slice (some ⟨g,0,none⟩) n c) (xs.set k x') S):=by
 obtain⟨vs,Ss,h1,h2,h3,h4,h5⟩:=h;have hk:k<xs.length:=al hx;have hn:=fA h1;subst hn;have CF:vs.length=xs.length:=by simpa using h1.1
 obtain⟨u,hu⟩:=aA vs k (by omega);obtain⟨T,hT⟩:=aA Ss k (by omega);have tK:=h5;rw[h4,List.nodup_append]at tK;have TA:g∉Ss.flatten:=fun hg=>tK.2.2 g (by simp[Value.ownBlock]) g hg rfl
 refine⟨u,T,by rw[h1.cellAt (cap:=c) k (by omega)];exact hu,h3 k u x T hu hx hT,fun j hj=>by rw[h4];exact List.mem_append_right _ (List.mem_flatten.2 ⟨T,List.mem_of_getElem? hT,hj⟩),fun x' w' hR ho=>?_⟩
 have Gc:g∉T:=fun hg=>TA (List.mem_flatten.2 ⟨T,List.mem_of_getElem? hT,hg⟩)
 refine⟨vs,Ss,?_,by simp[h2],?_,h4,h5⟩
 ·rw[List.length_set];refine aG h1 (fun j hj=>?_)
  simp[Value.ownBlock]at hj
  subst hj;exact ho.block j (World.ownsRow.lt h1 j (by simp[Value.ownBlock])).2 Gc
 ·intro j u' y T' vZ hy rr
  by_cases ld:k=j
  ·subst ld;rw[List.getElem?_set_self (by omega)]at hy;cases hy
   rw[hu]at vZ;cases vZ
   rw[hT]at rr;cases rr
   exact hR
  ·rw[List.getElem?_set_ne ld]at hy;refine L.only (h3 j u' y T' vZ hy rr) ho (fun i hi hiT=>?_)
   exact lX tK.2.1 ld hT rr hiT hi
theorem bu.made {x0:β} (m:Nat) (hm:m<=maxLen) (h0:∀w base,R w base (.slice none 0 0) x0 []) (w:World):
  bu e R (w.alloc (.cells (List.replicate m (Value.slice none 0 0)).toArray e)) w.heap.size (.slice (some ⟨w.heap.size,0,none⟩) m m) (List.replicate m x0) [w.heap.size]:=by
 refine⟨List.replicate m (Value.slice none 0 0),List.replicate m [],?_,by simp,?_,by simp[Value.ownBlock],by simp⟩
 ·have:=World.ownsRow_lit (base:=w.heap.size) (e:=e) (size:=1) w (List.replicate m (Value.slice none 0 0)).toArray m (Nat.le_refl _) hm (by simp)
  simpa using this
 ·intro k u x T hu hx hT;have vZ:=List.mem_of_getElem? hu;have CG:=List.mem_of_getElem? hx;have rr:=List.mem_of_getElem? hT;rw[List.mem_replicate]at vZ CG rr;rw[vZ.2,CG.2,rr.2];exact h0 _ _
end
def mL (e:Int×Int):List Value:=[.int .i64 e.1,.int .i64 e.2]
def dU:World->Nat->Value->List (Int×Int)->List Nat->Prop:=Jg 83 2 mL
theorem gj:fh dU:=Ag _ _ _
def oH:World->Nat->Value->List (List (Int×Int))->List Nat->Prop:=bu 81 dU
theorem jw:fh oH:=jv _ gj
def j_ (w:World) (base:Nat) (v:Value) (xs:List Int) (S:List Nat):Prop:=Own w base v xs/\S=v.ownBlock.toList
theorem gm:fh j_ where
 aco:=fun ⟨h,hS⟩ hs=>⟨aG h (fun k hk=>hs k (by rw[hS];exact hk)),hS⟩
 range:=fun ⟨h,hS⟩ k hk=>World.ownsRow.lt h k (by rw[hS]at hk;simpa using hk)
 nodup:=fun {_ _ v _ _} ⟨_,hS⟩=>by rw[hS];cases v.ownBlock <;> simp
 mono:=fun ⟨h,hS⟩ hb=>⟨j1 h hb,hS⟩
 one:=fun ⟨h,_⟩=>mK h
theorem mM {es:List (Int×Int)} {k:Nat} {x:Int×Int} (h:es[k]?=some x):(es.flatMap mL)[k*2]?=some (.int .i64 x.1)/\(es.flatMap mL)[k*2+1]?=some (.int .i64 x.2):=by
 induction es generalizing k with
 | nil=>simp at h
 | cons e es ih=>
  cases k with
  | zero=>simp at h;subst h;simp[mL]
  | succ k=>
   have:=ih (k:=k) (by simpa using h)
   rw[List.flatMap_cons,show(k+1)*2=k*2+2 by omega]
   simp only[mL,List.cons_append,List.nil_append]
   exact⟨by simpa using this.1,by rw[show k*2+2+1=(k*2+1)+1+1 by omega];simpa using this.2⟩
theorem Jh {es:List (Int×Int)} {k:Nat} (x:Int×Int) (h:k<es.length):((es.flatMap mL).set (k*2) (.int .i64 x.1)).set (k*2+1) (.int .i64 x.2)=(es.set k x).flatMap mL:=by
 induction es generalizing k with
 | nil=>simp at h
 | cons e es ih=>
  cases k with
  | zero=>simp[mL]
  | succ k=>
   have:=ih (k:=k) (by simpa using h)
   rw[List.flatMap_cons,show(k+1)*2=k*2+1+1 by omega]
   simp only[mL,List.cons_append,List.nil_append,List.set_cons_succ,List.flatMap_cons]at this ⊢
   rw[this]
theorem Ah (es:List (Int×Int)):(es.flatMap mL).length=es.length*2:=by
 induction es with
 | nil=>rfl
 | cons e es ih=>rw[List.flatMap_cons,List.length_append,ih,List.length_cons];simp[mL];omega
theorem dU.read {w:World} {base:Nat} {v:Value} {es:List (Int×Int)} {S:List Nat} (h:dU w base v es S):yg w v es:=by
 obtain⟨h,hS⟩:=h;rcases dF h with⟨rfl,h0⟩ | ⟨g,c,rfl,hb,hg,hc,hm⟩
 ·obtain rfl:es=[]:=List.eq_nil_of_length_eq_zero h0
  exact⟨none,0,rfl,Nat.le_refl _,Nat.zero_le _,fun k x hk=>by simp at hk⟩
 ·refine⟨_,c,rfl,hc,hm,fun k x hk=>⟨g,0,rfl,?_,?_⟩⟩
  ·have:=al hk
   rw[Nat.zero_add,h.cellAt (cap:=c) _ (by omega)];exact(mM hk).1
  ·have:=al hk
   rw[Nat.zero_add,h.cellAt (cap:=c) _ (by omega)];exact(mM hk).2
theorem oH.read {w:World} {base:Nat} {v:Value} {fv:List (List (Int×Int))} {S:List Nat} (h:oH w base v fv S):lx w v fv:=by
 obtain⟨vs,Ss,h1,h2,h3,h4,h5⟩:=h;rcases dF h1 with⟨rfl,h0⟩ | ⟨g,c,rfl,hb,hg,hc,hm⟩
 ·obtain rfl:fv=[]:=List.eq_nil_of_length_eq_zero h0
  exact⟨none,0,rfl,Nat.le_refl _,Nat.zero_le _,fun k x hk=>by simp at hk⟩
 ·have CF:vs.length=fv.length:=by simpa using h1.1
  refine⟨_,c,rfl,hc,hm,fun k x hk=>?_⟩
  have az:=al hk;obtain⟨u,hu⟩:=aA vs k (by omega);obtain⟨T,hT⟩:=aA Ss k (by omega)
  exact⟨g,0,u,rfl,by rw[Nat.zero_add,h1.cellAt (cap:=c) _ (by omega)];exact hu,dU.read (h3 k u x T hu hk hT)⟩
def oJ:List (List (Int×Int))->Nat
 | []=>0
 | es::r=>2*es.length+oJ r
theorem dU.cells {w:World} {base g c n:Nat} {es:List (Int×Int)} {S:List Nat} (h:dU w base (.slice (some ⟨g,0,none⟩) n c) es S) {k:Nat} {x:Int×Int} (hx:es[k]?=some x):
  w.cell? ⟨g,k*2,none⟩=some (.int .i64 x.1)/\w.cell? ⟨g,k*2+1,none⟩=some (.int .i64 x.2)/\w.frozen? ⟨g,k*2,none⟩=false/\w.frozen? ⟨g,k*2+1,none⟩=false:=by
 obtain⟨h,_⟩:=h;have hn:=fA h;subst hn
 have:=al hx
 exact⟨by rw[h.cellAt (cap:=c) _ (by omega)];exact(mM hx).1,by rw[h.cellAt (cap:=c) _ (by omega)];exact(mM hx).2,h.frozenAt _,h.frozenAt _⟩
theorem dU.set {w:World} {base g c n:Nat} {es:List (Int×Int)} {S:List Nat} (h:dU w base (.slice (some ⟨g,0,none⟩) n c) es S) {k:Nat} (hk:k<es.length) (x:Int×Int):
  dU ((w.setCell ⟨g,k*2,none⟩ (.int .i64 x.1)).setCell ⟨g,k*2+1,none⟩ (.int .i64 x.2)) base (.slice (some ⟨g,0,none⟩) n c) (es.set k x) S:=by
 obtain⟨h,hS⟩:=h;have hn:=fA h;subst hn;have h1:=(h.stored (k*2) (.int .i64 x.1)).1;have h2:=(h1.stored (k*2+1) (.int .i64 x.2)).1;rw[Jh x hk]at h2;refine⟨?_,hS⟩;rw[List.length_set];exact h2
def ar (w:World) (base:Nat) (ve vi vn:Value) (n:aj) (S:List Nat):Prop:=
 ∃S1 S2 S3,oH w base ve n.ends S1/\j_ w base vi n.ids S2/\j_ w base vn n.acn S3/\S=S1++(S2++S3)/\S.Nodup
theorem ar.read {w:World} {base:Nat} {ve vi vn:Value} {n:aj} {S:List Nat} (h:ar w base ve vi vn n S):aC w ve vi vn n:=by
 obtain⟨S1,S2,S3,h1,h2,h3,_⟩:=h;exact⟨oH.read h1,h2.1.ints,h3.1.ints⟩
theorem ar.range {w:World} {base:Nat} {ve vi vn:Value} {n:aj} {S:List Nat} (h:ar w base ve vi vn n S):∀k∈S,base<=k/\k<w.heap.size:=by
 obtain⟨S1,S2,S3,h1,h2,h3,h4,_⟩:=h;intro k hk;rw[h4]at hk;rcases List.mem_append.1 hk with hk | hk
 ·exact jw.range h1 k hk
 ·rcases List.mem_append.1 hk with hk | hk
  ·exact gm.range h2 k hk
  ·exact gm.range h3 k hk
theorem ar.aco {w w':World} {base:Nat} {ve vi vn:Value} {n:aj} {S:List Nat} (h:ar w base ve vi vn n S) (hs:∀k∈S,w'.heap[k]?=w.heap[k]?):ar w' base ve vi vn n S:=by
 obtain⟨S1,S2,S3,h1,h2,h3,h4,h5⟩:=h
 exact⟨S1,S2,S3,jw.aco h1 (fun k hk=>hs k (by rw[h4];simp[hk])),gm.aco h2 (fun k hk=>hs k (by rw[h4];simp[hk])),gm.aco h3 (fun k hk=>hs k (by rw[h4];simp[hk])),h4,h5⟩
theorem ar.keep {w w':World} {base:Nat} {ve vi vn:Value} {n:aj} {S:List Nat} (h:ar w base ve vi vn n S) (hb:Below w.heap.size w w'):ar w' base ve vi vn n S:=
 h.aco fun k hk=>hb.block k (h.range k hk).2
theorem ar.mono {w:World} {base iI:Nat} {ve vi vn:Value} {n:aj} {S:List Nat} (h:ar w base ve vi vn n S) (hb:iI<=base):ar w iI ve vi vn n S:=by
 obtain⟨S1,S2,S3,h1,h2,h3,h4,h5⟩:=h;exact⟨S1,S2,S3,jw.mono h1 hb,gm.mono h2 hb,gm.mono h3 hb,h4,h5⟩
def TB (x y:List Int):Bool:=decide (x=y)
theorem Ff:(Tryz.prog.info? 81).map (fun i=>(i.zero,i.size,i.bytes))=some (some (.slice none 0 0),1,24):=by kernel_rfl
theorem Ai:(Tryz.prog.info? 83).map (fun i=>(i.zero,i.size,i.bytes))=some (some (.agg #[.int .i64 0,.int .i64 0]),2,16):=by kernel_rfl
theorem qm (z:Value) (n:Nat):madeCells #[z] (n*1)=Array.replicate n z:=by
 apply Array.ext'
 rw[toList_madeCells_one];simp
theorem r9 (n:Nat) (hn:n<=1000000) (W:World):(Instr.makeSlice 24 (.int .i64 (n:Int)) (.int .i64 (n:Int))).run Tryz.prog W=.ok (.slice (some ⟨W.heap.size,0,none⟩) n n) (W.alloc (.cells (Array.replicate n (Value.slice none 0 0)) 81)):=by
 obtain⟨i0,hi,gx,dh,dt⟩:=info_parts Ff
 have hr:=run_make (P:=Tryz.prog) W 24 81 i0 (.slice none 0 0) Tryz.underlying24 hi gx .i64 .i64 n n (by omega) (Int.le_refl _) (by rw[dt];omega) (by omega)
 rw[dh]at hr;simp only[Int.toNat_natCast]at hr;rw[show(Value.slice none 0 0).cells=#[Value.slice none 0 0]from rfl,qm]at hr
 exact hr
theorem r_ (n:Nat) (hn:n<=1000000) (W:World):(Instr.makeSlice 25 (.int .i64 (n:Int)) (.int .i64 (n:Int))).run Tryz.prog W=.ok (.slice (some ⟨W.heap.size,0,none⟩) n n) (W.alloc (.cells (Array.replicate n (Value.int .i64 0)) 3)):=by
 obtain⟨i0,hi,gx,dh,dt⟩:=info_parts jt
 have hr:=run_make (P:=Tryz.prog) W 25 3 i0 (.int .i64 0) Tryz.underlying25 hi gx .i64 .i64 n n (by omega) (Int.le_refl _) (by rw[dt];omega) (by omega)
 rw[dh]at hr;simp only[Int.toNat_natCast]at hr;rw[show(Value.int IntKind.i64 0).cells=#[Value.int .i64 0]from rfl,qm]at hr
 exact hr
def dy (n:Nat):aj:={ ends:=List.replicate n [],ids:=[],acn:=List.replicate n 0 }
theorem tL (w:World) (base:Nat):dU w base (.slice none 0 0) [] []:=⟨World.ownsRow_nil w base _ _,rfl⟩
theorem iN (w:World) (base:Nat):j_ w base (.slice none 0 0) [] []:=⟨bU w base,rfl⟩
theorem Aj (w:World) (n:Nat) (hn:n<=1000000):j_ (w.alloc (.cells (Array.replicate n (Value.int .i64 0)) 3)) w.heap.size (.slice (some ⟨w.heap.size,0,none⟩) n n) (List.replicate n 0) [w.heap.size]:=by
 have:=fD w (List.replicate n 0) (by simp[maxLen];omega)
 simp only[List.length_replicate,List.map_replicate,List.toArray_replicate]at this;exact⟨this,rfl⟩
theorem o6 (w:World) (n:Nat) (hn:n<=1000000):oH (w.alloc (.cells (Array.replicate n (Value.slice none 0 0)) 81)) w.heap.size (.slice (some ⟨w.heap.size,0,none⟩) n n) (List.replicate n []) [w.heap.size]:=
 by have:=bu.made (R:=dU) (e:=81) n (by simp[maxLen];omega) tL w;rw[List.toArray_replicate]at this;exact this
theorem Dg (w:World) (B:Obj) (n:Nat) (hn:n<=1000000):
  ar (((w.alloc B).alloc (.cells (Array.replicate n (Value.slice none 0 0)) 81)).alloc (.cells (Array.replicate n (Value.int .i64 0)) 3)) w.heap.size
   (.slice (some ⟨w.heap.size+1,0,none⟩) n n) (.slice none 0 0) (.slice (some ⟨w.heap.size+1+1,0,none⟩) n n) (dy n) [w.heap.size+1,w.heap.size+1+1]:=by
 have h1:=o6 (w.alloc B) n hn;have h2:=Aj ((w.alloc B).alloc (.cells (Array.replicate n (Value.slice none 0 0)) 81)) n hn;simp only[World.size_alloc]at h1 h2;exact⟨[w.heap.size+1],[],[w.heap.size+1+1],jw.mono (jw.keep h1 (ai _ _)) (by omega),iN _ _,gm.mono h2 (by omega),rfl,by simp⟩
theorem Ak (w:World) (B:Obj) (n:Nat) (hn:n<=1000000):
  ar (((w.alloc B).alloc (.cells (Array.replicate n (Value.int .i64 0)) 3)).alloc (.cells (Array.replicate n (Value.slice none 0 0)) 81)) w.heap.size
   (.slice (some ⟨w.heap.size+1+1,0,none⟩) n n) (.slice none 0 0) (.slice (some ⟨w.heap.size+1,0,none⟩) n n) (dy n) [w.heap.size+1+1,w.heap.size+1]:=by
 have h1:=Aj (w.alloc B) n hn;have h2:=o6 ((w.alloc B).alloc (.cells (Array.replicate n (Value.int .i64 0)) 3)) n hn;simp only[World.size_alloc]at h1 h2;exact⟨[w.heap.size+1+1],[],[w.heap.size+1],jw.mono h2 (by omega),iN _ _,gm.mono (gm.keep h1 (ai _ _)) (by omega),rfl,by simp⟩
theorem Ji (w:World) (a b c:Obj):Below w.heap.size w (((w.alloc a).alloc b).alloc c):=(((Below.refl _ _).alloc (Nat.le_refl _) _).alloc (by simp) _).alloc (by simp;omega) _
theorem ar.drew {w:World} {base:Nat} {ve vi vn:Value} {n:aj} {S:List Nat} (h:ar w base ve vi vn n S):ar w.drew base ve vi vn n S:=h.aco fun _ _=>rfl
def o_ (w:World) (n:aj) (e:Ending) (w':World):Prop:=∃ve vi vn S,e=.returned (.agg #[ve,vi,vn])/\ar w' w.heap.size ve vi vn n S/\Below w.heap.size w w'
theorem ar.acs {w:World} {base g c n:Nat} {vi vn:Value} {N:aj} {S:List Nat} (h:ar w base (.slice (some ⟨g,0,none⟩) n c) vi vn N S) {k:Nat} {x:List (Int×Int)} (hx:N.ends[k]?=some x):
  ∃u T,w.cell? ⟨g,k,none⟩=some u/\w.frozen? ⟨g,k,none⟩=false/\dU w base u x T/\base<=g/\g<w.heap.size/\g∈S:=by
 obtain⟨S1,S2,S3,h1,_,_,h4,_⟩:=h;obtain⟨u,T,a,b,c,_,_,d⟩:=bu.at_ h1 hx
 exact⟨u,T,a,b,c,(jw.range h1 g d).1,(jw.range h1 g d).2,by rw[h4];exact List.mem_append_left _ d⟩
def aY (w:World) (b:Nat) (x y z:Value):Prop:=∃r,w.heap[b]?=some (.cells #[x,y,z] r)
theorem aY.cells {w:World} {b:Nat} {x y z:Value} (h:aY w b x y z):w.cell? ⟨b,0,none⟩=some x/\w.cell? ⟨b,1,none⟩=some y/\w.cell? ⟨b,2,none⟩=some z/\w.frozen? ⟨b,0,none⟩=false/\w.frozen? ⟨b,1,none⟩=false/\w.frozen? ⟨b,2,none⟩=false:=by
 obtain⟨r,h⟩:=h;simp[World.cell?,World.frozen?,h]
theorem aY.lt {w:World} {b:Nat} {x y z:Value} (h:aY w b x y z):b<w.heap.size:=by
 obtain⟨r,h⟩:=h;exact(Array.getElem?_eq_some_iff.1 h).1
theorem aY.below {w w':World} {B b:Nat} {x y z:Value} (h:aY w b x y z) (hb:Below B w w') (hB:b<B):aY w' b x y z:=by
 obtain⟨r,h⟩:=h;exact⟨r,(hb.block b hB).trans h⟩
theorem aY.set {w:World} {b:Nat} {x y z u:Value} {a:Addr} (h:aY w b x y z) (ha:a.block≠b):aY (w.setCell a u) b x y z:=by
 obtain⟨r,h⟩:=h;exact⟨r,(Below.heap_setCell w a u b (Ne.symm ha)).trans h⟩
theorem aY.alloc {w:World} {b:Nat} {x y z:Value} (h:aY w b x y z) (o:Obj):aY (w.alloc o) b x y z:=h.below (ai w o) h.lt
theorem aY.new (w:World) (x y z:Value) (t:TypeId):aY (w.alloc (.cells #[x,y,z] t)) w.heap.size x y z:=⟨t,by show(w.heap.push _)[w.heap.size]?=_;rw[Array.getElem?_push_size]⟩
def fQ (n:Nat):List Int:=(List.range n).map Int.ofNat
theorem fR (n:Nat):(fQ n).length=n:=by simp[fQ]
theorem qo {n k:Nat} (h:k<n):(fQ n)[k]?=some (k:Int):=by simp[fQ,h]
theorem xx (n:Nat):fQ (n+1)=fQ n++[(n:Int)]:=by simp[fQ,List.range_succ]
theorem v_ (n:Nat) (hn:n<=1000000) (w:World):Calls Tryz.prog 101 #[.int .i64 n] w fun e w'=>∃u,e=.returned u/\Own w' w.heap.size u (fQ n)/\Below w.heap.size w w':=by
 go_enter Tryz.func101,Tryz.ntmps101
 go_wp2_with (at_make;refine jm _ rfl _ _ rfl _ _ n rfl rfl rfl rfl (by omega) ?_;intro w1 gR aN dh)
 go_loopw [9] (fun i wr=>∃k:Nat,k<=n/\i=.int .i64 k/\Own wr w.heap.size (.slice (some ⟨w.heap.size,0,none⟩) n n) ((fQ n).take k++List.replicate (n-k) 0)/\Below w.heap.size w wr) (fun i _=>n-(intOf i).toNat)
 case atStart=>exact⟨0,Nat.zero_le _,rfl,by simpa using gR,aN⟩
 case round=>
  obtain⟨k,hk,rfl,ho,hb⟩:=hrel;clear gR aN dh;have Ho:=zh ho;have Hb:=zh hb
  by_cases az:k<n
  ·have hf:=ho.free k
   obtain⟨y,hy⟩:=aA ((fQ n).take k++List.replicate (n-k) 0) k (by simp[fR];omega)
   have rg:=ho.cell hy;clear hy ho hb;go_wp2;go_roundw
   case rel=>
    refine⟨k+1,by omega,by go_num,?_,Hb.out.setCell (Nat.le_refl _) _⟩
    have:=Ho.out.set (k:=k) (k:Int)
    have e:=I6 0 (fQ n) k (k:Int) (qo az);rw[fR]at e
    rwa [e]at this
   case measure=>simp[intOf];omega
  ·go_wp2;go_ret;refine⟨_,rfl,?_,Hb.out⟩
   have:=Ho.out
   rwa [js (fQ n) (by rw[fR];exact az),show n-k=0 by omega,List.replicate_zero,List.append_nil]at this
theorem nJ {w:World} {ops:Array Oper} {rest:List Oper} {o:Oper} {a:Act} {Q:Exit->Act->World->Prop} (iG:o.guard=none) (s x:Operand)
  (ho:o.op=.call { callee:=.builtin .append,args:=#[s,x],argTypes:=#[25,25] }) {base:Nat} {v:Value} {xs:List Int} (hs:a.eval s=v) (h:Own w base v xs) (b:Nat) (y:Int)
  (hx:a.eval x=.slice (some ⟨b,0,none⟩) 1 1) (hc:w.cell? ⟨b,0,none⟩=some (.int .i64 y)) (hl:xs.length+1<=17592186044416) (gY:base<=w.heap.size)
  (k:∀g cap w',Own w' base (.slice (some ⟨g,0,none⟩) (xs.length+1) cap) (xs++[y])->w.grownBy w' v.ownBlock->(v.ownBlock=some g\/g=w.heap.size)->g<w'.heap.size->wpList Tryz.prog ops Q rest (a.put o.dst (.slice (some ⟨g,0,none⟩) (xs.length+1) cap)) w'):wpList Tryz.prog ops Q (o::rest) a w:=by
 obtain⟨i0,hi,gx,dh,dt⟩:=info_parts jt
 refine wpList_append_lies w iG s x 25 ho base 3 i0 (.int .i64 0) 1 8 Tryz.underlying25 hi gx dh dt rfl (by decide) v xs.length (xs.map (Value.int .i64)) hs h ⟨b,0,none⟩ 1 1 [.int .i64 y] hx rfl
  (by intro j u hj;match j,hj with | 0,hj=>(simp at hj;subst hj;simpa[Addr.add]using hc) | j+1,hj=>simp at hj) (by simp[Value.oneCell']) (by omega) (by unfold maxLen;omega) (by omega) gY w.heap.size rfl ?_
 intro g cap w' h1 h2 h3 h4;refine k g cap w' ?_ h2 h3 h4;unfold Own;simpa using h1
theorem bu.grow {β:Type} {R:World->Nat->Value->β->List Nat->Prop} {e:TypeId} {w:World} {base g c n:Nat} {xs:List β} {S:List Nat} (L:fh R) (h:bu e R w base (.slice (some ⟨g,0,none⟩) n c) xs S) {k:Nat} {x:β} (hx:xs[k]?=some x):
  ∃u T,w.cell? ⟨g,k,none⟩=some u/\R w base u x T/\(∀j∈T,j∈S)/\g∉T/\(∀(u':Value) (x':β) (T':List Nat) (w':World),R w' base u' x' T'->aX T w w'->(∀j∈T',j∈T\/w.heap.size<=j)->∃S',bu e R (w'.setCell ⟨g,k,none⟩ u') base (.slice (some ⟨g,0,none⟩) n c) (xs.set k x') S'/\∀j∈S',j∈S\/w.heap.size<=j):=by
 have hS:=(jv e L).range h;obtain⟨vs,Ss,h1,h2,h3,h4,h5⟩:=h;have hk:k<xs.length:=al hx;have hn:=fA h1;subst hn;have CF:vs.length=xs.length:=by simpa using h1.1
 obtain⟨u,hu⟩:=aA vs k (by omega);obtain⟨T,hT⟩:=aA Ss k (by omega);have tK:=h5;rw[h4,List.nodup_append]at tK
 have Dh:g∈S:=by rw[h4];simp[Value.ownBlock]
 have TA:g∉Ss.flatten:=fun hg=>tK.2.2 g (by simp[Value.ownBlock]) g hg rfl
 have MA:∀j∈T,j∈S:=fun j hj=>by rw[h4];exact List.mem_append_right _ (List.mem_flatten.2 ⟨T,List.mem_of_getElem? hT,hj⟩)
 have Gc:g∉T:=fun hg=>TA (List.mem_flatten.2 ⟨T,List.mem_of_getElem? hT,hg⟩)
 refine⟨u,T,by rw[h1.cellAt (cap:=c) k (by omega)];exact hu,h3 k u x T hu hx hT,MA,Gc,fun u' x' T' w' hR ho rr=>?_⟩
 have ZB:=(hS g Dh).2
 have Jj:g∉T':=fun hg=>by
  rcases rr g hg with h | h
  ·exact Gc h
  ·omega
 have TC:w'.ownsRow base e 1 (.slice (some ⟨g,0,none⟩) xs.length c) xs.length vs:=aG h1 (fun j hj=>by
  simp[Value.ownBlock]at hj
  subst hj
  exact ho.block _ ZB Gc)
 have j8:∀j,j≠g->(w'.setCell ⟨g,k,none⟩ u').heap[j]?=w'.heap[j]?:=fun j hj=>Below.heap_setCell w' _ _ j hj
 refine⟨(Value.slice (some ⟨g,0,none⟩) xs.length c).ownBlock.toList++(Ss.set k T').flatten,⟨vs.set k u',Ss.set k T',?_,by simp[h2],?_,rfl,?_⟩,?_⟩
 ·have:=(TC.stored k u').1
  rw[List.length_set];exact this
 ·intro j u2 x2 T2 yl sa Jk
  by_cases ld:k=j
  ·subst ld;rw[List.getElem?_set_self (by omega)]at yl sa Jk
   cases yl;cases sa;cases Jk
   exact L.aco hR (fun i hi=>j8 i (fun e=>Jj (e ▸ hi)))
  ·rw[List.getElem?_set_ne ld]at yl sa Jk;have h0:=h3 j u2 x2 T2 yl sa Jk;refine L.aco h0 (fun i hi=>(j8 i (fun e=>TA ?_)).trans (ho.block i (L.range h0 i hi).2 (lX tK.2.1 (Ne.symm ld) Jk hT hi)))
   subst e;exact List.mem_flatten.2 ⟨T2,List.mem_of_getElem? Jk,hi⟩
 ·rw[List.nodup_append];refine⟨tK.1,qk tK.2.1 (L.nodup hR) (fun i j U jo hU hj hjT=>?_),fun a ha b hb yk=>?_⟩
  ·rcases rr j hjT with h | h
   ·exact lX tK.2.1 jo hU hT hj h
   ·have:=(hS j (by rw[h4];exact List.mem_append_right _ (List.mem_flatten.2 ⟨U,List.mem_of_getElem? hU,hj⟩))).2
    omega
  ·subst yk;simp[Value.ownBlock]at ha
   subst ha;rcases jL hb with hb | hb
   ·exact TA hb
   ·exact Jj hb
 ·intro j hj;rcases List.mem_append.1 hj with hj | hj
  ·left;rw[h4];exact List.mem_append_left _ hj
  ·rcases jL hj with hj | hj
   ·left;rw[h4];exact List.mem_append_right _ hj
   ·rcases rr j hj with h | h
    ·exact .inl (MA j h)
    ·exact .inr h
theorem ar.acw {w:World} {base g c n:Nat} {vi vn:Value} {N:aj} {S:List Nat} (h:ar w base (.slice (some ⟨g,0,none⟩) n c) vi vn N S) {k:Nat} {x:List (Int×Int)} (hx:N.ends[k]?=some x):
  ∃u T,w.cell? ⟨g,k,none⟩=some u/\w.frozen? ⟨g,k,none⟩=false/\dU w base u x T/\(∀j∈T,j∈S)/\g∉T/\g∈S/\(∀(u':Value) (x':List (Int×Int)) (T':List Nat) (w':World),dU w' base u' x' T'->aX T w w'->(∀j∈T',j∈T\/w.heap.size<=j) ->
   ∃S',ar (w'.setCell ⟨g,k,none⟩ u') base (.slice (some ⟨g,0,none⟩) n c) vi vn { N with ends:=N.ends.set k x' } S'/\∀j∈S',j∈S\/w.heap.size<=j):=by
 have IF:=h.range;obtain⟨S1,S2,S3,h1,h2,h3,h4,h5⟩:=h;obtain⟨_,_,_,hf,_,_,_,kE⟩:=bu.at_ h1 hx;obtain⟨u,T,hu,hR,MA,Gc,mp⟩:=bu.grow gj h1 hx
 have Qc:∀j∈T,j∈S:=fun j hj=>by rw[h4];exact List.mem_append_left _ (MA j hj)
 have Dh:g∈S:=by rw[h4];exact List.mem_append_left _ kE
 refine⟨u,T,hu,hf,hR,Qc,Gc,Dh,fun u' x' T' w' OQ ho rr=>?_⟩
 obtain⟨Su,o1,hs⟩:=mp u' x' T' w' OQ ho rr;rw[h4,List.nodup_append]at h5;obtain⟨n1,n2,n3⟩:=h5;have cZ:aX (g::T) w (w'.setCell ⟨g,k,none⟩ u'):=(ho.mono (fun j hj=>List.mem_cons_of_mem _ hj)).setCell (.inl (by simp)) _
 have d:∀j∈S2++S3,j∉g::T:=fun j hj hg'=>by
  rcases List.mem_cons.1 hg' with rfl | hg'
  ·exact n3 _ kE _ hj rfl
  ·exact n3 _ (MA j hg') _ hj rfl
 refine⟨Su++(S2++S3),⟨Su,S2,S3,o1,gm.only h2 cZ (fun j hj=>d j (List.mem_append_left _ hj)),gm.only h3 cZ (fun j hj=>d j (List.mem_append_right _ hj)),rfl,?_⟩,?_⟩
 ·rw[List.nodup_append];refine⟨jw.nodup o1,n2,fun a ha b hb yk=>?_⟩
  subst yk;rcases hs a ha with h | h
  ·exact n3 a h a hb rfl
  ·have:=(IF a (by rw[h4];exact List.mem_append_right _ hb)).2
   omega
 ·intro j hj;rcases List.mem_append.1 hj with hj | hj
  ·rcases hs j hj with h | h
   ·exact .inl (by rw[h4];exact List.mem_append_left _ h)
   ·exact .inr h
  ·exact .inl (by rw[h4];exact List.mem_append_right _ hj)
theorem Di (w:World) (base:Nat):ar w base (.slice none 0 0) (.slice none 0 0) (.slice none 0 0) ⟨[],[],[]⟩ []:=
 ⟨[],[],[],⟨[],[],World.ownsRow_nil w base _ _,rfl,fun k u x T h=>by simp at h,rfl,by simp⟩,iN _ _,iN _ _,rfl,by simp⟩
theorem bf {w w':World} (hb:Below w.heap.size w w') {a:Addr} {u:Value} (h:w.cell? a=some u) (hf:w.frozen? a=false):w'.frozen? a=false:=(hb.frozen (World.block_lt_of_cell? w _ h)).trans hf
theorem aX.fz {S:List Nat} {a b:World} (h:aX S a b) {p:Addr} {u:Value} (hp:p.block∉S) (hc:a.cell? p=some u) (hf:a.frozen? p=false):b.frozen? p=false:=
 (World.frozen?_of_block (h.block p.block (World.block_lt_of_cell? a _ hc) hp)).trans hf
open Go.ChangeShapes Go.WideShapes Go.ChangeAt Go.RowKit Go.Joins Go.Deep
section
variable {H : Type} {enc : TypeId × Value → H} {W : World}
end
def left (l:Int) (n:Nat):Int:=if l-n<0 then -1 else l-n
def ym (fv:List (List (Int×Int))):Nat:=(fv.map List.length).sum
def Qd (fv:List (List (Int×Int))):Nat:=fv.length+ym fv
def iO (n:aj):Nat:=Qd n.ends+n.ids.length+n.acn.length
section
variable {ops : Array Oper} {rest : List Oper} {o : Oper} {a : Act} {Q : Exit → Act → World → Prop}
end
section
variable {ops : Array Oper} {rest : List Oper} {o : Oper} {a : Act} {Q : Exit → Act → World → Prop}
end
theorem aY.acF {w:World} {b:Nat} {x y z u:Value} (h:aY w b x y z):aY (w.setCell ⟨b,0,none⟩ u) b u y z:=by
 obtain⟨r,h⟩:=h;exact⟨r,by simp[World.setCell,Array.getElem?_modify,h]⟩
theorem aY.acI {w:World} {b:Nat} {x y z u:Value} (h:aY w b x y z):aY (w.setCell ⟨b,1,none⟩ u) b x u z:=by
 obtain⟨r,h⟩:=h;exact⟨r,by simp[World.setCell,Array.getElem?_modify,h]⟩
theorem aY.acJ {w:World} {b:Nat} {x y z u:Value} (h:aY w b x y z):aY (w.setCell ⟨b,2,none⟩ u) b x y u:=by
 obtain⟨r,h⟩:=h;exact⟨r,by simp[World.setCell,Array.getElem?_modify,h]⟩
def oK (ids:List Int) (fx:Int):Bool:=((List.range ids.length).all fun i=>fF 1 999999 (ids.getD i 0) && !((ids.take i).contains (ids.getD i 0)))&&((ids.length:Int)==0||(ids.length:Int)==fx)
theorem jf {ids:List Int} {i:Nat} (h:i<ids.length):ids.getD i 0=ids[i]:=by simp[zDd,h]
theorem Al (ids:List Int):(∀i (h:i<ids.length),ids[i]∉ids.take i)↔ids.Nodup:=by
 unfold List.Nodup;rw[List.pairwise_iff_getElem];constructor
 ·intro h i j hi hj Sr e
  refine h j hj (List.mem_iff_getElem.2 ⟨i,by simp;omega,?_⟩)
  rw[List.getElem_take];exact e
 ·intro h i hi hm;obtain⟨j,hj,e⟩:=List.mem_iff_getElem.1 hm;simp at hj
  rw[List.getElem_take]at e;exact h j i (by omega) hi (by omega) e
theorem Dj (lo up:Int) (s:List Int):qf lo up s=true↔(∀x∈s,fF lo up x=true)/\s.Pairwise (· < ·):=by
 unfold qf;rw[List.all_eq_true];constructor
 ·intro h
  have h':∀i (hl:i<s.length),fF lo up s[i]=true/\(i=0\/s.getD (i-1) 0<s[i]):=fun i hl=>by
   have:=h i (List.mem_range.2 hl)
   rw[jf hl]at this;simpa using this
  refine⟨fun x hx=>?_,?_⟩
  ·obtain⟨i,hi,rfl⟩:=List.mem_iff_getElem.1 hx;exact(h' i hi).1
  ·rw[List.pairwise_iff_getElem];intro i j hi hj Sr
   induction j with
   | zero=>omega
   | succ j ih=>
    have hs:=(h' (j+1) hj).2;rw[Nat.add_sub_cancel,jf (show j<s.length by omega)]at hs
    rcases Nat.lt_or_ge i j with h1 | h1
    ·have:=ih (by omega) h1
     omega
    ·obtain rfl:i=j:=by omega
     omega
 ·rintro⟨h1,h2⟩ i hi;have hl:=List.mem_range.1 hi;rw[jf hl];rw[List.pairwise_iff_getElem]at h2;rw[Bool.and_eq_true];refine⟨h1 _ (List.getElem_mem hl),?_⟩;rcases Nat.eq_zero_or_pos i with h0 | h0
  ·simp[h0]
  ·have:=h2 (i-1) i (by omega) hl (by omega)
   rw[jf (show i-1<s.length by omega)]
   simp[this]
theorem Jl (ids:List Int) (fx:Int):oK ids fx=true↔(∀x∈ids,fF 1 999999 x=true)/\ids.Nodup/\((ids.length:Int)=0\/(ids.length:Int)=fx):=by
 unfold oK;rw[Bool.and_eq_true,List.all_eq_true,<- Al];constructor
 ·rintro⟨h,h2⟩
  have h':∀i (hl:i<ids.length),fF 1 999999 ids[i]=true/\ids[i]∉ids.take i:=fun i hl=>by
   have:=h i (List.mem_range.2 hl)
   rw[jf hl]at this;simpa using this
  refine⟨fun x hx=>?_,fun i hl=>(h' i hl).2,by simpa using h2⟩
  obtain⟨i,hi,rfl⟩:=List.mem_iff_getElem.1 hx;exact(h' i hi).1
 ·rintro⟨h1,h2,h3⟩;refine⟨fun i hi=>?_,by simpa using h3⟩
  have hl:=List.mem_range.1 hi;rw[jf hl,Bool.and_eq_true];exact⟨h1 _ (List.getElem_mem hl),by simpa using h2 i hl⟩
theorem yn (ids:List Int) (fx:Int):oK ids fx=sF ids fx:=by
 rw[Bool.eq_iff_iff,Jl]
 cases Dk:ids with
 | nil=>simp[sF]
 | cons a l=>
  rw[<- Dk]
  have iJ:ids.isEmpty=false:=by rw[Dk];rfl
  have OR:¬(ids.length:Int)=0:=by rw[Dk];simp;omega
  unfold sF;rw[iJ,Bool.false_or,Bool.and_eq_true,Dj,beq_iff_eq];have hp:=List.mergeSort_perm ids (fun x y=>decide (x<=y))
  have hs:(ids.mergeSort fun x y=>decide (x<=y)).Pairwise fun a b=>decide (a<=b)=true:=
   List.pairwise_mergeSort (fun a b c h1 h2=>by simp at h1 h2 ⊢;omega) (fun a b=>by simp;omega) ids
  constructor
  ·rintro⟨h1,h2,h3⟩;refine⟨by omega,fun x hx=>h1 x (hp.mem_iff.1 hx),?_⟩
   have hn:=hp.nodup_iff.2 h2
   exact(hs.and hn).imp fun {a b} ⟨h,h'⟩=>by simp at h;omega
  ·rintro⟨h1,h2,h3⟩;refine⟨fun x hx=>h2 x (hp.mem_iff.2 hx),hp.nodup_iff.1 (h3.imp fun {a b} h=>by omega),.inr h1⟩
def jx (xs:List Int) (x:Int):Bool:=xs.contains x
theorem nK (v:Value) (xs:List Int) (x:Int) (w:World) (h:aO w v xs):Calls Tryz.prog 187 #[v,.int .i64 x] w fun e w'=>e=.returned (.bool (jx xs x))/\w=w':=by
 obtain⟨A,c,rfl,fg,hm,hA⟩:=h;unfold maxLen at hm;have HA:=zh hA;clear hA
 go_enter Tryz.func187,Tryz.ntmps187
 go_wp2
 go_loop [9] (fun i=>∃k:Nat,k<=xs.length/\i=.int .i64 k/\x∉xs.take k) (fun i=>xs.length-(intOf i).toNat)
 case atStart=>exact⟨0,Nat.zero_le _,rfl,by simp⟩
 case round=>
  obtain⟨k,hk,rfl,jH⟩:=hrel;have pc:=zh jH;clear jH
  by_cases az:k<xs.length
  ·obtain⟨y,hy⟩:=aA xs k az;obtain⟨b,off,rfl,gy⟩:=HA.out k y hy;have Hy:=zh hy;clear hy
   by_cases CH:y=x
   ·subst CH;go_wp2;go_ret
    exact⟨j7 (by unfold jx;simpa using List.mem_of_getElem? Hy.out),rfl⟩
   ·go_wp2
    go_round
    case rel=>
     refine⟨k+1,by omega,by simp,?_⟩
     rw[aV Hy.out];simp only[List.mem_append,List.mem_singleton,not_or];exact⟨pc.out,fun e=>CH e.symm⟩
    case measure=>simp[intOf];omega
  ·go_wp2;go_ret
   have:=pc.out
   rw[js xs az]at this
   exact⟨aW (by unfold jx;simpa using this),rfl⟩
theorem aO.take {w:World} {A:Option Addr} {c:Nat} {xs:List Int} (h:aO w (.slice A xs.length c) xs) (k:Nat) (hk:k<=xs.length):aO w (.slice A k c) (xs.take k):=by
 obtain⟨A',c',hv,fg,hm,hA⟩:=h;cases hv
 refine⟨A,c,by simp[Nat.min_eq_left hk],by simp;omega,hm,fun j x hx=>?_⟩
 have hj:j<k:=by have:=al hx;simp at this;omega
 rw[List.getElem?_take,if_pos hj]at hx;exact hA j x hx
theorem Ge (v:Value) (ids:List Int) (fx:Int) (w:World) (h:aO w v ids):Calls Tryz.prog 132 #[v,.int .i64 fx] w fun e w'=>e=.returned (.bool (oK ids fx))/\w=w':=by
 have H:=zh h;obtain⟨A,c,rfl,fg,hm,hA⟩:=h;unfold maxLen at hm;have HA:=zh hA;clear hA
 go_enter Tryz.func132,Tryz.ntmps132
 go_wp2
 go_loop [9] (fun i=>∃k:Nat,k<=ids.length/\i=.int .i64 k/\∀j,j<k->fF 1 999999 (ids.getD j 0)=true/\jx (ids.take j) (ids.getD j 0)=false) (fun i=>ids.length-(intOf i).toNat)
 case atStart=>exact⟨0,Nat.zero_le _,rfl,fun j hj=>by omega⟩
 case round=>
  obtain⟨k,hk,rfl,jH⟩:=hrel;have pc:=zh jH;clear jH
  by_cases az:k<ids.length
  ·obtain⟨y,hy⟩:=aA ids k az;obtain⟨b,off,rfl,gy⟩:=HA.out k y hy;have hgy:ids.getD k 0=y:=by simp[hy]
   have Hg:=zh hgy;clear hy hgy;cases hi:fF 1 999999 y
   ·go_wp2_with (go_at_call 75;refine(jK _ _ _ _).mono ?_;rintro e w' ⟨rfl,rfl⟩)
    go_ret;refine⟨aW ?_,rfl⟩;unfold oK;rw[Bool.and_eq_false_iff]
    left
    rw[List.all_eq_false]
    exact⟨k,List.mem_range.2 az,by rw[Hg.out,hi];simp⟩
   ·cases hc:jx (ids.take k) y
    ·go_wp2_with (first | (go_at_call 75;refine(jK _ _ _ _).mono ?_;rintro e w' ⟨rfl,rfl⟩) | (go_at_call 187;refine(nK _ (ids.take k) y _ (H.out.take k hk)).mono ?_;rintro e w' ⟨rfl,rfl⟩))
     go_round
     case rel=>
      refine⟨k+1,by omega,by simp,fun j hj=>?_⟩
      rcases Nat.lt_or_ge j k with h | h
      ·exact pc.out j h
      ·obtain rfl:j=k:=by omega
       rw[Hg.out];exact⟨hi,hc⟩
     case measure=>simp[intOf];omega
    ·go_wp2_with (first | (go_at_call 75;refine(jK _ _ _ _).mono ?_;rintro e w' ⟨rfl,rfl⟩) | (go_at_call 187;refine(nK _ (ids.take k) y _ (H.out.take k hk)).mono ?_;rintro e w' ⟨rfl,rfl⟩))
     go_ret;refine⟨aW ?_,rfl⟩;unfold oK;rw[Bool.and_eq_false_iff]
     left
     rw[List.all_eq_false]
     exact⟨k,List.mem_range.2 az,by rw[Hg.out,hi];unfold jx at hc;rw[hc];simp⟩
  ·have bH:Hid (oK ids fx=((ids.length:Int)==0||(ids.length:Int)==fx)):=by
    show _=_
    unfold oK
    rw[show((List.range ids.length).all fun i=>fF 1 999999 (ids.getD i 0) && !((ids.take i).contains (ids.getD i 0)))=true from List.all_eq_true.2 (fun j hj=>by
     have:=pc.out j (by have:=List.mem_range.1 hj;omega)
     unfold jx at this
     rw[this.1,this.2];rfl),Bool.true_and]
   by_cases h0:(ids.length:Int)=0
   ·go_wp2;go_ret
    exact⟨j7 (by rw[bH.out];simp[h0]),rfl⟩
   ·have iJ:¬ids=[]:=fun e=>h0 (by simp[e])
    go_wp2;go_ret;refine⟨bJ ?_,rfl⟩;rw[bH.out,show((ids.length:Int)==0)=false by simpa using h0,Bool.false_or]
@[simp ↓] theorem OS (a b c d:Int) (w:World):(binOp .neq 83 (.agg #[.int .i64 a,.int .i64 b]) (.agg #[.int .i64 c,.int .i64 d])).run Tryz.prog w=.ok (.bool (!pZ (a,b) (c,d))) w:=by
 go_simp
 by_cases f1:a=c
 ·by_cases f2:b=d
  ·simp[f1,f2,pZ]
  ·simp[f1,f2,pZ]
 ·simp[f1,pZ]
@[simp ↓] theorem OT (a b c d:Int) (w:World):(binOp .eql 83 (.agg #[.int .i64 a,.int .i64 b]) (.agg #[.int .i64 c,.int .i64 d])).run Tryz.prog w=.ok (.bool (pZ (a,b) (c,d))) w:=by
 go_simp
 by_cases f1:a=c
 ·by_cases f2:b=d
  ·simp[f1,f2,pZ]
  ·simp[f1,f2,pZ]
 ·simp[f1,pZ]
theorem aC.es {w:World} {a b c:Value} {n:aj} (h:aC w a b c n):lx w a n.ends:=h.1
theorem aC.is {w:World} {a b c:Value} {n:aj} (h:aC w a b c n):aO w b n.ids:=h.2.1
theorem aC.ns {w:World} {a b c:Value} {n:aj} (h:aC w a b c n):aO w c n.acn:=h.2.2
theorem aH (z:Int) (h : -9223372036854775808<=z) (h2:z<=9223372036854775807):IntKind.i64.wrap z=z:=IntWalk.i64_in z ⟨h,h2⟩
theorem lY (ve vi vn:Value) (n:aj) (w:World) (h:aC w ve vi vn n):
  Calls Tryz.prog 55 #[.agg #[ve,vi,vn]] w fun e w'=>e=.returned (.bool (ak n))/\Below w.heap.size w w':=by
 obtain⟨w0,bQ⟩:∃w0,w0=w.alloc (.cells #[ve,vi,vn] 27):=⟨_,rfl⟩
 have lV:Below w.heap.size w w0:=by rw[bQ];exact ai _ _
 have H:=zh (h.keep lV);obtain⟨h1,h2,h3⟩:=h.keep lV;obtain⟨A,c,rfl,fg,hm,hA⟩:=h1;obtain⟨A2,c2,rfl,_,f8,_⟩:=h2;obtain⟨A3,c3,rfl,_,fP,_⟩:=h3;unfold maxLen at hm f8 fP
 have p0:∀W,ab w0 W->W.cell? ⟨w.heap.size,0,none⟩=some (.slice A n.ends.length c):=fun W hW=>bc hW (by rw[bQ];simp)
 have p1:∀W,ab w0 W->W.cell? ⟨w.heap.size,1,none⟩=some (.slice A2 n.ids.length c2):=fun W hW=>bc hW (by rw[bQ];simp)
 have p2:∀W,ab w0 W->W.cell? ⟨w.heap.size,2,none⟩=some (.slice A3 n.acn.length c3):=fun W hW=>bc hW (by rw[bQ];simp)
 have aT:=zh lV;have HA:=zh hA;have bS:=zh bQ;clear lV hA h bQ
 go_enter Tryz.func55,Tryz.ntmps55
 go_upto_region 1 with(fail);rw[<- bS.out];refine aE 29 (ab w0) (aa _) ?_;simp only[zT]
 iterate 3 (refine b_ rfl ?_;simp only[zA])
 refine fc ?_ rfl ?_ ?_;rotate_left;(intro W hW;unfold da;go_simp;(with_reducible refine(jK _ _ _ W).mono ?_);rintro e W' ⟨rfl,bB⟩;first | (refine⟨?_,ab.trans hW bB⟩;with_reducible rfl) | (subst bB;refine⟨?_,hW⟩;with_reducible rfl))
 simp only[zA]
 iterate 2 (refine b_ rfl ?_;simp only[zA])
 iterate 5 (refine iL rfl rfl ?_;simp only[zA])
 refine dl (v:=?_) rfl rfl ?_ ?_;rotate_left;(intro hb;intro W hW;unfold da;go_simp;(with_reducible refine(Ge _ n.ids _ W (H.out.is.keep hW.below)).mono ?_);rintro e W' ⟨rfl,bB⟩;first | (refine⟨?_,ab.trans hW bB⟩;with_reducible rfl) | (subst bB;refine⟨?_,hW⟩;with_reducible rfl))
 simp only[zA]
 refine iL rfl rfl ?_;simp only[zA]
 (first | refine dE rfl rfl ?_ | (refine b_ rfl ?_));simp only[zA]
 refine b_ rfl ?_;simp only[zA]
 iterate 7 (refine iL rfl rfl ?_;simp only[zA])
 (first | refine dE rfl rfl ?_ | (refine b_ rfl ?_));simp only[zA]
 refine b_ rfl ?_;simp only[zA]
 iterate 2 (refine iL rfl rfl ?_;simp only[zA])
 refine dl (v:=?_) rfl rfl ?_ ?_;rotate_left;(intro hb;intro W hW;unfold da;go_simp;(with_reducible refine(xk _ n.acn _ _ W (H.out.ns.keep hW.below)).mono ?_);rintro e W' ⟨rfl,bB⟩;first | (refine⟨?_,ab.trans hW bB⟩;with_reducible rfl) | (subst bB;refine⟨?_,hW⟩;with_reducible rfl))
 simp only[zA]
 refine iL rfl rfl ?_;simp only[zA]
 (first | refine dE rfl rfl ?_ | (refine b_ rfl ?_));simp only[zA]
 intro W hW
 cases hg:(!fF 1 40 (n.ends.length:Int) || !oK n.ids n.ends.length||((n.acn.length:Int) != n.ends.length) || !n.acn.all (fF 0 9))
 ·have hr:=zh (show ak n=(List.range n.ends.length).all fun v=>fZ n.ends v (n.ends.getD v []) by
   simp only[Bool.or_eq_false_iff,Bool.not_eq_false',bne_eq_false_iff_eq]at hg
   simp[ak,hg,<- yn,fe])
  have Hg:=zh hg;have HW:=zh hW;clear hg;go_wp2
  go_loopw [39] (fun i wr=>∃k:Nat,k<=n.ends.length/\i=.int .i64 k/\((List.range k).all fun v=>fZ n.ends v (n.ends.getD v []))=true/\ab w0 wr) (fun i _=>n.ends.length-(intOf i).toNat)
  case atStart=>exact⟨0,Nat.zero_le _,rfl,rfl,HW.out⟩
  case round=>
   obtain⟨k,hk,rfl,bH,xt⟩:=hrel;have ir:=zh bH;clear bH hW
   by_cases az:k<n.ends.length
   ·obtain⟨es,bM⟩:=aA n.ends k az;obtain⟨b,off,u,rfl,eD,dm⟩:=HA.out k es bM;have rg:=ae eD;obtain⟨A1,z1,rfl,dh,dt,gh⟩:=dm;have qh:=zh gh;unfold maxLen at dt;have jZ:=zh bM;clear bM eD gh
    by_cases h6:es.length<=6
    ·go_wp2;obtain⟨wo,rfl⟩:∃wo:World,wo=wr:=⟨_,rfl⟩
     go_loopw [49] (fun i wq=>∃j:Nat,j<=es.length/\i=.int .i64 j/\((List.range j).all fun i=>iM n.ends k i (es.getD i (0,0)))=true/\ab w0 wq) (fun i _=>es.length-(intOf i).toNat)
     case atStart=>exact⟨0,Nat.zero_le _,rfl,rfl,xt⟩
     case round=>
      obtain⟨j,hj,rfl,Ab,Ac⟩:=hrel;have Ad:=zh Ab;clear Ab xt
      by_cases rp:j<es.length
      ·obtain⟨⟨x1,x2⟩,he⟩:=aA es j rp;obtain⟨b1,mJ,rfl,ju,gC⟩:=qh.out j _ he;have q1:=ae ju;have q2:=ae gC;have He:=zh he;clear he ju gC;have CI:w.heap.size<wr.heap.size:=World.block_lt_of_cell? wr _ (p0 wr Ac);go_wp2;obtain⟨w1,pf⟩:∃w1,(wr.alloc (Obj.cells #[Value.int IntKind.i64 x1,Value.int IntKind.i64 x2] 83))=w1:=⟨_,rfl⟩
       rw[pf]
       have dr:ab w0 w1:=by rw[<- pf];exact ad _ Ac
       have r0:=ag p0 dr
       have r3:∀W,ab w1 W->W.cell? ⟨wr.heap.size,0,none⟩=some (.int .i64 x1):=ae (by rw[<- pf];simp)
       have r4:∀W,ab w1 W->W.cell? ⟨wr.heap.size,1,none⟩=some (.int .i64 x2):=ae (by rw[<- pf];simp)
       have dM:=zh dr;have HP:=zh (And.intro p0 (And.intro p1 p2));have HQ:=zh (And.intro rg (And.intro q1 q2));have P9:=zh Ac;clear pf dr p0 p1 p2 rg q1 q2 Ac
       by_cases pN:fF 0 ((n.ends.length:Int)-1) x1=true
       ·obtain⟨p3,p4⟩:=bz.1 pN;obtain⟨k1,rfl⟩:=Int.eq_ofNat_of_zero_le p3;have kJ:k1<n.ends.length:=by omega
        obtain⟨Fe,Af⟩:=aA n.ends k1 kJ;obtain⟨b2,Ty,u',yc,CE,Je⟩:=HA.out k1 Fe Af
        injection yc with yc
        injection yc with q3 q4
        subst q3 q4;obtain⟨Jf,Tz,rfl,Zx,Qa,Df⟩:=Je;unfold maxLen at Qa;have r5:=ag (ae CE) dM.out;have Gb:=zh Af;have ZC:=zh Df;clear Af CE Df
        by_cases sa:fF 0 ((Fe.length:Int)-1) x2=true
        ·obtain⟨p5,p6⟩:=bz.1 sa;obtain⟨i1,rfl⟩:=Int.eq_ofNat_of_zero_le p5;have tJ:i1<Fe.length:=by omega
         obtain⟨⟨y1,y2⟩,hy⟩:=aA Fe i1 tJ;obtain⟨b3,Mz,rfl,Qb,OP⟩:=ZC.out i1 _ hy;have r6:=ag (ae Qb) dM.out;have r7:=ag (ae OP) dM.out;have Hy:=zh hy;have Hx:=zh (And.intro pN sa);clear hy Qb OP pN sa;have m1:IntKind.i64.wrap ((n.ends.length:Int)-1)=n.ends.length-1:=aH _ (by omega) (by omega);have m2:IntKind.i64.wrap ((Fe.length:Int)-1)=Fe.length-1:=aH _ (by omega) (by omega);refine av 38 (ab w1) (by kernel_rfl) (by kernel_rfl) (by simp) (ah (aa _)) ?_;simp only[zT]
         iterate 6 (refine b_ rfl ?_;simp only[zA])
         refine fc ?_ rfl ?_ ?_;rotate_left;(intro W hW;unfold da;go_simp;(with_reducible refine(jK _ _ _ W).mono ?_);rintro e W' ⟨rfl,bB⟩;first | (refine⟨?_,ab.trans hW bB⟩;with_reducible rfl) | (subst bB;refine⟨?_,hW⟩;with_reducible rfl))
         simp only[zA]
         iterate 2 (refine b_ rfl ?_;simp only[zA])
         iterate 10 (refine iL rfl rfl ?_;simp only[zA])
         refine dl (v:=?_) rfl rfl ?_ ?_;rotate_left;(intro hb;intro W hW;unfold da;go_simp;(with_reducible refine(jK _ _ _ W).mono ?_);rintro e W' ⟨rfl,bB⟩;first | (refine⟨?_,ab.trans hW bB⟩;with_reducible rfl) | (subst bB;refine⟨?_,hW⟩;with_reducible rfl))
         simp only[zA]
         refine iL rfl rfl ?_;simp only[zA]
         (first | refine dE rfl rfl ?_ | (refine b_ rfl ?_));simp only[zA]
         refine b_ rfl ?_;simp only[zA]
         iterate 14 (refine iL rfl rfl ?_;simp only[zA])
         (first | refine dE rfl rfl ?_ | (refine b_ rfl ?_));simp only[zA]
         intro W2 Fg;have Fh:=zh Fg;rw[Hx.out.1,Hx.out.2];cases hq:pZ (y1,y2) ((k:Int),(j:Int))
         all_goals
          have Hq:=zh hq;clear hq Fg m1 m2;go_wp2
         ·go_ret
          exact⟨aW (by rw[hr.out];refine aP az ?_;rw[ao jZ.out];simp only[fZ];rw[Bool.and_eq_false_iff];exact .inr (aP rp (by rw[ao He.out];simp[iM,Gb.out,Hy.out,Hq.out]))),ab.after aT.out (dM.out.after Fh.out)⟩
         ·go_roundw
          case rel=>exact⟨j+1,by omega,by go_num,by rw[cC,Ad.out,ao He.out];simp[iM,bT,Hx.out.1,Hx.out.2,Gb.out,Hy.out,Hq.out],dM.out.after Fh.out⟩
          case measure=>simp[intOf];omega
        ·have TD:fF 0 ((Fe.length:Int)-1) x2=false:=by simpa using sa
         have Hx:=zh (And.intro pN TD);clear pN sa;have m1:IntKind.i64.wrap ((n.ends.length:Int)-1)=n.ends.length-1:=aH _ (by omega) (by omega);have m2:IntKind.i64.wrap ((Fe.length:Int)-1)=Fe.length-1:=aH _ (by omega) (by omega);refine av 38 (ab w1) (by kernel_rfl) (by kernel_rfl) (by simp) (ah (aa _)) ?_;simp only[zT]
         iterate 6 (refine b_ rfl ?_;simp only[zA])
         refine fc ?_ rfl ?_ ?_;rotate_left;(intro W hW;unfold da;go_simp;(with_reducible refine(jK _ _ _ W).mono ?_);rintro e W' ⟨rfl,bB⟩;first | (refine⟨?_,ab.trans hW bB⟩;with_reducible rfl) | (subst bB;refine⟨?_,hW⟩;with_reducible rfl))
         simp only[zA]
         iterate 2 (refine b_ rfl ?_;simp only[zA])
         iterate 10 (refine iL rfl rfl ?_;simp only[zA])
         refine dl (v:=?_) rfl rfl ?_ ?_;rotate_left;(intro hb;intro W hW;unfold da;go_simp;(with_reducible refine(jK _ _ _ W).mono ?_);rintro e W' ⟨rfl,bB⟩;first | (refine⟨?_,ab.trans hW bB⟩;with_reducible rfl) | (subst bB;refine⟨?_,hW⟩;with_reducible rfl))
         simp only[zA]
         refine iL rfl rfl ?_;simp only[zA]
         (first | refine dE rfl rfl ?_ | (refine b_ rfl ?_));simp only[zA]
         refine b_ rfl ?_;simp only[zA]
         iterate 14 (refine nI rfl rfl (by simp[*]) ?_;simp only[zA])
         (first | refine dE rfl rfl ?_ | (refine b_ rfl ?_));simp only[zA]
         intro W2 Fg;have Fh:=zh Fg;rw[Hx.out.1,Hx.out.2];clear TD Fg m1 m2;go_wp2;go_ret
         exact⟨aW (by rw[hr.out];refine aP az ?_;rw[ao jZ.out];simp only[fZ];rw[Bool.and_eq_false_iff];exact .inr (aP rp (by rw[ao He.out];simp[iM,bT,Gb.out,Hx.out.2]))),ab.after aT.out (dM.out.after Fh.out)⟩
       ·have TE:fF 0 ((n.ends.length:Int)-1) x1=false:=by simpa using pN
        have Hx:=zh TE;clear pN;have m1:IntKind.i64.wrap ((n.ends.length:Int)-1)=n.ends.length-1:=aH _ (by omega) (by omega);refine av 38 (ab w1) (by kernel_rfl) (by kernel_rfl) (by simp) (ah (aa _)) ?_;simp only[zT]
        iterate 6 (refine b_ rfl ?_;simp only[zA])
        refine fc ?_ rfl ?_ ?_;rotate_left;(intro W hW;unfold da;go_simp;(with_reducible refine(jK _ _ _ W).mono ?_);rintro e W' ⟨rfl,bB⟩;first | (refine⟨?_,ab.trans hW bB⟩;with_reducible rfl) | (subst bB;refine⟨?_,hW⟩;with_reducible rfl))
        simp only[zA]
        iterate 2 (refine b_ rfl ?_;simp only[zA])
        iterate 12 (refine nI rfl rfl (by simp[*]) ?_;simp only[zA])
        (first | refine dE rfl rfl ?_ | (refine b_ rfl ?_));simp only[zA]
        refine b_ rfl ?_;simp only[zA]
        iterate 14 (refine nI rfl rfl (by simp[*]) ?_;simp only[zA])
        (first | refine dE rfl rfl ?_ | (refine b_ rfl ?_));simp only[zA]
        intro W2 Fg;have Fh:=zh Fg;rw[Hx.out];clear TE Fg m1;go_wp2;go_ret
        exact⟨aW (by rw[hr.out];refine aP az ?_;rw[ao jZ.out];simp only[fZ];rw[Bool.and_eq_false_iff];exact .inr (aP rp (by rw[ao He.out];simp[iM,bT,Hx.out]))),ab.after aT.out (dM.out.after Fh.out)⟩
      ·obtain rfl:j=es.length:=by omega
       go_wp2;go_roundw
       case rel=>exact⟨k+1,by omega,by go_num,by rw[cC,ir.out,ao jZ.out,Bool.true_and];unfold fZ;rw[Ad.out];simp[h6],Ac⟩
       case measure=>simp[intOf];omega
    ·go_wp2;go_ret
     exact⟨aW (by rw[hr.out];exact aP az (by rw[ao jZ.out];simp[fZ,h6])),ab.after aT.out xt⟩
   ·obtain rfl:k=n.ends.length:=by omega
    go_wp2;go_ret
    exact⟨j7 (by rw[hr.out];exact ir.out),ab.after aT.out xt⟩
 ·have hr:=zh (show ak n=false by
   simp only[Bool.or_eq_true,Bool.not_eq_true',bne_iff_ne,ne_eq]at hg
   rcases hg with((hg | hg) | hg) | hg <;> simp[ak,hg,<- yn,fe])
  have Hg:=zh hg;have HW:=zh hW;clear hg;go_wp2;go_ret;exact⟨aW hr.out,ab.after aT.out HW.out⟩
def dO (fv:List (List (Int×Int))) (v i:Int):Int×Int:=(fv.getD v.toNat []).getD i.toNat (0,0)
theorem gG {w:World} {v:Value} {ls:List Int} (h:aO w v ls) {x:Int} (h0:0<=x) (h1:x<ls.length):
  ∃(k b off c:Nat) (y:Int),x=(k:Int)/\v=.slice (some ⟨b,off,none⟩) ls.length c/\k<ls.length/\ls[k]?=some y/\ls.getD x.toNat 0=y/\w.cell? ⟨b,off+k,none⟩=some (.int .i64 y):=by
 obtain⟨k,rfl⟩:=Int.eq_ofNat_of_zero_le h0;have hk:k<ls.length:=by omega
 obtain⟨y,hy⟩:=aA ls k hk;obtain⟨A,c,rfl,_,_,hA⟩:=h;obtain⟨b,off,rfl,hc⟩:=hA k y hy;exact⟨k,b,off,c,y,rfl,rfl,hk,hy,by simp[hy],hc⟩
theorem rt {n:aj} (h:ak n=true) {v i:Int} (hp:bT n.ends v i=true):
  bT n.ends (dO n.ends v i).1 (dO n.ends v i).2=true/\dO n.ends (dO n.ends v i).1 (dO n.ends v i).2=(v,i):=by
 unfold bT at hp;rw[Bool.and_eq_true]at hp;obtain⟨p1,p2⟩:=hp;obtain⟨p3,p4⟩:=bz.1 p1;obtain⟨k,rfl⟩:=Int.eq_ofNat_of_zero_le p3;have hk:k<n.ends.length:=by omega
 obtain⟨es,bM⟩:=aA n.ends k hk;rw[Int.toNat_natCast,ao bM]at p2;obtain⟨p5,p6⟩:=bz.1 p2;obtain⟨j,rfl⟩:=Int.eq_ofNat_of_zero_le p5;have hj:j<es.length:=by omega
 obtain⟨⟨y1,y2⟩,hy⟩:=aA es j hj;have e:dO n.ends (k:Int) (j:Int)=(y1,y2):=by simp[dO,bM,hy]
 rw[e];unfold ak at h;rw[Bool.and_eq_true,List.all_eq_true]at h
 have:=h.2 k (List.mem_range.2 hk)
 rw[ao bM]at this;unfold fZ at this;rw[Bool.and_eq_true,List.all_eq_true]at this
 have:=this.2 j (List.mem_range.2 hj)
 rw[ao hy]at this;unfold iM at this;rw[Bool.and_eq_true]at this;exact⟨this.1,by simpa[pZ,dO]using this.2⟩
theorem aB {n:aj} (h:ak n=true):1<=n.ends.length/\n.ends.length<=40:=by
 unfold ak at h;simp only[Bool.and_eq_true]at h
 have:=bz.1 h.1.1.1
 omega
theorem Dl {fv:List (List (Int×Int))} {v i:Int} (hp:bT fv v i=true):0<=v/\v<fv.length:=by
 unfold bT at hp;rw[Bool.and_eq_true]at hp
 have:=bz.1 hp.1
 omega
def ZD (fv:List (List (Int×Int))) (p q:Int×Int):Bool:=!pZ p q && !pZ (dO fv p.1 p.2) q && !pZ (dO fv p.1 p.2) p && !pZ (dO fv q.1 q.2) q
def ZE (fv:List (List (Int×Int))) (ls:List Int) (p q:Int×Int):Bool:=
 ZD fv p q&&p.2==q.2&&(dO fv p.1 p.2).2==(dO fv q.1 q.2).2&&ls.getD p.1.toNat 0==ls.getD q.1.toNat 0&&ls.getD (dO fv p.1 p.2).1.toNat 0==ls.getD (dO fv q.1 q.2).1.toNat 0
theorem Dm (ve vi vn:Value) (n:aj) (v:Int) (w:World) (h:aC w ve vi vn n):
  Calls Tryz.prog 125 #[.agg #[ve,vi,vn],.int .i64 v] w fun e w'=>e=.returned (.bool (ak n&&fF 0 ((n.ends.length:Int)-1) v))/\Below w.heap.size w w':=by
 obtain⟨w0,A,c,A2,c2,A3,c3,rfl,rfl,rfl,fg,hm,f8,fP,HA,bS,aT,H,dP,d9,dV⟩:=zB h;clear h
 have m1:IntKind.i64.wrap ((n.ends.length:Int)-1)=n.ends.length-1:=aH _ (by omega) (by omega)
 go_enter Tryz.func125,Tryz.ntmps125
 go_upto_region 1 with(fail);rw[<- bS.out];refine aE 11 (ab w0) (aa _) ?_;simp only[zT]
 refine b_ rfl ?_;simp only[zA]
 refine fc ?_ rfl ?_ ?_;rotate_left;(intro W hW;unfold da;go_simp;(with_reducible refine(lY _ _ _ n W (H.out.keep hW.below)).mono ?_);rintro e W' ⟨rfl,bB⟩;first | (refine⟨?_,ab.trans hW bB⟩;with_reducible rfl) | (subst bB;refine⟨?_,hW⟩;with_reducible rfl))
 simp only[zA]
 refine b_ rfl ?_;simp only[zA]
 iterate 5 (refine iL rfl rfl ?_;simp only[zA])
 refine dl (v:=?_) rfl rfl ?_ ?_;rotate_left;(intro hb;intro W hW;unfold da;go_simp;(with_reducible refine(jK _ _ _ W).mono ?_);rintro e W' ⟨rfl,bB⟩;first | (refine⟨?_,ab.trans hW bB⟩;with_reducible rfl) | (subst bB;refine⟨?_,hW⟩;with_reducible rfl))
 simp only[zA]
 (first | refine bK rfl rfl ?_ | (refine b_ rfl ?_));simp only[zA]
 refine b_ rfl ?_;simp only[zA]
 intro W hW;have HW:=zh hW;clear hW m1;go_wp2;go_ret;exact⟨rfl,ab.after aT.out HW.out⟩
def ta (n:aj) (v:Int):Bool:=ak n&&fF 0 ((n.ends.length:Int)-1) v
theorem Jm (ve vi vn:Value) (n:aj) (v:Int) (w:World) (h:aC w ve vi vn n):
  Calls Tryz.prog 125 #[.agg #[ve,vi,vn],.int .i64 v] w fun e w'=>e=.returned (.bool (ta n v))/\Below w.heap.size w w':=Dm ve vi vn n v w h
end Go.Proofs.YtgmdpppljkmabaaGreat
