/- Parts of the proof: walks of functions and plain laws. -/
import Derived.Test.YtnioemnkfojmkaaGreatP0
import Derived.Test.YtnioemnkfojmkaaGreatP1
import Derived.Deep.AppendLies
import Derived.Deep.RegionHeld3
import Derived.Deep.SlicePairs
import Derived.Deep.Slices
import Derived.Lib.SmallJoins
set_option maxRecDepth 100000
set_option maxHeartbeats 16000000
namespace Go.Proofs.YtnioemnkfojmkaaGreat
open Go Go.RowKit
structure aR (S:List Nat) (w w':World):Prop where
 os:w'.os=w.os
 tape:w'.tape=w.tape
 output:w'.output=w.output
 size:w.heap.size<=w'.heap.size
 block:∀k,k<w.heap.size->k∉S->w'.heap[k]?=w.heap[k]?
theorem aR.refl (S:List Nat) (w:World):aR S w w:=⟨rfl,rfl,rfl,Nat.le_refl _,fun _ _ _=>rfl⟩
theorem aR.trans {S:List Nat} {a b c:World} (h:aR S a b) (k:aR S b c):aR S a c:=
 ⟨k.os.trans h.os,k.tape.trans h.tape,k.output.trans h.output,Nat.le_trans h.size k.size,fun i hi hn=>(k.block i (Nat.lt_of_lt_of_le hi h.size) hn).trans (h.block i hi hn)⟩
theorem aR.mono {S T:List Nat} {a b:World} (h:aR S a b) (hs:∀k∈S,k∈T):aR T a b:=⟨h.os,h.tape,h.output,h.size,fun i hi hn=>h.block i hi (fun e=>hn (hs i e))⟩
theorem aR.below {S:List Nat} {a b:World} (h:aR S a b) (B:Nat) (hB:B<=a.heap.size) (hs:∀k∈S,B<=k):Below B a b:=⟨h.os,h.tape,h.output,h.size,fun i hi=>h.block i (by omega) (fun e=>by have:=hs i e;omega)⟩
theorem aR.ac7 {S:List Nat} {a b:World} (h:Below a.heap.size a b):aR S a b:=⟨h.os,h.tape,h.output,h.size,fun i hi _=>h.block i hi⟩
theorem aR.ac9 {a b:World} {row:Option Nat} (h:a.grownBy b row):aR row.toList a b:=⟨h.os,h.tape,h.output,h.size,fun i hi hn=>h.block i hi (fun e=>hn (by rw[<- e];simp))⟩
theorem aR.cell {S:List Nat} {a b:World} (h:aR S a b) {p:Addr} {u:Value} (hp:p.block∉S) (hc:a.cell? p=some u):b.cell? p=some u:=
 (World.cell?_of_block (h.block p.block (World.block_lt_of_cell? a _ hc) hp)).trans hc
theorem aR.setCell {S:List Nat} {a w:World} (h:aR S a w) {p:Addr} (hp:p.block∈S\/a.heap.size<=p.block) (u:Value):aR S a (w.setCell p u):=
 ⟨h.os,h.tape,h.output,by simpa[World.setCell]using h.size,fun i hi hn=>(Below.heap_setCell w p u i (by
  rintro rfl;rcases hp with hp | hp
  ·exact hn hp
  ·omega)).trans (h.block i hi hn)⟩
theorem aR.alloc {S:List Nat} {a w:World} (h:aR S a w) (o:Obj):aR S a (w.alloc o):=⟨h.os,h.tape,h.output,Nat.le_trans h.size (by simp),fun i hi hn=>(Below.heap_alloc w o i (Nat.lt_of_lt_of_le hi h.size)).trans (h.block i hi hn)⟩
structure ej {β:Type} (R:World->Nat->Value->β->List Nat->Prop):Prop where
 ac4:∀ {w w':World} {base:Nat} {v:Value} {x:β} {S:List Nat},R w base v x S->(∀k∈S,w'.heap[k]?=w.heap[k]?)->R w' base v x S
 range:∀ {w:World} {base:Nat} {v:Value} {x:β} {S:List Nat},R w base v x S->∀k∈S,base<=k/\k<w.heap.size
 nodup:∀ {w:World} {base:Nat} {v:Value} {x:β} {S:List Nat},R w base v x S->S.Nodup
 mono:∀ {w:World} {base nn:Nat} {v:Value} {x:β} {S:List Nat},R w base v x S->nn<=base->R w nn v x S
 one:∀ {w:World} {base:Nat} {v:Value} {x:β} {S:List Nat},R w base v x S->∃A n c,v=.slice A n c
section
variable {β : Type} {R : World → Nat → Value → β → List Nat → Prop}
theorem ej.ac2 (L:ej R) {w w':World} {base:Nat} {v:Value} {x:β} {S:List Nat} (h:R w base v x S) (hb:Below w.heap.size w w'):R w' base v x S:=L.ac4 h fun k hk=>hb.block k (L.range h k hk).2
theorem ej.only (L:ej R) {w w':World} {base:Nat} {v:Value} {x:β} {S T:List Nat} (h:R w base v x S) (hb:aR T w w') (hd:∀k∈S,k∉T):R w' base v x S:=L.ac4 h fun k hk=>hb.block k (L.range h k hk).2 (hd k hk)
end
def Qb {α:Type} (e:TypeId) (size:Nat) (enc:α->List Value) (w:World) (base:Nat) (v:Value) (xs:List α) (S:List Nat):Prop:=
 w.ownsRow base e size v xs.length (xs.flatMap enc)/\S=v.ownBlock.toList
theorem aQ {w w':World} {base:Nat} {e:TypeId} {size:Nat} {v:Value} {n:Nat} {xs:List Value} (h:w.ownsRow base e size v n xs) (hs:∀k∈v.ownBlock.toList,w'.heap[k]?=w.heap[k]?):w'.ownsRow base e size v n xs:=by
 refine⟨h.1,h.2.imp id ?_⟩;rintro⟨g,cap,cur,rfl,h2,h3,h4⟩;exact⟨g,cap,cur,rfl,h2,(hs g (by simp[Value.ownBlock])).trans h3,h4⟩
theorem fO {w:World} {base nn:Nat} {e:TypeId} {size:Nat} {v:Value} {n:Nat} {xs:List Value} (h:w.ownsRow base e size v n xs) (hb:nn<=base):w.ownsRow nn e size v n xs:=
 ⟨h.1,h.2.imp id fun ⟨g,cap,cur,h1,h2,h3⟩=>⟨g,cap,cur,h1,Nat.le_trans hb h2,h3⟩⟩
theorem nX {w:World} {base:Nat} {e:TypeId} {size:Nat} {v:Value} {n:Nat} {xs:List Value} (h:w.ownsRow base e size v n xs):∃A m c,v=.slice A m c:=by
 rcases h.2 with⟨rfl,_⟩ | ⟨g,cap,cur,rfl,_⟩
 ·exact⟨_,_,_,rfl⟩
 ·exact⟨_,_,_,rfl⟩
theorem JN {α:Type} (e:TypeId) (size:Nat) (enc:α->List Value):ej (Qb (α:=α) e size enc) where
 ac4:=fun ⟨h,hS⟩ hs=>⟨aQ h (fun k hk=>hs k (by rw[hS];exact hk)),hS⟩
 range:=fun ⟨h,hS⟩ k hk=>World.ownsRow.lt h k (by rw[hS]at hk;simpa using hk)
 nodup:=fun {_ _ v _ _} ⟨_,hS⟩=>by rw[hS];cases v.ownBlock <;> simp
 mono:=fun ⟨h,hS⟩ hb=>⟨fO h hb,hS⟩
 one:=fun ⟨h,_⟩=>nX h
def bg {β:Type} (e:TypeId) (R:World->Nat->Value->β->List Nat->Prop) (w:World) (base:Nat) (v:Value) (xs:List β) (S:List Nat):Prop:=
 ∃(vs:List Value) (Ss:List (List Nat)),w.ownsRow base e 1 v xs.length vs/\Ss.length=xs.length /\
  (∀(k:Nat) u x T,vs[k]?=some u->xs[k]?=some x->Ss[k]?=some T->R w base u x T)/\S=v.ownBlock.toList++Ss.flatten/\S.Nodup
theorem ep {β:Type} {R:World->Nat->Value->β->List Nat->Prop} (e:TypeId) (L:ej R):ej (bg e R) where
 ac4:=fun {w w' base v xs S} h hs=>by
  obtain⟨vs,Ss,h1,h2,h3,h4,h5⟩:=h
  refine⟨vs,Ss,aQ h1 (fun k hk=>hs k (by rw[h4];simp[hk])),h2,fun k u x T hu hx hT=>L.ac4 (h3 k u x T hu hx hT) (fun j hj=>hs j ?_),h4,h5⟩
  rw[h4];exact List.mem_append_right _ (List.mem_flatten.2 ⟨T,List.mem_of_getElem? hT,hj⟩)
 range:=fun {w base v xs S} h k hk=>by
  obtain⟨vs,Ss,h1,h2,h3,h4,h5⟩:=h;rw[h4]at hk;rcases List.mem_append.1 hk with hk | hk
  ·exact World.ownsRow.lt h1 k (by simpa using hk)
  ·obtain⟨T,hT,hkT⟩:=List.mem_flatten.1 hk;obtain⟨j,hj⟩:=List.mem_iff_getElem?.1 hT;have aH:j<Ss.length:=al hj;have lW:vs.length=xs.length:=by simpa using h1.1
   obtain⟨u,hu⟩:=ay vs j (by omega);obtain⟨x,hx⟩:=ay xs j (by omega);exact L.range (h3 j u x T hu hx hj) k hkT
 nodup:=fun ⟨_,_,_,_,_,_,h5⟩=>h5
 mono:=fun {w base nn v xs S} h hb=>by
  obtain⟨vs,Ss,h1,h2,h3,h4,h5⟩:=h;exact⟨vs,Ss,fO h1 hb,h2,fun k u x T hu hx hT=>L.mono (h3 k u x T hu hx hT) hb,h4,h5⟩
 one:=fun ⟨_,_,h1,_⟩=>nX h1
section
variable {β : Type} {R : World → Nat → Value → β → List Nat → Prop} {e : TypeId} {w : World} {base g c n : Nat} {xs : List β} {S : List Nat}
theorem iA {e:TypeId} {size:Nat} {m:Nat} {ys:List Value} (h:w.ownsRow base e size (.slice (some ⟨g,0,none⟩) n c) m ys):m=n:=by
 rcases h.2 with⟨h',_⟩ | ⟨g',JI,cur,h',_⟩
 ·simp at h'
 ·simp only[Value.slice.injEq]at h';exact h'.2.1.symm
theorem dh {e:TypeId} {size:Nat} {m:Nat} {ys:List Value} {v:Value} (h:w.ownsRow base e size v m ys):(v=.slice none 0 0/\m=0)\/∃g c,v=.slice (some ⟨g,0,none⟩) m c/\base<=g/\g<w.heap.size/\m<=c/\c<=maxLen:=by
 rcases h.2 with h | ⟨g,cap,cur,rfl,hb,hg,G5,hm,G6,JH⟩
 ·exact .inl h
 ·exact .inr ⟨g,cap,rfl,hb,(Array.getElem?_eq_some_iff.1 hg).1,G5,hm⟩
theorem bg.at_ (h:bg e R w base (.slice (some ⟨g,0,none⟩) n c) xs S) {k:Nat} {x:β} (hx:xs[k]?=some x):∃u T,w.cell? ⟨g,k,none⟩=some u/\w.frozen? ⟨g,k,none⟩=false/\R w base u x T/\(∀j∈T,j∈S)/\g∉T/\g∈S:=by
 obtain⟨vs,Ss,h1,h2,h3,h4,h5⟩:=h;have hk:k<xs.length:=al hx;have hn:=iA h1;have lW:vs.length=xs.length:=by simpa using h1.1
 obtain⟨u,hu⟩:=ay vs k (by omega);obtain⟨T,hT⟩:=ay Ss k (by omega);subst hn;refine⟨u,T,?_,h1.frozenAt k,h3 k u x T hu hx hT,fun j hj=>?_,fun hg=>?_,?_⟩
 ·rw[h1.cellAt (cap:=c) k (by omega)];exact hu
 ·rw[h4];exact List.mem_append_right _ (List.mem_flatten.2 ⟨T,List.mem_of_getElem? hT,hj⟩)
 ·rw[h4]at h5
  have:=(List.nodup_append.1 h5).2.2 g (by simp[Value.ownBlock]) g (List.mem_flatten.2 ⟨T,List.mem_of_getElem? hT,hg⟩)
  exact this rfl
 ·rw[h4];simp[Value.ownBlock]
theorem fX {Ss:List (List Nat)} {k j:Nat} {T:List Nat} (h:j∈(Ss.set k T).flatten):j∈Ss.flatten\/j∈T:=by
 obtain⟨U,hU,hj⟩:=List.mem_flatten.1 h;rcases List.mem_or_eq_of_mem_set hU with h1 | h1
 ·exact .inl (List.mem_flatten.2 ⟨U,h1,hj⟩)
 ·subst h1;exact .inr hj
theorem lz {Ss:List (List Nat)} {k:Nat} {T:List Nat} (h:Ss.flatten.Nodup) (hT:T.Nodup) (hd:∀i j U,i≠k->Ss[i]?=some U->j∈U->j∉T):(Ss.set k T).flatten.Nodup:=by
 induction Ss generalizing k with
 | nil=>simp
 | cons U Ss ih=>
  rw[List.flatten_cons,List.nodup_append]at h
  cases k with
  | zero=>
   rw[List.set_cons_zero,List.flatten_cons,List.nodup_append];refine⟨hT,h.2.1,fun a ha b hb qe=>?_⟩
   subst qe;obtain⟨V,hV,hbV⟩:=List.mem_flatten.1 hb;obtain⟨i,hi⟩:=List.mem_iff_getElem?.1 hV;exact hd (i+1) a V (by omega) (by simpa using hi) hbV ha
  | succ k=>
   rw[List.set_cons_succ,List.flatten_cons,List.nodup_append];refine⟨h.1,ih h.2.1 (fun i j V hi hV hj=>hd (i+1) j V (by omega) (by simpa using hV) hj),fun a ha b hb qe=>?_⟩
   subst qe;rcases fX hb with hb | hb
   ·exact h.2.2 a ha a hb rfl
   ·exact hd 0 a U (by omega) (by simp) ha hb
theorem mE {Ss:List (List Nat)} (h:Ss.flatten.Nodup) {i j x:Nat} {U V:List Nat} (NJ:i≠j) (hU:Ss[i]?=some U) (hV:Ss[j]?=some V) (hx:x∈U):x∉V:=by
 induction Ss generalizing i j with
 | nil=>simp at hU
 | cons W Ss ih=>
  rw[List.flatten_cons,List.nodup_append]at h
  cases i with
  | zero=>
   cases j with
   | zero=>omega
   | succ j=>
    simp at hU hV
    subst hU;exact fun hxV=>h.2.2 x hx x (List.mem_flatten.2 ⟨V,List.mem_of_getElem? hV,hxV⟩) rfl
  | succ i=>
   cases j with
   | zero=>
    simp at hU hV
    subst hV;exact fun hxV=>h.2.2 x hxV x (List.mem_flatten.2 ⟨U,List.mem_of_getElem? hU,hx⟩) rfl
   | succ j=>exact ih (i:=i) (j:=j) h.2.1 (by omega) (by simpa using hU) (by simpa using hV)
theorem bg.store (L:ej R) (h:bg e R w base (.slice (some ⟨g,0,none⟩) n c) xs S) (k:Nat) {u:Value} {x:β} {T:List Nat} (hR:R w base u x T) (hd:∀j∈T,j∉S):
  ∃S',bg e R (w.setCell ⟨g,k,none⟩ u) base (.slice (some ⟨g,0,none⟩) n c) (xs.set k x) S'/\(∀j∈S',j∈S\/j∈T):=by
 obtain⟨vs,Ss,h1,h2,h3,h4,h5⟩:=h;have hn:=iA h1;subst hn;have lW:vs.length=xs.length:=by simpa using h1.1
 have rm:=h5;rw[h4,List.nodup_append]at rm
 have uI:g∈S:=by rw[h4];simp[Value.ownBlock]
 have Qc:g∉Ss.flatten:=fun hg=>rm.2.2 g (by simp[Value.ownBlock]) g hg rfl
 have ct:∀j,j≠g->(w.setCell ⟨g,k,none⟩ u).heap[j]?=w.heap[j]?:=fun j hj=>Below.heap_setCell w _ _ j hj
 refine⟨(Value.slice (some ⟨g,0,none⟩) xs.length c).ownBlock.toList++(Ss.set k T).flatten,⟨vs.set k u,Ss.set k T,?_,by simp[h2],?_,rfl,?_⟩,?_⟩
 ·have:=(h1.stored k u).1
  rw[List.length_set];exact this
 ·intro j u' x' T' hu hx hT
  have hj:j<xs.length:=by have:=al hx;simpa using this
  by_cases lJ:k=j
  ·subst lJ;rw[List.getElem?_set_self (by omega)]at hu hx hT
   cases hu;cases hx;cases hT
   exact L.ac4 hR (fun i hi=>ct i (fun e=>hd i hi (e ▸ uI)))
  ·rw[List.getElem?_set_ne lJ]at hu hx hT;refine L.ac4 (h3 j u' x' T' hu hx hT) (fun i hi=>ct i (fun e=>Qc ?_))
   subst e;exact List.mem_flatten.2 ⟨T',List.mem_of_getElem? hT,hi⟩
 ·rw[List.nodup_append];refine⟨rm.1,lz rm.2.1 (L.nodup hR) (fun i j U _ hU hj UZ=>hd j UZ ?_),fun a ha b hb qe=>?_⟩
  ·rw[h4];exact List.mem_append_right _ (List.mem_flatten.2 ⟨U,List.mem_of_getElem? hU,hj⟩)
  ·subst qe;simp[Value.ownBlock]at ha
   subst ha;rcases fX hb with hb | hb
   ·exact Qc hb
   ·exact hd a hb uI
 ·intro j hj;rcases List.mem_append.1 hj with hj | hj
  ·left;rw[h4];exact List.mem_append_left _ hj
  ·rcases fX hj with hj | hj
   ·left;rw[h4];exact List.mem_append_right _ hj
   ·exact .inr hj
theorem bg.adE (L:ej R) (h:bg e R w base (.slice (some ⟨g,0,none⟩) n c) xs S) {k:Nat} {x:β} (hx:xs[k]?=some x):
  ∃u T,w.cell? ⟨g,k,none⟩=some u/\R w base u x T/\(∀j∈T,j∈S)/\(∀(x':β) (w':World),R w' base u x' T->aR T w w'->bg e R w' base (.slice (some ⟨g,0,none⟩) n c) (xs.set k x') S):=by
 obtain⟨vs,Ss,h1,h2,h3,h4,h5⟩:=h;have hk:k<xs.length:=al hx;have hn:=iA h1;subst hn;have lW:vs.length=xs.length:=by simpa using h1.1
 obtain⟨u,hu⟩:=ay vs k (by omega);obtain⟨T,hT⟩:=ay Ss k (by omega);have rm:=h5;rw[h4,List.nodup_append]at rm;have Qc:g∉Ss.flatten:=fun hg=>rm.2.2 g (by simp[Value.ownBlock]) g hg rfl
 refine⟨u,T,by rw[h1.cellAt (cap:=c) k (by omega)];exact hu,h3 k u x T hu hx hT,fun j hj=>by rw[h4];exact List.mem_append_right _ (List.mem_flatten.2 ⟨T,List.mem_of_getElem? hT,hj⟩),fun x' w' hR ho=>?_⟩
 have xQ:g∉T:=fun hg=>Qc (List.mem_flatten.2 ⟨T,List.mem_of_getElem? hT,hg⟩)
 refine⟨vs,Ss,?_,by simp[h2],?_,h4,h5⟩
 ·rw[List.length_set];refine aQ h1 (fun j hj=>?_)
  simp[Value.ownBlock]at hj
  subst hj;exact ho.block j (World.ownsRow.lt h1 j (by simp[Value.ownBlock])).2 xQ
 ·intro j u' y T' yQ hy sH
  by_cases lJ:k=j
  ·subst lJ;rw[List.getElem?_set_self (by omega)]at hy;cases hy
   rw[hu]at yQ;cases yQ
   rw[hT]at sH;cases sH
   exact hR
  ·rw[List.getElem?_set_ne lJ]at hy;refine L.only (h3 j u' y T' yQ hy sH) ho (fun i hi hiT=>?_)
   exact mE rm.2.1 lJ hT sH hiT hi
theorem bg.made {x0:β} (m:Nat) (hm:m<=maxLen) (h0:∀w base,R w base (.slice none 0 0) x0 []) (w:World):
  bg e R (w.alloc (.cells (List.replicate m (Value.slice none 0 0)).toArray e)) w.heap.size (.slice (some ⟨w.heap.size,0,none⟩) m m) (List.replicate m x0) [w.heap.size]:=by
 refine⟨List.replicate m (Value.slice none 0 0),List.replicate m [],?_,by simp,?_,by simp[Value.ownBlock],by simp⟩
 ·have:=World.ownsRow_lit (base:=w.heap.size) (e:=e) (size:=1) w (List.replicate m (Value.slice none 0 0)).toArray m (Nat.le_refl _) hm (by simp)
  simpa using this
 ·intro k u x T hu hx hT;have yQ:=List.mem_of_getElem? hu;have Bm:=List.mem_of_getElem? hx;have sH:=List.mem_of_getElem? hT;rw[List.mem_replicate]at yQ Bm sH;rw[yQ.2,Bm.2,sH.2];exact h0 _ _
end
def lj (e:Int×Int):List Value:=[.int .i64 e.1,.int .i64 e.2]
def eq:World->Nat->Value->List (Int×Int)->List Nat->Prop:=Qb 104 2 lj
theorem fY:ej eq:=JN _ _ _
def vC:World->Nat->Value->List (List (Int×Int))->List Nat->Prop:=bg 59 eq
theorem kQ:ej vC:=ep _ fY
def kR (w:World) (base:Nat) (v:Value) (xs:List Int) (S:List Nat):Prop:=Own w base v xs/\S=v.ownBlock.toList
theorem er:ej kR where
 ac4:=fun ⟨h,hS⟩ hs=>⟨aQ h (fun k hk=>hs k (by rw[hS];exact hk)),hS⟩
 range:=fun ⟨h,hS⟩ k hk=>World.ownsRow.lt h k (by rw[hS]at hk;simpa using hk)
 nodup:=fun {_ _ v _ _} ⟨_,hS⟩=>by rw[hS];cases v.ownBlock <;> simp
 mono:=fun ⟨h,hS⟩ hb=>⟨fO h hb,hS⟩
 one:=fun ⟨h,_⟩=>nX h
theorem nY {es:List (Int×Int)} {k:Nat} {x:Int×Int} (h:es[k]?=some x):(es.flatMap lj)[k*2]?=some (.int .i64 x.1)/\(es.flatMap lj)[k*2+1]?=some (.int .i64 x.2):=by
 induction es generalizing k with
 | nil=>simp at h
 | cons e es ih=>
  cases k with
  | zero=>simp at h;subst h;simp[lj]
  | succ k=>
   have:=ih (k:=k) (by simpa using h)
   rw[List.flatMap_cons,show(k+1)*2=k*2+2 by omega]
   simp only[lj,List.cons_append,List.nil_append]
   exact⟨by simpa using this.1,by rw[show k*2+2+1=(k*2+1)+1+1 by omega];simpa using this.2⟩
theorem JO {es:List (Int×Int)} {k:Nat} (x:Int×Int) (h:k<es.length):((es.flatMap lj).set (k*2) (.int .i64 x.1)).set (k*2+1) (.int .i64 x.2)=(es.set k x).flatMap lj:=by
 induction es generalizing k with
 | nil=>simp at h
 | cons e es ih=>
  cases k with
  | zero=>simp[lj]
  | succ k=>
   have:=ih (k:=k) (by simpa using h)
   rw[List.flatMap_cons,show(k+1)*2=k*2+1+1 by omega]
   simp only[lj,List.cons_append,List.nil_append,List.set_cons_succ,List.flatMap_cons]at this ⊢
   rw[this]
theorem BV (es:List (Int×Int)):(es.flatMap lj).length=es.length*2:=by
 induction es with
 | nil=>rfl
 | cons e es ih=>rw[List.flatMap_cons,List.length_append,ih,List.length_cons];simp[lj];omega
theorem eq.read {w:World} {base:Nat} {v:Value} {es:List (Int×Int)} {S:List Nat} (h:eq w base v es S):zL w v es:=by
 obtain⟨h,hS⟩:=h;rcases dh h with⟨rfl,h0⟩ | ⟨g,c,rfl,hb,hg,hc,hm⟩
 ·obtain rfl:es=[]:=List.eq_nil_of_length_eq_zero h0
  exact⟨none,0,rfl,Nat.le_refl _,Nat.zero_le _,fun k x hk=>by simp at hk⟩
 ·refine⟨_,c,rfl,hc,hm,fun k x hk=>⟨g,0,rfl,?_,?_⟩⟩
  ·have:=al hk
   rw[Nat.zero_add,h.cellAt (cap:=c) _ (by omega)];exact(nY hk).1
  ·have:=al hk
   rw[Nat.zero_add,h.cellAt (cap:=c) _ (by omega)];exact(nY hk).2
theorem vC.read {w:World} {base:Nat} {v:Value} {dl:List (List (Int×Int))} {S:List Nat} (h:vC w base v dl S):no w v dl:=by
 obtain⟨vs,Ss,h1,h2,h3,h4,h5⟩:=h;rcases dh h1 with⟨rfl,h0⟩ | ⟨g,c,rfl,hb,hg,hc,hm⟩
 ·obtain rfl:dl=[]:=List.eq_nil_of_length_eq_zero h0
  exact⟨none,0,rfl,Nat.le_refl _,Nat.zero_le _,fun k x hk=>by simp at hk⟩
 ·have lW:vs.length=dl.length:=by simpa using h1.1
  refine⟨_,c,rfl,hc,hm,fun k x hk=>?_⟩
  have aH:=al hk;obtain⟨u,hu⟩:=ay vs k (by omega);obtain⟨T,hT⟩:=ay Ss k (by omega)
  exact⟨g,0,u,rfl,by rw[Nat.zero_add,h1.cellAt (cap:=c) _ (by omega)];exact hu,eq.read (h3 k u x T hu hk hT)⟩
def qf:List (List (Int×Int))->Nat
 | []=>0
 | es::r=>2*es.length+qf r
theorem eq.cells {w:World} {base g c n:Nat} {es:List (Int×Int)} {S:List Nat} (h:eq w base (.slice (some ⟨g,0,none⟩) n c) es S) {k:Nat} {x:Int×Int} (hx:es[k]?=some x):
  w.cell? ⟨g,k*2,none⟩=some (.int .i64 x.1)/\w.cell? ⟨g,k*2+1,none⟩=some (.int .i64 x.2)/\w.frozen? ⟨g,k*2,none⟩=false/\w.frozen? ⟨g,k*2+1,none⟩=false:=by
 obtain⟨h,_⟩:=h;have hn:=iA h;subst hn
 have:=al hx
 exact⟨by rw[h.cellAt (cap:=c) _ (by omega)];exact(nY hx).1,by rw[h.cellAt (cap:=c) _ (by omega)];exact(nY hx).2,h.frozenAt _,h.frozenAt _⟩
theorem eq.set {w:World} {base g c n:Nat} {es:List (Int×Int)} {S:List Nat} (h:eq w base (.slice (some ⟨g,0,none⟩) n c) es S) {k:Nat} (hk:k<es.length) (x:Int×Int):
  eq ((w.setCell ⟨g,k*2,none⟩ (.int .i64 x.1)).setCell ⟨g,k*2+1,none⟩ (.int .i64 x.2)) base (.slice (some ⟨g,0,none⟩) n c) (es.set k x) S:=by
 obtain⟨h,hS⟩:=h;have hn:=iA h;subst hn;have h1:=(h.stored (k*2) (.int .i64 x.1)).1;have h2:=(h1.stored (k*2+1) (.int .i64 x.2)).1;rw[JO x hk]at h2;refine⟨?_,hS⟩;rw[List.length_set];exact h2
def au (w:World) (base:Nat) (ve vi vn:Value) (n:aw) (S:List Nat):Prop:=
 ∃S1 S2 S3,vC w base ve n.ends S1/\kR w base vi n.ids S2/\kR w base vn n.ac1 S3/\S=S1++(S2++S3)/\S.Nodup
theorem au.read {w:World} {base:Nat} {ve vi vn:Value} {n:aw} {S:List Nat} (h:au w base ve vi vn n S):aU w ve vi vn n:=by
 obtain⟨S1,S2,S3,h1,h2,h3,_⟩:=h;exact⟨vC.read h1,h2.1.ints,h3.1.ints⟩
theorem au.range {w:World} {base:Nat} {ve vi vn:Value} {n:aw} {S:List Nat} (h:au w base ve vi vn n S):∀k∈S,base<=k/\k<w.heap.size:=by
 obtain⟨S1,S2,S3,h1,h2,h3,h4,_⟩:=h;intro k hk;rw[h4]at hk;rcases List.mem_append.1 hk with hk | hk
 ·exact kQ.range h1 k hk
 ·rcases List.mem_append.1 hk with hk | hk
  ·exact er.range h2 k hk
  ·exact er.range h3 k hk
theorem au.ac4 {w w':World} {base:Nat} {ve vi vn:Value} {n:aw} {S:List Nat} (h:au w base ve vi vn n S) (hs:∀k∈S,w'.heap[k]?=w.heap[k]?):au w' base ve vi vn n S:=by
 obtain⟨S1,S2,S3,h1,h2,h3,h4,h5⟩:=h
 exact⟨S1,S2,S3,kQ.ac4 h1 (fun k hk=>hs k (by rw[h4];simp[hk])),er.ac4 h2 (fun k hk=>hs k (by rw[h4];simp[hk])),er.ac4 h3 (fun k hk=>hs k (by rw[h4];simp[hk])),h4,h5⟩
theorem au.ac2 {w w':World} {base:Nat} {ve vi vn:Value} {n:aw} {S:List Nat} (h:au w base ve vi vn n S) (hb:Below w.heap.size w w'):au w' base ve vi vn n S:=
 h.ac4 fun k hk=>hb.block k (h.range k hk).2
theorem au.mono {w:World} {base nn:Nat} {ve vi vn:Value} {n:aw} {S:List Nat} (h:au w base ve vi vn n S) (hb:nn<=base):au w nn ve vi vn n S:=by
 obtain⟨S1,S2,S3,h1,h2,h3,h4,h5⟩:=h;exact⟨S1,S2,S3,kQ.mono h1 hb,er.mono h2 hb,er.mono h3 hb,h4,h5⟩
def NK (x y:List Int):Bool:=decide (x=y)
theorem FU:(Tryz.prog.info? 59).map (fun i=>(i.zero,i.size,i.bytes))=some (some (.slice none 0 0),1,24):=by kernel_rfl
theorem ro:(Tryz.prog.info? 104).map (fun i=>(i.zero,i.size,i.bytes))=some (some (.agg #[.int .i64 0,.int .i64 0]),2,16):=by kernel_rfl
theorem vD (z:Value) (n:Nat):madeCells #[z] (n*1)=Array.replicate n z:=by
 apply Array.ext'
 rw[toList_madeCells_one];simp
theorem BW (n:Nat) (hn:n<=1000000) (W:World):(Instr.makeSlice 27 (.int .i64 (n:Int)) (.int .i64 (n:Int))).run Tryz.prog W=.ok (.slice (some ⟨W.heap.size,0,none⟩) n n) (W.alloc (.cells (Array.replicate n (Value.slice none 0 0)) 59)):=by
 obtain⟨i0,hi,eu,dP,eO⟩:=info_parts FU
 have hr:=run_make (P:=Tryz.prog) W 27 59 i0 (.slice none 0 0) Tryz.underlying27 hi eu .i64 .i64 n n (by omega) (Int.le_refl _) (by rw[eO];omega) (by omega)
 rw[dP]at hr;simp only[Int.toNat_natCast]at hr;rw[show(Value.slice none 0 0).cells=#[Value.slice none 0 0]from rfl,vD]at hr
 exact hr
theorem nZ (n:Nat) (hn:n<=1000000) (W:World):(Instr.makeSlice 28 (.int .i64 (n:Int)) (.int .i64 (n:Int))).run Tryz.prog W=.ok (.slice (some ⟨W.heap.size,0,none⟩) n n) (W.alloc (.cells (Array.replicate n (Value.int .i64 0)) 3)):=by
 obtain⟨i0,hi,eu,dP,eO⟩:=info_parts l8
 have hr:=run_make (P:=Tryz.prog) W 28 3 i0 (.int .i64 0) Tryz.underlying28 hi eu .i64 .i64 n n (by omega) (Int.le_refl _) (by rw[eO];omega) (by omega)
 rw[dP]at hr;simp only[Int.toNat_natCast]at hr;rw[show(Value.int IntKind.i64 0).cells=#[Value.int .i64 0]from rfl,vD]at hr
 exact hr
def aS (n:Nat):aw:={ ends:=List.replicate n [],ids:=[],ac1:=List.replicate n 0 }
theorem rq (w:World) (base:Nat):eq w base (.slice none 0 0) [] []:=⟨World.ownsRow_nil w base _ _,rfl⟩
theorem kS (w:World) (base:Nat):kR w base (.slice none 0 0) [] []:=⟨iP w base,rfl⟩
theorem BX (w:World) (n:Nat) (hn:n<=1000000):kR (w.alloc (.cells (Array.replicate n (Value.int .i64 0)) 3)) w.heap.size (.slice (some ⟨w.heap.size,0,none⟩) n n) (List.replicate n 0) [w.heap.size]:=by
 have:=dv w (List.replicate n 0) (by simp[maxLen];omega)
 simp only[List.length_replicate,List.map_replicate,List.toArray_replicate]at this;exact⟨this,rfl⟩
theorem vE (w:World) (n:Nat) (hn:n<=1000000):vC (w.alloc (.cells (Array.replicate n (Value.slice none 0 0)) 59)) w.heap.size (.slice (some ⟨w.heap.size,0,none⟩) n n) (List.replicate n []) [w.heap.size]:=
 by have:=bg.made (R:=eq) (e:=59) n (by simp[maxLen];omega) rq w;rw[List.toArray_replicate]at this;exact this
theorem D8 (w:World) (B:Obj) (n:Nat) (hn:n<=1000000):
  au (((w.alloc B).alloc (.cells (Array.replicate n (Value.slice none 0 0)) 59)).alloc (.cells (Array.replicate n (Value.int .i64 0)) 3)) w.heap.size
   (.slice (some ⟨w.heap.size+1,0,none⟩) n n) (.slice none 0 0) (.slice (some ⟨w.heap.size+1+1,0,none⟩) n n) (aS n) [w.heap.size+1,w.heap.size+1+1]:=by
 have h1:=vE (w.alloc B) n hn;have h2:=BX ((w.alloc B).alloc (.cells (Array.replicate n (Value.slice none 0 0)) 59)) n hn;simp only[World.size_alloc]at h1 h2;exact⟨[w.heap.size+1],[],[w.heap.size+1+1],kQ.mono (kQ.ac2 h1 (ao _ _)) (by omega),kS _ _,er.mono h2 (by omega),rfl,by simp⟩
theorem BY (w:World) (B:Obj) (n:Nat) (hn:n<=1000000):
  au (((w.alloc B).alloc (.cells (Array.replicate n (Value.int .i64 0)) 3)).alloc (.cells (Array.replicate n (Value.slice none 0 0)) 59)) w.heap.size
   (.slice (some ⟨w.heap.size+1+1,0,none⟩) n n) (.slice none 0 0) (.slice (some ⟨w.heap.size+1,0,none⟩) n n) (aS n) [w.heap.size+1+1,w.heap.size+1]:=by
 have h1:=BX (w.alloc B) n hn;have h2:=vE ((w.alloc B).alloc (.cells (Array.replicate n (Value.int .i64 0)) 3)) n hn;simp only[World.size_alloc]at h1 h2;exact⟨[w.heap.size+1+1],[],[w.heap.size+1],kQ.mono h2 (by omega),kS _ _,er.mono (er.ac2 h1 (ao _ _)) (by omega),rfl,by simp⟩
theorem JP (w:World) (a b c:Obj):Below w.heap.size w (((w.alloc a).alloc b).alloc c):=(((Below.refl _ _).alloc (Nat.le_refl _) _).alloc (by simp) _).alloc (by simp;omega) _
theorem au.drew {w:World} {base:Nat} {ve vi vn:Value} {n:aw} {S:List Nat} (h:au w base ve vi vn n S):au w.drew base ve vi vn n S:=h.ac4 fun _ _=>rfl
def qu (w:World) (n:aw) (e:Ending) (w':World):Prop:=∃ve vi vn S,e=.returned (.agg #[ve,vi,vn])/\au w' w.heap.size ve vi vn n S/\Below w.heap.size w w'
theorem au.ads {w:World} {base g c n:Nat} {vi vn:Value} {N:aw} {S:List Nat} (h:au w base (.slice (some ⟨g,0,none⟩) n c) vi vn N S) (k:Nat) {u:Value} {x:List (Int×Int)} {T:List Nat} (hR:eq w base u x T) (hd:∀j∈T,j∉S):
  ∃S',au (w.setCell ⟨g,k,none⟩ u) base (.slice (some ⟨g,0,none⟩) n c) vi vn { N with ends:=N.ends.set k x } S'/\∀j∈S',j∈S\/j∈T:=by
 obtain⟨S1,S2,S3,h1,h2,h3,h4,h5⟩:=h;rw[h4,List.nodup_append]at h5;obtain⟨n1,n2,n3⟩:=h5
 have hg:g∈S1:=by
  obtain⟨vs,Ss,_,_,_,e,_⟩:=h1
  rw[e];simp[Value.ownBlock]
 obtain⟨NL,o1,hs⟩:=bg.store fY h1 k hR (fun j hj hS=>hd j hj (by rw[h4];exact List.mem_append_left _ hS))
 have ho:aR [g] w (w.setCell ⟨g,k,none⟩ u):=(aR.refl _ _).setCell (.inl (by simp)) _
 have d:∀j∈S2++S3,j∉[g]:=fun j hj hg'=>by simp at hg';subst hg';exact n3 j hg j hj rfl
 refine⟨NL++(S2++S3),⟨NL,S2,S3,o1,er.only h2 ho (fun j hj=>d j (List.mem_append_left _ hj)),er.only h3 ho (fun j hj=>d j (List.mem_append_right _ hj)),rfl,?_⟩,?_⟩
 ·rw[List.nodup_append];refine⟨kQ.nodup o1,n2,fun a ha b hb qe=>?_⟩
  subst qe;rcases hs a ha with h | h
  ·exact n3 a h a hb rfl
  ·exact hd a h (by rw[h4];exact List.mem_append_right _ hb)
 ·intro j hj;rcases List.mem_append.1 hj with hj | hj
  ·rcases hs j hj with h | h
   ·exact .inl (by rw[h4];exact List.mem_append_left _ h)
   ·exact .inr h
  ·exact .inl (by rw[h4];exact List.mem_append_right _ hj)
theorem au.ac_ {w:World} {base g c n:Nat} {vi vn:Value} {N:aw} {S:List Nat} (h:au w base (.slice (some ⟨g,0,none⟩) n c) vi vn N S) {k:Nat} {x:List (Int×Int)} (hx:N.ends[k]?=some x):
  ∃u T,w.cell? ⟨g,k,none⟩=some u/\w.frozen? ⟨g,k,none⟩=false/\eq w base u x T/\base<=g/\g<w.heap.size/\g∈S:=by
 obtain⟨S1,S2,S3,h1,_,_,h4,_⟩:=h;obtain⟨u,T,a,b,c,_,_,d⟩:=bg.at_ h1 hx
 exact⟨u,T,a,b,c,(kQ.range h1 g d).1,(kQ.range h1 g d).2,by rw[h4];exact List.mem_append_left _ d⟩
def aZ (w:World) (b:Nat) (x y z:Value):Prop:=∃r,w.heap[b]?=some (.cells #[x,y,z] r)
theorem aZ.cells {w:World} {b:Nat} {x y z:Value} (h:aZ w b x y z):w.cell? ⟨b,0,none⟩=some x/\w.cell? ⟨b,1,none⟩=some y/\w.cell? ⟨b,2,none⟩=some z/\w.frozen? ⟨b,0,none⟩=false/\w.frozen? ⟨b,1,none⟩=false/\w.frozen? ⟨b,2,none⟩=false:=by
 obtain⟨r,h⟩:=h;simp[World.cell?,World.frozen?,h]
theorem aZ.lt {w:World} {b:Nat} {x y z:Value} (h:aZ w b x y z):b<w.heap.size:=by
 obtain⟨r,h⟩:=h;exact(Array.getElem?_eq_some_iff.1 h).1
theorem aZ.below {w w':World} {B b:Nat} {x y z:Value} (h:aZ w b x y z) (hb:Below B w w') (hB:b<B):aZ w' b x y z:=by
 obtain⟨r,h⟩:=h;exact⟨r,(hb.block b hB).trans h⟩
theorem aZ.set {w:World} {b:Nat} {x y z u:Value} {a:Addr} (h:aZ w b x y z) (ha:a.block≠b):aZ (w.setCell a u) b x y z:=by
 obtain⟨r,h⟩:=h;exact⟨r,(Below.heap_setCell w a u b (Ne.symm ha)).trans h⟩
theorem aZ.alloc {w:World} {b:Nat} {x y z:Value} (h:aZ w b x y z) (o:Obj):aZ (w.alloc o) b x y z:=h.below (ao w o) h.lt
theorem aZ.new (w:World) (x y z:Value) (t:TypeId):aZ (w.alloc (.cells #[x,y,z] t)) w.heap.size x y z:=⟨t,by show(w.heap.push _)[w.heap.size]?=_;rw[Array.getElem?_push_size]⟩
theorem Hv (w:World) (a b c d:Int):eq (w.alloc (.cells #[.int .i64 a,.int .i64 b,.int .i64 c,.int .i64 d] 104)) w.heap.size (.slice (some ⟨w.heap.size,0,none⟩) 2 2) [(a,b),(c,d)] [w.heap.size]:=by
 have:=World.ownsRow_lit (base:=w.heap.size) (e:=104) (size:=2) w #[.int .i64 a,.int .i64 b,.int .i64 c,.int .i64 d] 2 (Nat.le_refl _) (by simp[maxLen]) (by simp)
 exact⟨this,rfl⟩
theorem rs {w:World} {ops:Array Oper} {rest:List Oper} {o:Oper} {a:Act} {Q:Exit->Act->World->Prop} (iz:o.guard=none) (s x:Operand)
  (ho:o.op=.call { callee:=.builtin .append,args:=#[s,x],argTypes:=#[28,28] }) {base:Nat} {v:Value} {xs:List Int} (hs:a.eval s=v) (h:Own w base v xs) (b:Nat) (y:Int)
  (hx:a.eval x=.slice (some ⟨b,0,none⟩) 1 1) (hc:w.cell? ⟨b,0,none⟩=some (.int .i64 y)) (hl:xs.length+1<=17592186044416) (iB:base<=w.heap.size)
  (k:∀g cap w',Own w' base (.slice (some ⟨g,0,none⟩) (xs.length+1) cap) (xs++[y])->w.grownBy w' v.ownBlock->(v.ownBlock=some g\/g=w.heap.size)->g<w'.heap.size->wpList Tryz.prog ops Q rest (a.put o.dst (.slice (some ⟨g,0,none⟩) (xs.length+1) cap)) w'):wpList Tryz.prog ops Q (o::rest) a w:=by
 obtain⟨i0,hi,eu,dP,eO⟩:=info_parts l8
 refine wpList_append_lies w iz s x 28 ho base 3 i0 (.int .i64 0) 1 8 Tryz.underlying28 hi eu dP eO rfl (by decide) v xs.length (xs.map (Value.int .i64)) hs h ⟨b,0,none⟩ 1 1 [.int .i64 y] hx rfl
  (by intro j u hj;match j,hj with | 0,hj=>(simp at hj;subst hj;simpa[Addr.add]using hc) | j+1,hj=>simp at hj) (by simp[Value.oneCell']) (by omega) (by unfold maxLen;omega) (by omega) iB w.heap.size rfl ?_
 intro g cap w' h1 h2 h3 h4;refine k g cap w' ?_ h2 h3 h4;unfold Own;simpa using h1
theorem bg.grow {β:Type} {R:World->Nat->Value->β->List Nat->Prop} {e:TypeId} {w:World} {base g c n:Nat} {xs:List β} {S:List Nat} (L:ej R) (h:bg e R w base (.slice (some ⟨g,0,none⟩) n c) xs S) {k:Nat} {x:β} (hx:xs[k]?=some x):
  ∃u T,w.cell? ⟨g,k,none⟩=some u/\R w base u x T/\(∀j∈T,j∈S)/\g∉T/\(∀(u':Value) (x':β) (T':List Nat) (w':World),R w' base u' x' T'->aR T w w'->(∀j∈T',j∈T\/w.heap.size<=j)->∃S',bg e R (w'.setCell ⟨g,k,none⟩ u') base (.slice (some ⟨g,0,none⟩) n c) (xs.set k x') S'/\∀j∈S',j∈S\/w.heap.size<=j):=by
 have hS:=(ep e L).range h;obtain⟨vs,Ss,h1,h2,h3,h4,h5⟩:=h;have hk:k<xs.length:=al hx;have hn:=iA h1;subst hn;have lW:vs.length=xs.length:=by simpa using h1.1
 obtain⟨u,hu⟩:=ay vs k (by omega);obtain⟨T,hT⟩:=ay Ss k (by omega);have rm:=h5;rw[h4,List.nodup_append]at rm
 have uI:g∈S:=by rw[h4];simp[Value.ownBlock]
 have Qc:g∉Ss.flatten:=fun hg=>rm.2.2 g (by simp[Value.ownBlock]) g hg rfl
 have NM:∀j∈T,j∈S:=fun j hj=>by rw[h4];exact List.mem_append_right _ (List.mem_flatten.2 ⟨T,List.mem_of_getElem? hT,hj⟩)
 have xQ:g∉T:=fun hg=>Qc (List.mem_flatten.2 ⟨T,List.mem_of_getElem? hT,hg⟩)
 refine⟨u,T,by rw[h1.cellAt (cap:=c) k (by omega)];exact hu,h3 k u x T hu hx hT,NM,xQ,fun u' x' T' w' hR ho sH=>?_⟩
 have aap:=(hS g uI).2
 have V3:g∉T':=fun hg=>by
  rcases sH g hg with h | h
  ·exact xQ h
  ·omega
 have JQ:w'.ownsRow base e 1 (.slice (some ⟨g,0,none⟩) xs.length c) xs.length vs:=aQ h1 (fun j hj=>by
  simp[Value.ownBlock]at hj
  subst hj
  exact ho.block _ aap xQ)
 have ct:∀j,j≠g->(w'.setCell ⟨g,k,none⟩ u').heap[j]?=w'.heap[j]?:=fun j hj=>Below.heap_setCell w' _ _ j hj
 refine⟨(Value.slice (some ⟨g,0,none⟩) xs.length c).ownBlock.toList++(Ss.set k T').flatten,⟨vs.set k u',Ss.set k T',?_,by simp[h2],?_,rfl,?_⟩,?_⟩
 ·have:=(JQ.stored k u').1
  rw[List.length_set];exact this
 ·intro j u2 x2 T2 zM sq U0
  by_cases lJ:k=j
  ·subst lJ;rw[List.getElem?_set_self (by omega)]at zM sq U0
   cases zM;cases sq;cases U0
   exact L.ac4 hR (fun i hi=>ct i (fun e=>V3 (e ▸ hi)))
  ·rw[List.getElem?_set_ne lJ]at zM sq U0;have h0:=h3 j u2 x2 T2 zM sq U0;refine L.ac4 h0 (fun i hi=>(ct i (fun e=>Qc ?_)).trans (ho.block i (L.range h0 i hi).2 (mE rm.2.1 (Ne.symm lJ) U0 hT hi)))
   subst e;exact List.mem_flatten.2 ⟨T2,List.mem_of_getElem? U0,hi⟩
 ·rw[List.nodup_append];refine⟨rm.1,lz rm.2.1 (L.nodup hR) (fun i j U g7 hU hj UZ=>?_),fun a ha b hb qe=>?_⟩
  ·rcases sH j UZ with h | h
   ·exact mE rm.2.1 g7 hU hT hj h
   ·have:=(hS j (by rw[h4];exact List.mem_append_right _ (List.mem_flatten.2 ⟨U,List.mem_of_getElem? hU,hj⟩))).2
    omega
  ·subst qe;simp[Value.ownBlock]at ha
   subst ha;rcases fX hb with hb | hb
   ·exact Qc hb
   ·exact V3 hb
 ·intro j hj;rcases List.mem_append.1 hj with hj | hj
  ·left;rw[h4];exact List.mem_append_left _ hj
  ·rcases fX hj with hj | hj
   ·left;rw[h4];exact List.mem_append_right _ hj
   ·rcases sH j hj with h | h
    ·exact .inl (NM j h)
    ·exact .inr h
theorem au.ade {w:World} {base g c n:Nat} {vi vn:Value} {N:aw} {S:List Nat} (h:au w base (.slice (some ⟨g,0,none⟩) n c) vi vn N S) {k:Nat} {x:List (Int×Int)} (hx:N.ends[k]?=some x):
  ∃u T,w.cell? ⟨g,k,none⟩=some u/\w.frozen? ⟨g,k,none⟩=false/\eq w base u x T/\(∀j∈T,j∈S)/\g∉T/\g∈S/\(∀(u':Value) (x':List (Int×Int)) (T':List Nat) (w':World),eq w' base u' x' T'->aR T w w'->(∀j∈T',j∈T\/w.heap.size<=j) ->
   ∃S',au (w'.setCell ⟨g,k,none⟩ u') base (.slice (some ⟨g,0,none⟩) n c) vi vn { N with ends:=N.ends.set k x' } S'/\∀j∈S',j∈S\/w.heap.size<=j):=by
 have NN:=h.range;obtain⟨S1,S2,S3,h1,h2,h3,h4,h5⟩:=h;obtain⟨_,_,_,hf,_,_,_,FV⟩:=bg.at_ h1 hx;obtain⟨u,T,hu,hR,NM,xQ,BZ⟩:=bg.grow fY h1 hx
 have aaq:∀j∈T,j∈S:=fun j hj=>by rw[h4];exact List.mem_append_left _ (NM j hj)
 have uI:g∈S:=by rw[h4];exact List.mem_append_left _ FV
 refine⟨u,T,hu,hf,hR,aaq,xQ,uI,fun u' x' T' w' hR' ho sH=>?_⟩
 obtain⟨NL,o1,hs⟩:=BZ u' x' T' w' hR' ho sH;rw[h4,List.nodup_append]at h5;obtain⟨n1,n2,n3⟩:=h5;have dW:aR (g::T) w (w'.setCell ⟨g,k,none⟩ u'):=(ho.mono (fun j hj=>List.mem_cons_of_mem _ hj)).setCell (.inl (by simp)) _
 have d:∀j∈S2++S3,j∉g::T:=fun j hj hg'=>by
  rcases List.mem_cons.1 hg' with rfl | hg'
  ·exact n3 _ FV _ hj rfl
  ·exact n3 _ (NM j hg') _ hj rfl
 refine⟨NL++(S2++S3),⟨NL,S2,S3,o1,er.only h2 dW (fun j hj=>d j (List.mem_append_left _ hj)),er.only h3 dW (fun j hj=>d j (List.mem_append_right _ hj)),rfl,?_⟩,?_⟩
 ·rw[List.nodup_append];refine⟨kQ.nodup o1,n2,fun a ha b hb qe=>?_⟩
  subst qe;rcases hs a ha with h | h
  ·exact n3 a h a hb rfl
  ·have:=(NN a (by rw[h4];exact List.mem_append_right _ hb)).2
   omega
 ·intro j hj;rcases List.mem_append.1 hj with hj | hj
  ·rcases hs j hj with h | h
   ·exact .inl (by rw[h4];exact List.mem_append_left _ h)
   ·exact .inr h
  ·exact .inl (by rw[h4];exact List.mem_append_right _ hj)
theorem vF (w:World) (base:Nat):au w base (.slice none 0 0) (.slice none 0 0) (.slice none 0 0) ⟨[],[],[]⟩ []:=
 ⟨[],[],[],⟨[],[],World.ownsRow_nil w base _ _,rfl,fun k u x T h=>by simp at h,rfl,by simp⟩,kS _ _,kS _ _,rfl,by simp⟩
theorem bf {w w':World} (hb:Below w.heap.size w w') {a:Addr} {u:Value} (h:w.cell? a=some u) (hf:w.frozen? a=false):w'.frozen? a=false:=(hb.frozen (World.block_lt_of_cell? w _ h)).trans hf
theorem aR.fz {S:List Nat} {a b:World} (h:aR S a b) {p:Addr} {u:Value} (hp:p.block∉S) (hc:a.cell? p=some u) (hf:a.frozen? p=false):b.frozen? p=false:=
 (World.frozen?_of_block (h.block p.block (World.block_lt_of_cell? a _ hc) hp)).trans hf
open Go.ChangeShapes Go.WideShapes Go.ChangeAt Go.RowKit Go.Joins Go.Deep
section
variable {H : Type} {enc : TypeId × Value → H} {W : World}
end
def left (l:Int) (n:Nat):Int:=if l-n<0 then -1 else l-n
def lL (dl:List (List (Int×Int))):Nat:=(dl.map List.length).sum
theorem B3 {dl:List (List (Int×Int))} {k:Nat} {es:List (Int×Int)} (h:dl[k]?=some es):lL (dl.take (k+1))=lL (dl.take k)+es.length:=by
 unfold lL
 rw[List.take_add_one,h];simp
theorem Hw (dl:List (List (Int×Int))) (k:Nat):lL (dl.take k)<=lL dl:=by
 unfold lL
 conv=>rhs;rw[<- List.take_append_drop k dl]
 rw[List.map_append,List.sum_append];omega
def NO (dl:List (List (Int×Int))):Nat:=dl.length+lL dl
def gO (n:aw):Nat:=NO n.ends+n.ids.length+n.ac1.length
theorem D9 (n:Nat):(List.replicate n ((0:Int),(0:Int))).flatMap lj=List.replicate (n*2) (Value.int .i64 0):=by
 induction n with
 | zero=>rfl
 | succ n ih=>rw[List.replicate_succ,List.flatMap_cons,ih,show(n+1)*2=n*2+1+1 by omega,List.replicate_succ,List.replicate_succ];rfl
theorem HH (n:Nat):(madeCells #[Value.int .i64 0,Value.int .i64 0] (n*2)).toList=(List.replicate n ((0:Int),(0:Int))).flatMap lj:=by
 rw[D9];apply List.ext_getElem (by simp[madeCells])
 intro i h1 h2;simp[madeCells]
 rcases Nat.mod_two_eq_zero_or_one i with h | h <;> simp[h]
section
variable {ops : Array Oper} {rest : List Oper} {o : Oper} {a : Act} {Q : Exit → Act → World → Prop}
theorem NP (w:World) (hg:o.guard=none) (l c:Operand) (qc:o.op=Op.makeSlice 59 l c) (L C:Int) (n:Nat) (hl:a.eval l=.int .i64 L) (hc:a.eval c=.int .i64 C) (hL:L=(n:Int)) (hC:C=(n:Int)) (hn:n<=1099511627776)
  (hK:∀w',eq w' w.heap.size (.slice (some ⟨w.heap.size,0,none⟩) n n) (List.replicate n (0,0)) [w.heap.size]->Below w.heap.size w w'->wpList Tryz.prog ops Q rest (a.put o.dst (.slice (some ⟨w.heap.size,0,none⟩) n n)) w'):wpList Tryz.prog ops Q (o::rest) a w:=by
 obtain⟨i0,hi,eu,dP,eO⟩:=info_parts ro
 refine wpList_make_full w hg l c 59 qc w.heap.size 104 i0 (.agg #[.int .i64 0,.int .i64 0]) 2 Tryz.underlying59 hi eu dP .i64 .i64 L C n hl hc hL hC (by rw[eO];omega) (by unfold maxLen;omega) (Nat.le_refl _) ?_
 intro w' ho xO;rw[show(Value.agg #[Value.int IntKind.i64 0,Value.int IntKind.i64 0]).cells=#[Value.int .i64 0,Value.int .i64 0]from rfl,HH]at ho
 exact hK w' ⟨by rw[List.length_replicate];exact ho,by simp[Value.ownBlock]⟩ (tp xO)
end
section
variable {ops : Array Oper} {rest : List Oper} {o : Oper} {a : Act} {Q : Exit → Act → World → Prop}
end
theorem aZ.adl {w:World} {b:Nat} {x y z u:Value} (h:aZ w b x y z):aZ (w.setCell ⟨b,0,none⟩ u) b u y z:=by
 obtain⟨r,h⟩:=h;exact⟨r,by simp[World.setCell,Array.getElem?_modify,h]⟩
theorem aZ.adr {w:World} {b:Nat} {x y z u:Value} (h:aZ w b x y z):aZ (w.setCell ⟨b,1,none⟩ u) b x u z:=by
 obtain⟨r,h⟩:=h;exact⟨r,by simp[World.setCell,Array.getElem?_modify,h]⟩
theorem aZ.adn {w:World} {b:Nat} {x y z u:Value} (h:aZ w b x y z):aZ (w.setCell ⟨b,2,none⟩ u) b x y u:=by
 obtain⟨r,h⟩:=h;exact⟨r,by simp[World.setCell,Array.getElem?_modify,h]⟩
def rt (ids:List Int) (nodes:Int):Bool:=((List.range ids.length).all fun i=>fT 1 999999 (ids.getD i 0) && !((ids.take i).contains (ids.getD i 0)))&&((ids.length:Int)==0||(ids.length:Int)==nodes)
theorem jq {ids:List Int} {i:Nat} (h:i<ids.length):ids.getD i 0=ids[i]:=by simp[zDd,h]
theorem B4 (ids:List Int):(∀i (h:i<ids.length),ids[i]∉ids.take i)↔ids.Nodup:=by
 unfold List.Nodup;rw[List.pairwise_iff_getElem];constructor
 ·intro h i j hi hj NJ e
  refine h j hj (List.mem_iff_getElem.2 ⟨i,by simp;omega,?_⟩)
  rw[List.getElem_take];exact e
 ·intro h i hi hm;obtain⟨j,hj,e⟩:=List.mem_iff_getElem.1 hm;simp at hj
  rw[List.getElem_take]at e;exact h j i (by omega) hi (by omega) e
theorem D_ (lo up:Int) (s:List Int):rh lo up s=true↔(∀x∈s,fT lo up x=true)/\s.Pairwise (· < ·):=by
 unfold rh;rw[List.all_eq_true];constructor
 ·intro h
  have h':∀i (hl:i<s.length),fT lo up s[i]=true/\(i=0\/s.getD (i-1) 0<s[i]):=fun i hl=>by
   have:=h i (List.mem_range.2 hl)
   rw[jq hl]at this;simpa using this
  refine⟨fun x hx=>?_,?_⟩
  ·obtain⟨i,hi,rfl⟩:=List.mem_iff_getElem.1 hx;exact(h' i hi).1
  ·rw[List.pairwise_iff_getElem];intro i j hi hj NJ
   induction j with
   | zero=>omega
   | succ j ih=>
    have hs:=(h' (j+1) hj).2;rw[Nat.add_sub_cancel,jq (show j<s.length by omega)]at hs
    rcases Nat.lt_or_ge i j with h1 | h1
    ·have:=ih (by omega) h1
     omega
    ·obtain rfl:i=j:=by omega
     omega
 ·rintro⟨h1,h2⟩ i hi;have hl:=List.mem_range.1 hi;rw[jq hl];rw[List.pairwise_iff_getElem]at h2;rw[Bool.and_eq_true];refine⟨h1 _ (List.getElem_mem hl),?_⟩;rcases Nat.eq_zero_or_pos i with h0 | h0
  ·simp[h0]
  ·have:=h2 (i-1) i (by omega) hl (by omega)
   rw[jq (show i-1<s.length by omega)]
   simp[this]
theorem JR (ids:List Int) (nodes:Int):rt ids nodes=true↔(∀x∈ids,fT 1 999999 x=true)/\ids.Nodup/\((ids.length:Int)=0\/(ids.length:Int)=nodes):=by
 unfold rt;rw[Bool.and_eq_true,List.all_eq_true,<- B4];constructor
 ·rintro⟨h,h2⟩
  have h':∀i (hl:i<ids.length),fT 1 999999 ids[i]=true/\ids[i]∉ids.take i:=fun i hl=>by
   have:=h i (List.mem_range.2 hl)
   rw[jq hl]at this;simpa using this
  refine⟨fun x hx=>?_,fun i hl=>(h' i hl).2,by simpa using h2⟩
  obtain⟨i,hi,rfl⟩:=List.mem_iff_getElem.1 hx;exact(h' i hi).1
 ·rintro⟨h1,h2,h3⟩;refine⟨fun i hi=>?_,by simpa using h3⟩
  have hl:=List.mem_range.1 hi;rw[jq hl,Bool.and_eq_true];exact⟨h1 _ (List.getElem_mem hl),by simpa using h2 i hl⟩
theorem FW (ids:List Int) (nodes:Int):rt ids nodes=BO ids nodes:=by
 rw[Bool.eq_iff_iff,JR]
 cases Rx:ids with
 | nil=>simp[BO]
 | cons a l=>
  rw[<- Rx]
  have yJ:ids.isEmpty=false:=by rw[Rx];rfl
  have hl0:¬(ids.length:Int)=0:=by rw[Rx];simp;omega
  unfold BO;rw[yJ,Bool.false_or,Bool.and_eq_true,D_,beq_iff_eq];have hp:=List.mergeSort_perm ids (fun x y=>decide (x<=y))
  have hs:(ids.mergeSort fun x y=>decide (x<=y)).Pairwise fun a b=>decide (a<=b)=true:=
   List.pairwise_mergeSort (fun a b c h1 h2=>by simp at h1 h2 ⊢;omega) (fun a b=>by simp;omega) ids
  constructor
  ·rintro⟨h1,h2,h3⟩;refine⟨by omega,fun x hx=>h1 x (hp.mem_iff.1 hx),?_⟩
   have hn:=hp.nodup_iff.2 h2
   exact(hs.and hn).imp fun {a b} ⟨h,h'⟩=>by simp at h;omega
  ·rintro⟨h1,h2,h3⟩;refine⟨fun x hx=>h2 x (hp.mem_iff.2 hx),hp.nodup_iff.1 (h3.imp fun {a b} h=>by omega),.inr h1⟩
def pN (xs:List Int) (x:Int):Bool:=xs.contains x
theorem sI (v:Value) (xs:List Int) (x:Int) (w:World) (h:bO w v xs):Calls Tryz.prog 110 #[v,.int .i64 x] w fun e w'=>e=.returned (.bool (pN xs x))/\w=w':=by
 obtain⟨A,c,rfl,f_,hm,hA⟩:=h;unfold maxLen at hm;have HA:=zh hA;clear hA
 go_enter Tryz.func110,Tryz.ntmps110
 go_wp2
 go_loop [9] (fun i=>∃k:Nat,k<=xs.length/\i=.int .i64 k/\x∉xs.take k) (fun i=>xs.length-(intOf i).toNat)
 case atStart=>exact⟨0,Nat.zero_le _,rfl,by simp⟩
 case round=>
  obtain⟨k,hk,rfl,me⟩:=hrel;have zN:=zh me;clear me
  by_cases aH:k<xs.length
  ·obtain⟨y,hy⟩:=ay xs k aH;obtain⟨b,off,rfl,fJ⟩:=HA.out k y hy;have Hy:=zh hy;clear hy
   by_cases yR:y=x
   ·subst yR;go_wp2;go_ret
    exact⟨dn (by unfold pN;simpa using List.mem_of_getElem? Hy.out),rfl⟩
   ·go_wp2
    go_round
    case rel=>
     refine⟨k+1,by omega,by simp,?_⟩
     rw[bX Hy.out];simp only[List.mem_append,List.mem_singleton,not_or];exact⟨zN.out,fun e=>yR e.symm⟩
    case measure=>simp[intOf];omega
  ·go_wp2;go_ret
   have:=zN.out
   rw[l4 xs aH]at this
   exact⟨aB (by unfold pN;simpa using this),rfl⟩
theorem bO.take {w:World} {A:Option Addr} {c:Nat} {xs:List Int} (h:bO w (.slice A xs.length c) xs) (k:Nat) (hk:k<=xs.length):bO w (.slice A k c) (xs.take k):=by
 obtain⟨A',c',hv,f_,hm,hA⟩:=h;cases hv
 refine⟨A,c,by simp[Nat.min_eq_left hk],by simp;omega,hm,fun j x hx=>?_⟩
 have hj:j<k:=by have:=al hx;simp at this;omega
 rw[List.getElem?_take,if_pos hj]at hx;exact hA j x hx
theorem HV (v:Value) (ids:List Int) (nodes:Int) (w:World) (h:bO w v ids):Calls Tryz.prog 100 #[v,.int .i64 nodes] w fun e w'=>e=.returned (.bool (rt ids nodes))/\w=w':=by
 have H:=zh h;obtain⟨A,c,rfl,f_,hm,hA⟩:=h;unfold maxLen at hm;have HA:=zh hA;clear hA
 go_enter Tryz.func100,Tryz.ntmps100
 go_wp2
 go_loop [9] (fun i=>∃k:Nat,k<=ids.length/\i=.int .i64 k/\∀j,j<k->fT 1 999999 (ids.getD j 0)=true/\pN (ids.take j) (ids.getD j 0)=false) (fun i=>ids.length-(intOf i).toNat)
 case atStart=>exact⟨0,Nat.zero_le _,rfl,fun j hj=>by omega⟩
 case round=>
  obtain⟨k,hk,rfl,me⟩:=hrel;have zN:=zh me;clear me
  by_cases aH:k<ids.length
  ·obtain⟨y,hy⟩:=ay ids k aH;obtain⟨b,off,rfl,fJ⟩:=HA.out k y hy;have hgy:ids.getD k 0=y:=by simp[hy]
   have Hg:=zh hgy;clear hy hgy;cases hi:fT 1 999999 y
   ·go_wp2_with (go_at_call 52;refine(fM _ _ _ _).mono ?_;rintro e w' ⟨rfl,rfl⟩)
    go_ret;refine⟨aB ?_,rfl⟩;unfold rt;rw[Bool.and_eq_false_iff]
    left
    rw[List.all_eq_false]
    exact⟨k,List.mem_range.2 aH,by rw[Hg.out,hi];simp⟩
   ·cases hc:pN (ids.take k) y
    ·go_wp2_with (first | (go_at_call 52;refine(fM _ _ _ _).mono ?_;rintro e w' ⟨rfl,rfl⟩) | (go_at_call 110;refine(sI _ (ids.take k) y _ (H.out.take k hk)).mono ?_;rintro e w' ⟨rfl,rfl⟩))
     go_round
     case rel=>
      refine⟨k+1,by omega,by simp,fun j hj=>?_⟩
      rcases Nat.lt_or_ge j k with h | h
      ·exact zN.out j h
      ·obtain rfl:j=k:=by omega
       rw[Hg.out];exact⟨hi,hc⟩
     case measure=>simp[intOf];omega
    ·go_wp2_with (first | (go_at_call 52;refine(fM _ _ _ _).mono ?_;rintro e w' ⟨rfl,rfl⟩) | (go_at_call 110;refine(sI _ (ids.take k) y _ (H.out.take k hk)).mono ?_;rintro e w' ⟨rfl,rfl⟩))
     go_ret;refine⟨aB ?_,rfl⟩;unfold rt;rw[Bool.and_eq_false_iff]
     left
     rw[List.all_eq_false]
     exact⟨k,List.mem_range.2 aH,by rw[Hg.out,hi];unfold pN at hc;rw[hc];simp⟩
  ·have bH:Hid (rt ids nodes=((ids.length:Int)==0||(ids.length:Int)==nodes)):=by
    show _=_
    unfold rt
    rw[show((List.range ids.length).all fun i=>fT 1 999999 (ids.getD i 0) && !((ids.take i).contains (ids.getD i 0)))=true from List.all_eq_true.2 (fun j hj=>by
     have:=zN.out j (by have:=List.mem_range.1 hj;omega)
     unfold pN at this
     rw[this.1,this.2];rfl),Bool.true_and]
   by_cases h0:(ids.length:Int)=0
   ·go_wp2;go_ret
    exact⟨dn (by rw[bH.out];simp[h0]),rfl⟩
   ·have yJ:¬ids=[]:=fun e=>h0 (by simp[e])
    go_wp2;go_ret;refine⟨ce ?_,rfl⟩;rw[bH.out,show((ids.length:Int)==0)=false by simpa using h0,Bool.false_or]
@[simp ↓] theorem Qd (a b c d:Int) (w:World):(binOp .neq 104 (.agg #[.int .i64 a,.int .i64 b]) (.agg #[.int .i64 c,.int .i64 d])).run Tryz.prog w=.ok (.bool (!yL (a,b) (c,d))) w:=by
 go_simp
 by_cases f1:a=c
 ·by_cases f2:b=d
  ·simp[f1,f2,yL]
  ·simp[f1,f2,yL]
 ·simp[f1,yL]
@[simp ↓] theorem Qe (a b c d:Int) (w:World):(binOp .eql 104 (.agg #[.int .i64 a,.int .i64 b]) (.agg #[.int .i64 c,.int .i64 d])).run Tryz.prog w=.ok (.bool (yL (a,b) (c,d))) w:=by
 go_simp
 by_cases f1:a=c
 ·by_cases f2:b=d
  ·simp[f1,f2,yL]
  ·simp[f1,f2,yL]
 ·simp[f1,yL]
theorem aU.es {w:World} {a b c:Value} {n:aw} (h:aU w a b c n):no w a n.ends:=h.1
theorem aU.is {w:World} {a b c:Value} {n:aw} (h:aU w a b c n):bO w b n.ids:=h.2.1
theorem aU.ns {w:World} {a b c:Value} {n:aw} (h:aU w a b c n):bO w c n.ac1:=h.2.2
theorem aE (z:Int) (h : -9223372036854775808<=z) (h2:z<=9223372036854775807):IntKind.i64.wrap z=z:=IntWalk.i64_in z ⟨h,h2⟩
theorem mF (ve vi vn:Value) (n:aw) (w:World) (h:aU w ve vi vn n):
  Calls Tryz.prog 51 #[.agg #[ve,vi,vn]] w fun e w'=>e=.returned (.bool (aW n))/\Below w.heap.size w w':=by
 obtain⟨w0,ar⟩:∃w0,w0=w.alloc (.cells #[ve,vi,vn] 30):=⟨_,rfl⟩
 have bG:Below w.heap.size w w0:=by rw[ar];exact ao _ _
 have H:=zh (h.ac2 bG);obtain⟨h1,h2,h3⟩:=h.ac2 bG;obtain⟨A,c,rfl,f_,hm,hA⟩:=h1;obtain⟨A2,c2,rfl,_,fq,_⟩:=h2;obtain⟨A3,c3,rfl,_,fF,_⟩:=h3;unfold maxLen at hm fq fF
 have p0:∀W,aa w0 W->W.cell? ⟨w.heap.size,0,none⟩=some (.slice A n.ends.length c):=fun W hW=>bc hW (by rw[ar];simp)
 have p1:∀W,aa w0 W->W.cell? ⟨w.heap.size,1,none⟩=some (.slice A2 n.ids.length c2):=fun W hW=>bc hW (by rw[ar];simp)
 have p2:∀W,aa w0 W->W.cell? ⟨w.heap.size,2,none⟩=some (.slice A3 n.ac1.length c3):=fun W hW=>bc hW (by rw[ar];simp)
 have bQ:=zh bG;have HA:=zh hA;have cS:=zh ar;clear bG hA h ar
 go_enter Tryz.func51,Tryz.ntmps51
 go_upto_region 1 with(fail);rw[<- cS.out];refine bD 29 (aa w0) (ad _) ?_;simp only[zT]
 iterate 3 (refine bF rfl ?_;simp only[zA])
 refine cH ?_ rfl ?_ ?_;rotate_left;(intro W hW;unfold ba;go_simp;(with_reducible refine(fM _ _ _ W).mono ?_);rintro e W' ⟨rfl,aG⟩;first | (refine⟨?_,aa.trans hW aG⟩;with_reducible rfl) | (subst aG;refine⟨?_,hW⟩;with_reducible rfl))
 simp only[zA]
 iterate 2 (refine bF rfl ?_;simp only[zA])
 iterate 5 (refine gT rfl rfl ?_;simp only[zA])
 refine bv (v:=?_) rfl rfl ?_ ?_;rotate_left;(intro hb;intro W hW;unfold ba;go_simp;(with_reducible refine(HV _ n.ids _ W (H.out.is.ac2 hW.below)).mono ?_);rintro e W' ⟨rfl,aG⟩;first | (refine⟨?_,aa.trans hW aG⟩;with_reducible rfl) | (subst aG;refine⟨?_,hW⟩;with_reducible rfl))
 simp only[zA]
 refine gT rfl rfl ?_;simp only[zA]
 (first | refine cd rfl rfl ?_ | (refine bF rfl ?_));simp only[zA]
 refine bF rfl ?_;simp only[zA]
 iterate 7 (refine gT rfl rfl ?_;simp only[zA])
 (first | refine cd rfl rfl ?_ | (refine bF rfl ?_));simp only[zA]
 refine bF rfl ?_;simp only[zA]
 iterate 2 (refine gT rfl rfl ?_;simp only[zA])
 refine bv (v:=?_) rfl rfl ?_ ?_;rotate_left;(intro hb;intro W hW;unfold ba;go_simp;(with_reducible refine(yI _ n.ac1 _ _ W (H.out.ns.ac2 hW.below)).mono ?_);rintro e W' ⟨rfl,aG⟩;first | (refine⟨?_,aa.trans hW aG⟩;with_reducible rfl) | (subst aG;refine⟨?_,hW⟩;with_reducible rfl))
 simp only[zA]
 refine gT rfl rfl ?_;simp only[zA]
 (first | refine cd rfl rfl ?_ | (refine bF rfl ?_));simp only[zA]
 intro W hW
 cases hg:(!fT 1 40 (n.ends.length:Int) || !rt n.ids n.ends.length||((n.ac1.length:Int) != n.ends.length) || !n.ac1.all (fT 0 9))
 ·have hr:=zh (show aW n=(List.range n.ends.length).all fun v=>gA n.ends v (n.ends.getD v []) by
   simp only[Bool.or_eq_false_iff,Bool.not_eq_false',bne_eq_false_iff_eq]at hg
   simp[aW,hg,<- FW,pk])
  have Hg:=zh hg;have HW:=zh hW;clear hg;go_wp2
  go_loopw [39] (fun i wr=>∃k:Nat,k<=n.ends.length/\i=.int .i64 k/\((List.range k).all fun v=>gA n.ends v (n.ends.getD v []))=true/\aa w0 wr) (fun i _=>n.ends.length-(intOf i).toNat)
  case atStart=>exact⟨0,Nat.zero_le _,rfl,rfl,HW.out⟩
  case round=>
   obtain⟨k,hk,rfl,bH,BP⟩:=hrel;have eV:=zh bH;clear bH hW
   by_cases aH:k<n.ends.length
   ·obtain⟨es,ca⟩:=ay n.ends k aH;obtain⟨b,off,u,rfl,dG,aD⟩:=HA.out k es ca;have lK:=ab dG;obtain⟨A1,z1,rfl,dP,eO,nN⟩:=aD;have NF:=zh nN;unfold maxLen at eO;have nO:=zh ca;clear ca dG nN
    by_cases h6:es.length<=6
    ·go_wp2;obtain⟨wo,rfl⟩:∃wo:World,wo=wr:=⟨_,rfl⟩
     go_loopw [49] (fun i wq=>∃j:Nat,j<=es.length/\i=.int .i64 j/\((List.range j).all fun i=>kc n.ends k i (es.getD i (0,0)))=true/\aa w0 wq) (fun i _=>es.length-(intOf i).toNat)
     case atStart=>exact⟨0,Nat.zero_le _,rfl,rfl,BP⟩
     case round=>
      obtain⟨j,hj,rfl,BQ,M_⟩:=hrel;have BS:=zh BQ;clear BQ BP
      by_cases eD:j<es.length
      ·obtain⟨⟨x1,x2⟩,he⟩:=ay es j eD;obtain⟨b1,D5,rfl,yN,kq⟩:=NF.out j _ he;have q1:=ab yN;have q2:=ab kq;have He:=zh he;clear he yN kq;have uJ:w.heap.size<wr.heap.size:=World.block_lt_of_cell? wr _ (p0 wr M_);go_wp2;obtain⟨w1,kT⟩:∃w1,(wr.alloc (Obj.cells #[Value.int IntKind.i64 x1,Value.int IntKind.i64 x2] 104))=w1:=⟨_,rfl⟩
       rw[kT]
       have dw:aa w0 w1:=by rw[<- kT];exact ae _ M_
       have r0:=aj p0 dw
       have r3:∀W,aa w1 W->W.cell? ⟨wr.heap.size,0,none⟩=some (.int .i64 x1):=ab (by rw[<- kT];simp)
       have r4:∀W,aa w1 W->W.cell? ⟨wr.heap.size,1,none⟩=some (.int .i64 x2):=ab (by rw[<- kT];simp)
       have jH:=zh dw;have HP:=zh (And.intro p0 (And.intro p1 p2));have HQ:=zh (And.intro lK (And.intro q1 q2));have Hbq:=zh M_;clear kT dw p0 p1 p2 lK q1 q2 M_
       by_cases x9:fT 0 ((n.ends.length:Int)-1) x1=true
       ·obtain⟨p3,p4⟩:=aL.1 x9;obtain⟨k1,rfl⟩:=Int.eq_ofNat_of_zero_le p3;have pM:k1<n.ends.length:=by omega
        obtain⟨FT,BU⟩:=ay n.ends k1 pM;obtain⟨b2,rj,u',vv,DZ,JM⟩:=HA.out k1 FT BU
        injection vv with vv
        injection vv with q3 q4
        subst q3 q4;obtain⟨Bl,P_,rfl,NH,Rw,D6⟩:=JM;unfold maxLen at Rw;have r5:=aj (ab DZ) jH.out;have Ht:=zh BU;have aar:=zh D6;clear BU DZ D6
        by_cases sq:fT 0 ((FT.length:Int)-1) x2=true
        ·obtain⟨p5,p6⟩:=aL.1 sq;obtain⟨i1,rfl⟩:=Int.eq_ofNat_of_zero_le p5;have qt:i1<FT.length:=by omega
         obtain⟨⟨y1,y2⟩,hy⟩:=ay FT i1 qt;obtain⟨b3,NI,rfl,V2,Qa⟩:=aar.out i1 _ hy;have r6:=aj (ab V2) jH.out;have r7:=aj (ab Qa) jH.out;have Hy:=zh hy;have Hx:=zh (And.intro x9 sq);clear hy V2 Qa x9 sq;have m1:IntKind.i64.wrap ((n.ends.length:Int)-1)=n.ends.length-1:=aE _ (by omega) (by omega);have m2:IntKind.i64.wrap ((FT.length:Int)-1)=FT.length-1:=aE _ (by omega) (by omega);refine am 38 (aa w1) (by kernel_rfl) (by kernel_rfl) (by simp) (ag (ad _)) ?_;simp only[zT]
         iterate 6 (refine bF rfl ?_;simp only[zA])
         refine cH ?_ rfl ?_ ?_;rotate_left;(intro W hW;unfold ba;go_simp;(with_reducible refine(fM _ _ _ W).mono ?_);rintro e W' ⟨rfl,aG⟩;first | (refine⟨?_,aa.trans hW aG⟩;with_reducible rfl) | (subst aG;refine⟨?_,hW⟩;with_reducible rfl))
         simp only[zA]
         iterate 2 (refine bF rfl ?_;simp only[zA])
         iterate 10 (refine gT rfl rfl ?_;simp only[zA])
         refine bv (v:=?_) rfl rfl ?_ ?_;rotate_left;(intro hb;intro W hW;unfold ba;go_simp;(with_reducible refine(fM _ _ _ W).mono ?_);rintro e W' ⟨rfl,aG⟩;first | (refine⟨?_,aa.trans hW aG⟩;with_reducible rfl) | (subst aG;refine⟨?_,hW⟩;with_reducible rfl))
         simp only[zA]
         refine gT rfl rfl ?_;simp only[zA]
         (first | refine cd rfl rfl ?_ | (refine bF rfl ?_));simp only[zA]
         refine bF rfl ?_;simp only[zA]
         iterate 14 (refine gT rfl rfl ?_;simp only[zA])
         (first | refine cd rfl rfl ?_ | (refine bF rfl ?_));simp only[zA]
         intro W2 gm;have pl:=zh gm;rw[Hx.out.1,Hx.out.2];cases hq:yL (y1,y2) ((k:Int),(j:Int))
         all_goals
          have Hq:=zh hq;clear hq gm m1 m2;go_wp2
         ·go_ret
          exact⟨aB (by rw[hr.out];refine bV aH ?_;rw[ak nO.out];simp only[gA];rw[Bool.and_eq_false_iff];exact .inr (bV eD (by rw[ak He.out];simp[kc,Ht.out,Hy.out,Hq.out]))),aa.after bQ.out (jH.out.after pl.out)⟩
         ·go_roundw
          case rel=>exact⟨j+1,by omega,by go_num,by rw[eX,BS.out,ak He.out];simp[kc,dq,Hx.out.1,Hx.out.2,Ht.out,Hy.out,Hq.out],jH.out.after pl.out⟩
          case measure=>simp[intOf];omega
        ·have V4:fT 0 ((FT.length:Int)-1) x2=false:=by simpa using sq
         have Hx:=zh (And.intro x9 V4);clear x9 sq;have m1:IntKind.i64.wrap ((n.ends.length:Int)-1)=n.ends.length-1:=aE _ (by omega) (by omega);have m2:IntKind.i64.wrap ((FT.length:Int)-1)=FT.length-1:=aE _ (by omega) (by omega);refine am 38 (aa w1) (by kernel_rfl) (by kernel_rfl) (by simp) (ag (ad _)) ?_;simp only[zT]
         iterate 6 (refine bF rfl ?_;simp only[zA])
         refine cH ?_ rfl ?_ ?_;rotate_left;(intro W hW;unfold ba;go_simp;(with_reducible refine(fM _ _ _ W).mono ?_);rintro e W' ⟨rfl,aG⟩;first | (refine⟨?_,aa.trans hW aG⟩;with_reducible rfl) | (subst aG;refine⟨?_,hW⟩;with_reducible rfl))
         simp only[zA]
         iterate 2 (refine bF rfl ?_;simp only[zA])
         iterate 10 (refine gT rfl rfl ?_;simp only[zA])
         refine bv (v:=?_) rfl rfl ?_ ?_;rotate_left;(intro hb;intro W hW;unfold ba;go_simp;(with_reducible refine(fM _ _ _ W).mono ?_);rintro e W' ⟨rfl,aG⟩;first | (refine⟨?_,aa.trans hW aG⟩;with_reducible rfl) | (subst aG;refine⟨?_,hW⟩;with_reducible rfl))
         simp only[zA]
         refine gT rfl rfl ?_;simp only[zA]
         (first | refine cd rfl rfl ?_ | (refine bF rfl ?_));simp only[zA]
         refine bF rfl ?_;simp only[zA]
         iterate 14 (refine mg rfl rfl (by simp[*]) ?_;simp only[zA])
         (first | refine cd rfl rfl ?_ | (refine bF rfl ?_));simp only[zA]
         intro W2 gm;have pl:=zh gm;rw[Hx.out.1,Hx.out.2];clear V4 gm m1 m2;go_wp2;go_ret
         exact⟨aB (by rw[hr.out];refine bV aH ?_;rw[ak nO.out];simp only[gA];rw[Bool.and_eq_false_iff];exact .inr (bV eD (by rw[ak He.out];simp[kc,dq,Ht.out,Hx.out.2]))),aa.after bQ.out (jH.out.after pl.out)⟩
       ·have V6:fT 0 ((n.ends.length:Int)-1) x1=false:=by simpa using x9
        have Hx:=zh V6;clear x9;have m1:IntKind.i64.wrap ((n.ends.length:Int)-1)=n.ends.length-1:=aE _ (by omega) (by omega);refine am 38 (aa w1) (by kernel_rfl) (by kernel_rfl) (by simp) (ag (ad _)) ?_;simp only[zT]
        iterate 6 (refine bF rfl ?_;simp only[zA])
        refine cH ?_ rfl ?_ ?_;rotate_left;(intro W hW;unfold ba;go_simp;(with_reducible refine(fM _ _ _ W).mono ?_);rintro e W' ⟨rfl,aG⟩;first | (refine⟨?_,aa.trans hW aG⟩;with_reducible rfl) | (subst aG;refine⟨?_,hW⟩;with_reducible rfl))
        simp only[zA]
        iterate 2 (refine bF rfl ?_;simp only[zA])
        iterate 12 (refine mg rfl rfl (by simp[*]) ?_;simp only[zA])
        (first | refine cd rfl rfl ?_ | (refine bF rfl ?_));simp only[zA]
        refine bF rfl ?_;simp only[zA]
        iterate 14 (refine mg rfl rfl (by simp[*]) ?_;simp only[zA])
        (first | refine cd rfl rfl ?_ | (refine bF rfl ?_));simp only[zA]
        intro W2 gm;have pl:=zh gm;rw[Hx.out];clear V6 gm m1;go_wp2;go_ret
        exact⟨aB (by rw[hr.out];refine bV aH ?_;rw[ak nO.out];simp only[gA];rw[Bool.and_eq_false_iff];exact .inr (bV eD (by rw[ak He.out];simp[kc,dq,Hx.out]))),aa.after bQ.out (jH.out.after pl.out)⟩
      ·obtain rfl:j=es.length:=by omega
       go_wp2;go_roundw
       case rel=>exact⟨k+1,by omega,by go_num,by rw[eX,eV.out,ak nO.out,Bool.true_and];unfold gA;rw[BS.out];simp[h6],M_⟩
       case measure=>simp[intOf];omega
    ·go_wp2;go_ret
     exact⟨aB (by rw[hr.out];exact bV aH (by rw[ak nO.out];simp[gA,h6])),aa.after bQ.out BP⟩
   ·obtain rfl:k=n.ends.length:=by omega
    go_wp2;go_ret
    exact⟨dn (by rw[hr.out];exact eV.out),aa.after bQ.out BP⟩
 ·have hr:=zh (show aW n=false by
   simp only[Bool.or_eq_true,Bool.not_eq_true',bne_iff_ne,ne_eq]at hg
   rcases hg with((hg | hg) | hg) | hg <;> simp[aW,hg,<- FW,pk])
  have Hg:=zh hg;have HW:=zh hW;clear hg;go_wp2;go_ret;exact⟨aB hr.out,aa.after bQ.out HW.out⟩
end Go.Proofs.YtnioemnkfojmkaaGreat
