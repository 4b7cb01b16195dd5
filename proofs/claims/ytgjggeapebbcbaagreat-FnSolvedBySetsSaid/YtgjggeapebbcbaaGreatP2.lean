/- Parts of the proof: walks of functions and plain laws. -/
import Derived.Test.YtgjggeapebbcbaaGreatP0
import Derived.Test.YtgjggeapebbcbaaGreatP1
import Derived.Deep.AppendLies
import Derived.Deep.RegionHeld3
import Derived.Deep.SlicePairs
import Derived.Deep.Slices
import Derived.Lib.SmallJoins
set_option maxRecDepth 100000
set_option maxHeartbeats 16000000
namespace Go.Proofs.YtgjggeapebbcbaaGreat
open Go Go.RowKit
structure aL (S:List Nat) (w w':World):Prop where
 os:w'.os=w.os
 tape:w'.tape=w.tape
 output:w'.output=w.output
 size:w.heap.size<=w'.heap.size
 block:∀k,k<w.heap.size->k∉S->w'.heap[k]?=w.heap[k]?
theorem aL.refl (S:List Nat) (w:World):aL S w w:=⟨rfl,rfl,rfl,Nat.le_refl _,fun _ _ _=>rfl⟩
theorem aL.trans {S:List Nat} {a b c:World} (h:aL S a b) (k:aL S b c):aL S a c:=
 ⟨k.os.trans h.os,k.tape.trans h.tape,k.output.trans h.output,Nat.le_trans h.size k.size,fun i hi hn=>(k.block i (Nat.lt_of_lt_of_le hi h.size) hn).trans (h.block i hi hn)⟩
theorem aL.mono {S T:List Nat} {a b:World} (h:aL S a b) (hs:∀k∈S,k∈T):aL T a b:=⟨h.os,h.tape,h.output,h.size,fun i hi hn=>h.block i hi (fun e=>hn (hs i e))⟩
theorem aL.below {S:List Nat} {a b:World} (h:aL S a b) (B:Nat) (hB:B<=a.heap.size) (hs:∀k∈S,B<=k):Below B a b:=⟨h.os,h.tape,h.output,h.size,fun i hi=>h.block i (by omega) (fun e=>by have:=hs i e;omega)⟩
theorem aL.aai {S:List Nat} {a b:World} (h:Below a.heap.size a b):aL S a b:=⟨h.os,h.tape,h.output,h.size,fun i hi _=>h.block i hi⟩
theorem aL.aaf {a b:World} {row:Option Nat} (h:a.grownBy b row):aL row.toList a b:=⟨h.os,h.tape,h.output,h.size,fun i hi hn=>h.block i hi (fun e=>hn (by rw[<- e];simp))⟩
theorem aL.cell {S:List Nat} {a b:World} (h:aL S a b) {p:Addr} {u:Value} (hp:p.block∉S) (hc:a.cell? p=some u):b.cell? p=some u:=
 (World.cell?_of_block (h.block p.block (World.block_lt_of_cell? a _ hc) hp)).trans hc
theorem aL.setCell {S:List Nat} {a w:World} (h:aL S a w) {p:Addr} (hp:p.block∈S\/a.heap.size<=p.block) (u:Value):aL S a (w.setCell p u):=
 ⟨h.os,h.tape,h.output,by simpa[World.setCell]using h.size,fun i hi hn=>(Below.heap_setCell w p u i (by
  rintro rfl;rcases hp with hp | hp
  ·exact hn hp
  ·omega)).trans (h.block i hi hn)⟩
theorem aL.alloc {S:List Nat} {a w:World} (h:aL S a w) (o:Obj):aL S a (w.alloc o):=⟨h.os,h.tape,h.output,Nat.le_trans h.size (by simp),fun i hi hn=>(Below.heap_alloc w o i (Nat.lt_of_lt_of_le hi h.size)).trans (h.block i hi hn)⟩
structure cd {β:Type} (R:World->Nat->Value->β->List Nat->Prop):Prop where
 aac:∀ {w w':World} {base:Nat} {v:Value} {x:β} {S:List Nat},R w base v x S->(∀k∈S,w'.heap[k]?=w.heap[k]?)->R w' base v x S
 range:∀ {w:World} {base:Nat} {v:Value} {x:β} {S:List Nat},R w base v x S->∀k∈S,base<=k/\k<w.heap.size
 nodup:∀ {w:World} {base:Nat} {v:Value} {x:β} {S:List Nat},R w base v x S->S.Nodup
 mono:∀ {w:World} {base gF:Nat} {v:Value} {x:β} {S:List Nat},R w base v x S->gF<=base->R w gF v x S
 one:∀ {w:World} {base:Nat} {v:Value} {x:β} {S:List Nat},R w base v x S->∃A n c,v=.slice A n c
section
variable {β : Type} {R : World → Nat → Value → β → List Nat → Prop}
theorem cd.aab (L:cd R) {w w':World} {base:Nat} {v:Value} {x:β} {S:List Nat} (h:R w base v x S) (hb:Below w.heap.size w w'):R w' base v x S:=L.aac h fun k hk=>hb.block k (L.range h k hk).2
theorem cd.only (L:cd R) {w w':World} {base:Nat} {v:Value} {x:β} {S T:List Nat} (h:R w base v x S) (hb:aL T w w') (hd:∀k∈S,k∉T):R w' base v x S:=L.aac h fun k hk=>hb.block k (L.range h k hk).2 (hd k hk)
end
def Fa {α:Type} (e:TypeId) (size:Nat) (enc:α->List Value) (w:World) (base:Nat) (v:Value) (xs:List α) (S:List Nat):Prop:=
 w.ownsRow base e size v xs.length (xs.flatMap enc)/\S=v.ownBlock.toList
theorem aB {w w':World} {base:Nat} {e:TypeId} {size:Nat} {v:Value} {n:Nat} {xs:List Value} (h:w.ownsRow base e size v n xs) (hs:∀k∈v.ownBlock.toList,w'.heap[k]?=w.heap[k]?):w'.ownsRow base e size v n xs:=by
 refine⟨h.1,h.2.imp id ?_⟩;rintro⟨g,cap,cur,rfl,h2,h3,h4⟩;exact⟨g,cap,cur,rfl,h2,(hs g (by simp[Value.ownBlock])).trans h3,h4⟩
theorem fl {w:World} {base gF:Nat} {e:TypeId} {size:Nat} {v:Value} {n:Nat} {xs:List Value} (h:w.ownsRow base e size v n xs) (hb:gF<=base):w.ownsRow gF e size v n xs:=
 ⟨h.1,h.2.imp id fun ⟨g,cap,cur,h1,h2,h3⟩=>⟨g,cap,cur,h1,Nat.le_trans hb h2,h3⟩⟩
theorem jJ {w:World} {base:Nat} {e:TypeId} {size:Nat} {v:Value} {n:Nat} {xs:List Value} (h:w.ownsRow base e size v n xs):∃A m c,v=.slice A m c:=by
 rcases h.2 with⟨rfl,_⟩ | ⟨g,cap,cur,rfl,_⟩
 ·exact⟨_,_,_,rfl⟩
 ·exact⟨_,_,_,rfl⟩
theorem zX {α:Type} (e:TypeId) (size:Nat) (enc:α->List Value):cd (Fa (α:=α) e size enc) where
 aac:=fun ⟨h,hS⟩ hs=>⟨aB h (fun k hk=>hs k (by rw[hS];exact hk)),hS⟩
 range:=fun ⟨h,hS⟩ k hk=>World.ownsRow.lt h k (by rw[hS]at hk;simpa using hk)
 nodup:=fun {_ _ v _ _} ⟨_,hS⟩=>by rw[hS];cases v.ownBlock <;> simp
 mono:=fun ⟨h,hS⟩ hb=>⟨fl h hb,hS⟩
 one:=fun ⟨h,_⟩=>jJ h
def aM {β:Type} (e:TypeId) (R:World->Nat->Value->β->List Nat->Prop) (w:World) (base:Nat) (v:Value) (xs:List β) (S:List Nat):Prop:=
 ∃(vs:List Value) (Ss:List (List Nat)),w.ownsRow base e 1 v xs.length vs/\Ss.length=xs.length /\
  (∀(k:Nat) u x T,vs[k]?=some u->xs[k]?=some x->Ss[k]?=some T->R w base u x T)/\S=v.ownBlock.toList++Ss.flatten/\S.Nodup
theorem iE {β:Type} {R:World->Nat->Value->β->List Nat->Prop} (e:TypeId) (L:cd R):cd (aM e R) where
 aac:=fun {w w' base v xs S} h hs=>by
  obtain⟨vs,Ss,h1,h2,h3,h4,h5⟩:=h
  refine⟨vs,Ss,aB h1 (fun k hk=>hs k (by rw[h4];simp[hk])),h2,fun k u x T hu hx hT=>L.aac (h3 k u x T hu hx hT) (fun j hj=>hs j ?_),h4,h5⟩
  rw[h4];exact List.mem_append_right _ (List.mem_flatten.2 ⟨T,List.mem_of_getElem? hT,hj⟩)
 range:=fun {w base v xs S} h k hk=>by
  obtain⟨vs,Ss,h1,h2,h3,h4,h5⟩:=h;rw[h4]at hk;rcases List.mem_append.1 hk with hk | hk
  ·exact World.ownsRow.lt h1 k (by simpa using hk)
  ·obtain⟨T,hT,Wa⟩:=List.mem_flatten.1 hk;obtain⟨j,hj⟩:=List.mem_iff_getElem?.1 hT;have aH:j<Ss.length:=ai hj;have pR:vs.length=xs.length:=by simpa using h1.1
   obtain⟨u,hu⟩:=ax vs j (by omega);obtain⟨x,hx⟩:=ax xs j (by omega);exact L.range (h3 j u x T hu hx hj) k Wa
 nodup:=fun ⟨_,_,_,_,_,_,h5⟩=>h5
 mono:=fun {w base gF v xs S} h hb=>by
  obtain⟨vs,Ss,h1,h2,h3,h4,h5⟩:=h;exact⟨vs,Ss,fl h1 hb,h2,fun k u x T hu hx hT=>L.mono (h3 k u x T hu hx hT) hb,h4,h5⟩
 one:=fun ⟨_,_,h1,_⟩=>jJ h1
section
variable {β : Type} {R : World → Nat → Value → β → List Nat → Prop} {e : TypeId} {w : World} {base g c n : Nat} {xs : List β} {S : List Nat}
theorem eZ {e:TypeId} {size:Nat} {m:Nat} {ys:List Value} (h:w.ownsRow base e size (.slice (some ⟨g,0,none⟩) n c) m ys):m=n:=by
 rcases h.2 with⟨h',_⟩ | ⟨g',ya,cur,h',_⟩
 ·simp at h'
 ·simp only[Value.slice.injEq]at h';exact h'.2.1.symm
theorem dL {e:TypeId} {size:Nat} {m:Nat} {ys:List Value} {v:Value} (h:w.ownsRow base e size v m ys):(v=.slice none 0 0/\m=0)\/∃g c,v=.slice (some ⟨g,0,none⟩) m c/\base<=g/\g<w.heap.size/\m<=c/\c<=maxLen:=by
 rcases h.2 with h | ⟨g,cap,cur,rfl,hb,hg,x_,hm,ut,zP⟩
 ·exact .inl h
 ·exact .inr ⟨g,cap,rfl,hb,(Array.getElem?_eq_some_iff.1 hg).1,x_,hm⟩
theorem aM.at_ (h:aM e R w base (.slice (some ⟨g,0,none⟩) n c) xs S) {k:Nat} {x:β} (hx:xs[k]?=some x):∃u T,w.cell? ⟨g,k,none⟩=some u/\w.frozen? ⟨g,k,none⟩=false/\R w base u x T/\(∀j∈T,j∈S)/\g∉T/\g∈S:=by
 obtain⟨vs,Ss,h1,h2,h3,h4,h5⟩:=h;have hk:k<xs.length:=ai hx;have hn:=eZ h1;have pR:vs.length=xs.length:=by simpa using h1.1
 obtain⟨u,hu⟩:=ax vs k (by omega);obtain⟨T,hT⟩:=ax Ss k (by omega);subst hn;refine⟨u,T,?_,h1.frozenAt k,h3 k u x T hu hx hT,fun j hj=>?_,fun hg=>?_,?_⟩
 ·rw[h1.cellAt (cap:=c) k (by omega)];exact hu
 ·rw[h4];exact List.mem_append_right _ (List.mem_flatten.2 ⟨T,List.mem_of_getElem? hT,hj⟩)
 ·rw[h4]at h5
  have:=(List.nodup_append.1 h5).2.2 g (by simp[Value.ownBlock]) g (List.mem_flatten.2 ⟨T,List.mem_of_getElem? hT,hg⟩)
  exact this rfl
 ·rw[h4];simp[Value.ownBlock]
theorem dH {Ss:List (List Nat)} {k j:Nat} {T:List Nat} (h:j∈(Ss.set k T).flatten):j∈Ss.flatten\/j∈T:=by
 obtain⟨U,hU,hj⟩:=List.mem_flatten.1 h;rcases List.mem_or_eq_of_mem_set hU with h1 | h1
 ·exact .inl (List.mem_flatten.2 ⟨U,h1,hj⟩)
 ·subst h1;exact .inr hj
theorem ig {Ss:List (List Nat)} {k:Nat} {T:List Nat} (h:Ss.flatten.Nodup) (hT:T.Nodup) (hd:∀i j U,i≠k->Ss[i]?=some U->j∈U->j∉T):(Ss.set k T).flatten.Nodup:=by
 induction Ss generalizing k with
 | nil=>simp
 | cons U Ss ih=>
  rw[List.flatten_cons,List.nodup_append]at h
  cases k with
  | zero=>
   rw[List.set_cons_zero,List.flatten_cons,List.nodup_append];refine⟨hT,h.2.1,fun a ha b hb oz=>?_⟩
   subst oz;obtain⟨V,hV,Wb⟩:=List.mem_flatten.1 hb;obtain⟨i,hi⟩:=List.mem_iff_getElem?.1 hV;exact hd (i+1) a V (by omega) (by simpa using hi) Wb ha
  | succ k=>
   rw[List.set_cons_succ,List.flatten_cons,List.nodup_append];refine⟨h.1,ih h.2.1 (fun i j V hi hV hj=>hd (i+1) j V (by omega) (by simpa using hV) hj),fun a ha b hb oz=>?_⟩
   subst oz;rcases dH hb with hb | hb
   ·exact h.2.2 a ha a hb rfl
   ·exact hd 0 a U (by omega) (by simp) ha hb
theorem i_ {Ss:List (List Nat)} (h:Ss.flatten.Nodup) {i j x:Nat} {U V:List Nat} (Gk:i≠j) (hU:Ss[i]?=some U) (hV:Ss[j]?=some V) (hx:x∈U):x∉V:=by
 induction Ss generalizing i j with
 | nil=>simp at hU
 | cons W Ss ih=>
  rw[List.flatten_cons,List.nodup_append]at h
  cases i with
  | zero=>
   cases j with
   | zero=>omega
   | succ j=>
    simp at hU hV
    subst hU;exact fun OU=>h.2.2 x hx x (List.mem_flatten.2 ⟨V,List.mem_of_getElem? hV,OU⟩) rfl
  | succ i=>
   cases j with
   | zero=>
    simp at hU hV
    subst hV;exact fun OU=>h.2.2 x OU x (List.mem_flatten.2 ⟨U,List.mem_of_getElem? hU,hx⟩) rfl
   | succ j=>exact ih (i:=i) (j:=j) h.2.1 (by omega) (by simpa using hU) (by simpa using hV)
theorem aM.store (L:cd R) (h:aM e R w base (.slice (some ⟨g,0,none⟩) n c) xs S) (k:Nat) {u:Value} {x:β} {T:List Nat} (hR:R w base u x T) (hd:∀j∈T,j∉S):
  ∃S',aM e R (w.setCell ⟨g,k,none⟩ u) base (.slice (some ⟨g,0,none⟩) n c) (xs.set k x) S'/\(∀j∈S',j∈S\/j∈T):=by
 obtain⟨vs,Ss,h1,h2,h3,h4,h5⟩:=h;have hn:=eZ h1;subst hn;have pR:vs.length=xs.length:=by simpa using h1.1
 have lx:=h5;rw[h4,List.nodup_append]at lx
 have qG:g∈S:=by rw[h4];simp[Value.ownBlock]
 have Fb:g∉Ss.flatten:=fun hg=>lx.2.2 g (by simp[Value.ownBlock]) g hg rfl
 have fY:∀j,j≠g->(w.setCell ⟨g,k,none⟩ u).heap[j]?=w.heap[j]?:=fun j hj=>Below.heap_setCell w _ _ j hj
 refine⟨(Value.slice (some ⟨g,0,none⟩) xs.length c).ownBlock.toList++(Ss.set k T).flatten,⟨vs.set k u,Ss.set k T,?_,by simp[h2],?_,rfl,?_⟩,?_⟩
 ·have:=(h1.stored k u).1
  rw[List.length_set];exact this
 ·intro j u' x' T' hu hx hT
  have hj:j<xs.length:=by have:=ai hx;simpa using this
  by_cases jy:k=j
  ·subst jy;rw[List.getElem?_set_self (by omega)]at hu hx hT
   cases hu;cases hx;cases hT
   exact L.aac hR (fun i hi=>fY i (fun e=>hd i hi (e ▸ qG)))
  ·rw[List.getElem?_set_ne jy]at hu hx hT;refine L.aac (h3 j u' x' T' hu hx hT) (fun i hi=>fY i (fun e=>Fb ?_))
   subst e;exact List.mem_flatten.2 ⟨T',List.mem_of_getElem? hT,hi⟩
 ·rw[List.nodup_append];refine⟨lx.1,ig lx.2.1 (L.nodup hR) (fun i j U _ hU hj OV=>hd j OV ?_),fun a ha b hb oz=>?_⟩
  ·rw[h4];exact List.mem_append_right _ (List.mem_flatten.2 ⟨U,List.mem_of_getElem? hU,hj⟩)
  ·subst oz;simp[Value.ownBlock]at ha
   subst ha;rcases dH hb with hb | hb
   ·exact Fb hb
   ·exact hd a hb qG
 ·intro j hj;rcases List.mem_append.1 hj with hj | hj
  ·left;rw[h4];exact List.mem_append_left _ hj
  ·rcases dH hj with hj | hj
   ·left;rw[h4];exact List.mem_append_right _ hj
   ·exact .inr hj
theorem aM.aaH (L:cd R) (h:aM e R w base (.slice (some ⟨g,0,none⟩) n c) xs S) {k:Nat} {x:β} (hx:xs[k]?=some x):
  ∃u T,w.cell? ⟨g,k,none⟩=some u/\R w base u x T/\(∀j∈T,j∈S)/\(∀(x':β) (w':World),R w' base u x' T->aL T w w'->aM e R w' base (.slice (some ⟨g,0,none⟩) n c) (xs.set k x') S):=by
 obtain⟨vs,Ss,h1,h2,h3,h4,h5⟩:=h;have hk:k<xs.length:=ai hx;have hn:=eZ h1;subst hn;have pR:vs.length=xs.length:=by simpa using h1.1
 obtain⟨u,hu⟩:=ax vs k (by omega);obtain⟨T,hT⟩:=ax Ss k (by omega);have lx:=h5;rw[h4,List.nodup_append]at lx;have Fb:g∉Ss.flatten:=fun hg=>lx.2.2 g (by simp[Value.ownBlock]) g hg rfl
 refine⟨u,T,by rw[h1.cellAt (cap:=c) k (by omega)];exact hu,h3 k u x T hu hx hT,fun j hj=>by rw[h4];exact List.mem_append_right _ (List.mem_flatten.2 ⟨T,List.mem_of_getElem? hT,hj⟩),fun x' w' hR ho=>?_⟩
 have xq:g∉T:=fun hg=>Fb (List.mem_flatten.2 ⟨T,List.mem_of_getElem? hT,hg⟩)
 refine⟨vs,Ss,?_,by simp[h2],?_,h4,h5⟩
 ·rw[List.length_set];refine aB h1 (fun j hj=>?_)
  simp[Value.ownBlock]at hj
  subst hj;exact ho.block j (World.ownsRow.lt h1 j (by simp[Value.ownBlock])).2 xq
 ·intro j u' y T' sf hy mj
  by_cases jy:k=j
  ·subst jy;rw[List.getElem?_set_self (by omega)]at hy;cases hy
   rw[hu]at sf;cases sf
   rw[hT]at mj;cases mj
   exact hR
  ·rw[List.getElem?_set_ne jy]at hy;refine L.only (h3 j u' y T' sf hy mj) ho (fun i hi Wc=>?_)
   exact i_ lx.2.1 jy hT mj Wc hi
theorem aM.made {x0:β} (m:Nat) (hm:m<=maxLen) (h0:∀w base,R w base (.slice none 0 0) x0 []) (w:World):
  aM e R (w.alloc (.cells (List.replicate m (Value.slice none 0 0)).toArray e)) w.heap.size (.slice (some ⟨w.heap.size,0,none⟩) m m) (List.replicate m x0) [w.heap.size]:=by
 refine⟨List.replicate m (Value.slice none 0 0),List.replicate m [],?_,by simp,?_,by simp[Value.ownBlock],by simp⟩
 ·have:=World.ownsRow_lit (base:=w.heap.size) (e:=e) (size:=1) w (List.replicate m (Value.slice none 0 0)).toArray m (Nat.le_refl _) hm (by simp)
  simpa using this
 ·intro k u x T hu hx hT;have sf:=List.mem_of_getElem? hu;have uw:=List.mem_of_getElem? hx;have mj:=List.mem_of_getElem? hT;rw[List.mem_replicate]at sf uw mj;rw[sf.2,uw.2,mj.2];exact h0 _ _
end
def iF (e:Int×Int):List Value:=[.int .i64 e.1,.int .i64 e.2]
def co:World->Nat->Value->List (Int×Int)->List Nat->Prop:=Fa 36 2 iF
theorem fm:cd co:=zX _ _ _
def oA:World->Nat->Value->List (List (Int×Int))->List Nat->Prop:=aM 34 co
theorem ii:cd oA:=iE _ fm
def it (w:World) (base:Nat) (v:Value) (xs:List Int) (S:List Nat):Prop:=Own w base v xs/\S=v.ownBlock.toList
theorem dF:cd it where
 aac:=fun ⟨h,hS⟩ hs=>⟨aB h (fun k hk=>hs k (by rw[hS];exact hk)),hS⟩
 range:=fun ⟨h,hS⟩ k hk=>World.ownsRow.lt h k (by rw[hS]at hk;simpa using hk)
 nodup:=fun {_ _ v _ _} ⟨_,hS⟩=>by rw[hS];cases v.ownBlock <;> simp
 mono:=fun ⟨h,hS⟩ hb=>⟨fl h hb,hS⟩
 one:=fun ⟨h,_⟩=>jJ h
theorem jK {es:List (Int×Int)} {k:Nat} {x:Int×Int} (h:es[k]?=some x):(es.flatMap iF)[k*2]?=some (.int .i64 x.1)/\(es.flatMap iF)[k*2+1]?=some (.int .i64 x.2):=by
 induction es generalizing k with
 | nil=>simp at h
 | cons e es ih=>
  cases k with
  | zero=>simp at h;subst h;simp[iF]
  | succ k=>
   have:=ih (k:=k) (by simpa using h)
   rw[List.flatMap_cons,show(k+1)*2=k*2+2 by omega]
   simp only[iF,List.cons_append,List.nil_append]
   exact⟨by simpa using this.1,by rw[show k*2+2+1=(k*2+1)+1+1 by omega];simpa using this.2⟩
theorem zY {es:List (Int×Int)} {k:Nat} (x:Int×Int) (h:k<es.length):((es.flatMap iF).set (k*2) (.int .i64 x.1)).set (k*2+1) (.int .i64 x.2)=(es.set k x).flatMap iF:=by
 induction es generalizing k with
 | nil=>simp at h
 | cons e es ih=>
  cases k with
  | zero=>simp[iF]
  | succ k=>
   have:=ih (k:=k) (by simpa using h)
   rw[List.flatMap_cons,show(k+1)*2=k*2+1+1 by omega]
   simp only[iF,List.cons_append,List.nil_append,List.set_cons_succ,List.flatMap_cons]at this ⊢
   rw[this]
theorem sF (es:List (Int×Int)):(es.flatMap iF).length=es.length*2:=by
 induction es with
 | nil=>rfl
 | cons e es ih=>rw[List.flatMap_cons,List.length_append,ih,List.length_cons];simp[iF];omega
theorem co.read {w:World} {base:Nat} {v:Value} {es:List (Int×Int)} {S:List Nat} (h:co w base v es S):ol w v es:=by
 obtain⟨h,hS⟩:=h;rcases dL h with⟨rfl,h0⟩ | ⟨g,c,rfl,hb,hg,hc,hm⟩
 ·obtain rfl:es=[]:=List.eq_nil_of_length_eq_zero h0
  exact⟨none,0,rfl,Nat.le_refl _,Nat.zero_le _,fun k x hk=>by simp at hk⟩
 ·refine⟨_,c,rfl,hc,hm,fun k x hk=>⟨g,0,rfl,?_,?_⟩⟩
  ·have:=ai hk
   rw[Nat.zero_add,h.cellAt (cap:=c) _ (by omega)];exact(jK hk).1
  ·have:=ai hk
   rw[Nat.zero_add,h.cellAt (cap:=c) _ (by omega)];exact(jK hk).2
theorem oA.read {w:World} {base:Nat} {v:Value} {bX:List (List (Int×Int))} {S:List Nat} (h:oA w base v bX S):jt w v bX:=by
 obtain⟨vs,Ss,h1,h2,h3,h4,h5⟩:=h;rcases dL h1 with⟨rfl,h0⟩ | ⟨g,c,rfl,hb,hg,hc,hm⟩
 ·obtain rfl:bX=[]:=List.eq_nil_of_length_eq_zero h0
  exact⟨none,0,rfl,Nat.le_refl _,Nat.zero_le _,fun k x hk=>by simp at hk⟩
 ·have pR:vs.length=bX.length:=by simpa using h1.1
  refine⟨_,c,rfl,hc,hm,fun k x hk=>?_⟩
  have aH:=ai hk;obtain⟨u,hu⟩:=ax vs k (by omega);obtain⟨T,hT⟩:=ax Ss k (by omega)
  exact⟨g,0,u,rfl,by rw[Nat.zero_add,h1.cellAt (cap:=c) _ (by omega)];exact hu,co.read (h3 k u x T hu hk hT)⟩
def kC:List (List (Int×Int))->Nat
 | []=>0
 | es::r=>2*es.length+kC r
theorem co.cells {w:World} {base g c n:Nat} {es:List (Int×Int)} {S:List Nat} (h:co w base (.slice (some ⟨g,0,none⟩) n c) es S) {k:Nat} {x:Int×Int} (hx:es[k]?=some x):
  w.cell? ⟨g,k*2,none⟩=some (.int .i64 x.1)/\w.cell? ⟨g,k*2+1,none⟩=some (.int .i64 x.2)/\w.frozen? ⟨g,k*2,none⟩=false/\w.frozen? ⟨g,k*2+1,none⟩=false:=by
 obtain⟨h,_⟩:=h;have hn:=eZ h;subst hn
 have:=ai hx
 exact⟨by rw[h.cellAt (cap:=c) _ (by omega)];exact(jK hx).1,by rw[h.cellAt (cap:=c) _ (by omega)];exact(jK hx).2,h.frozenAt _,h.frozenAt _⟩
theorem co.set {w:World} {base g c n:Nat} {es:List (Int×Int)} {S:List Nat} (h:co w base (.slice (some ⟨g,0,none⟩) n c) es S) {k:Nat} (hk:k<es.length) (x:Int×Int):
  co ((w.setCell ⟨g,k*2,none⟩ (.int .i64 x.1)).setCell ⟨g,k*2+1,none⟩ (.int .i64 x.2)) base (.slice (some ⟨g,0,none⟩) n c) (es.set k x) S:=by
 obtain⟨h,hS⟩:=h;have hn:=eZ h;subst hn;have h1:=(h.stored (k*2) (.int .i64 x.1)).1;have h2:=(h1.stored (k*2+1) (.int .i64 x.2)).1;rw[zY x hk]at h2;refine⟨?_,hS⟩;rw[List.length_set];exact h2
def ao (w:World) (base:Nat) (ve vi vn:Value) (n:am) (S:List Nat):Prop:=
 ∃S1 S2 S3,oA w base ve n.ends S1/\it w base vi n.ids S2/\it w base vn n.aaa S3/\S=S1++(S2++S3)/\S.Nodup
theorem ao.read {w:World} {base:Nat} {ve vi vn:Value} {n:am} {S:List Nat} (h:ao w base ve vi vn n S):aI w ve vi vn n:=by
 obtain⟨S1,S2,S3,h1,h2,h3,_⟩:=h;exact⟨oA.read h1,h2.1.ints,h3.1.ints⟩
theorem ao.range {w:World} {base:Nat} {ve vi vn:Value} {n:am} {S:List Nat} (h:ao w base ve vi vn n S):∀k∈S,base<=k/\k<w.heap.size:=by
 obtain⟨S1,S2,S3,h1,h2,h3,h4,_⟩:=h;intro k hk;rw[h4]at hk;rcases List.mem_append.1 hk with hk | hk
 ·exact ii.range h1 k hk
 ·rcases List.mem_append.1 hk with hk | hk
  ·exact dF.range h2 k hk
  ·exact dF.range h3 k hk
theorem ao.aac {w w':World} {base:Nat} {ve vi vn:Value} {n:am} {S:List Nat} (h:ao w base ve vi vn n S) (hs:∀k∈S,w'.heap[k]?=w.heap[k]?):ao w' base ve vi vn n S:=by
 obtain⟨S1,S2,S3,h1,h2,h3,h4,h5⟩:=h
 exact⟨S1,S2,S3,ii.aac h1 (fun k hk=>hs k (by rw[h4];simp[hk])),dF.aac h2 (fun k hk=>hs k (by rw[h4];simp[hk])),dF.aac h3 (fun k hk=>hs k (by rw[h4];simp[hk])),h4,h5⟩
theorem ao.aab {w w':World} {base:Nat} {ve vi vn:Value} {n:am} {S:List Nat} (h:ao w base ve vi vn n S) (hb:Below w.heap.size w w'):ao w' base ve vi vn n S:=
 h.aac fun k hk=>hb.block k (h.range k hk).2
theorem ao.mono {w:World} {base gF:Nat} {ve vi vn:Value} {n:am} {S:List Nat} (h:ao w base ve vi vn n S) (hb:gF<=base):ao w gF ve vi vn n S:=by
 obtain⟨S1,S2,S3,h1,h2,h3,h4,h5⟩:=h;exact⟨S1,S2,S3,ii.mono h1 hb,dF.mono h2 hb,dF.mono h3 hb,h4,h5⟩
def JT (x y:List Int):Bool:=decide (x=y)
theorem xr:(Tryz.prog.info? 34).map (fun i=>(i.zero,i.size,i.bytes))=some (some (.slice none 0 0),1,24):=by kernel_rfl
theorem oB:(Tryz.prog.info? 36).map (fun i=>(i.zero,i.size,i.bytes))=some (some (.agg #[.int .i64 0,.int .i64 0]),2,16):=by kernel_rfl
theorem oC (z:Value) (n:Nat):madeCells #[z] (n*1)=Array.replicate n z:=by
 apply Array.ext'
 rw[toList_madeCells_one];simp
theorem sG (n:Nat) (hn:n<=1000000) (W:World):(Instr.makeSlice 24 (.int .i64 (n:Int)) (.int .i64 (n:Int))).run Tryz.prog W=.ok (.slice (some ⟨W.heap.size,0,none⟩) n n) (W.alloc (.cells (Array.replicate n (Value.slice none 0 0)) 34)):=by
 obtain⟨i0,hi,eS,cj,cX⟩:=info_parts xr
 have hr:=run_make (P:=Tryz.prog) W 24 34 i0 (.slice none 0 0) Tryz.underlying24 hi eS .i64 .i64 n n (by omega) (Int.le_refl _) (by rw[cX];omega) (by omega)
 rw[cj]at hr;simp only[Int.toNat_natCast]at hr;rw[show(Value.slice none 0 0).cells=#[Value.slice none 0 0]from rfl,oC]at hr
 exact hr
theorem jL (n:Nat) (hn:n<=1000000) (W:World):(Instr.makeSlice 25 (.int .i64 (n:Int)) (.int .i64 (n:Int))).run Tryz.prog W=.ok (.slice (some ⟨W.heap.size,0,none⟩) n n) (W.alloc (.cells (Array.replicate n (Value.int .i64 0)) 3)):=by
 obtain⟨i0,hi,eS,cj,cX⟩:=info_parts iC
 have hr:=run_make (P:=Tryz.prog) W 25 3 i0 (.int .i64 0) Tryz.underlying25 hi eS .i64 .i64 n n (by omega) (Int.le_refl _) (by rw[cX];omega) (by omega)
 rw[cj]at hr;simp only[Int.toNat_natCast]at hr;rw[show(Value.int IntKind.i64 0).cells=#[Value.int .i64 0]from rfl,oC]at hr
 exact hr
def bP (n:Nat):am:={ ends:=List.replicate n [],ids:=[],aaa:=List.replicate n 0 }
theorem oD (w:World) (base:Nat):co w base (.slice none 0 0) [] []:=⟨World.ownsRow_nil w base _ _,rfl⟩
theorem gH (w:World) (base:Nat):it w base (.slice none 0 0) [] []:=⟨fT w base,rfl⟩
theorem sH (w:World) (n:Nat) (hn:n<=1000000):it (w.alloc (.cells (Array.replicate n (Value.int .i64 0)) 3)) w.heap.size (.slice (some ⟨w.heap.size,0,none⟩) n n) (List.replicate n 0) [w.heap.size]:=by
 have:=ka w (List.replicate n 0) (by simp[maxLen];omega)
 simp only[List.length_replicate,List.map_replicate,List.toArray_replicate]at this;exact⟨this,rfl⟩
theorem oF (w:World) (n:Nat) (hn:n<=1000000):oA (w.alloc (.cells (Array.replicate n (Value.slice none 0 0)) 34)) w.heap.size (.slice (some ⟨w.heap.size,0,none⟩) n n) (List.replicate n []) [w.heap.size]:=
 by have:=aM.made (R:=co) (e:=34) n (by simp[maxLen];omega) oD w;rw[List.toArray_replicate]at this;exact this
theorem uW (w:World) (B:Obj) (n:Nat) (hn:n<=1000000):
  ao (((w.alloc B).alloc (.cells (Array.replicate n (Value.slice none 0 0)) 34)).alloc (.cells (Array.replicate n (Value.int .i64 0)) 3)) w.heap.size
   (.slice (some ⟨w.heap.size+1,0,none⟩) n n) (.slice none 0 0) (.slice (some ⟨w.heap.size+1+1,0,none⟩) n n) (bP n) [w.heap.size+1,w.heap.size+1+1]:=by
 have h1:=oF (w.alloc B) n hn;have h2:=sH ((w.alloc B).alloc (.cells (Array.replicate n (Value.slice none 0 0)) 34)) n hn;simp only[World.size_alloc]at h1 h2;exact⟨[w.heap.size+1],[],[w.heap.size+1+1],ii.mono (ii.aab h1 (aj _ _)) (by omega),gH _ _,dF.mono h2 (by omega),rfl,by simp⟩
theorem sI (w:World) (B:Obj) (n:Nat) (hn:n<=1000000):
  ao (((w.alloc B).alloc (.cells (Array.replicate n (Value.int .i64 0)) 3)).alloc (.cells (Array.replicate n (Value.slice none 0 0)) 34)) w.heap.size
   (.slice (some ⟨w.heap.size+1+1,0,none⟩) n n) (.slice none 0 0) (.slice (some ⟨w.heap.size+1,0,none⟩) n n) (bP n) [w.heap.size+1+1,w.heap.size+1]:=by
 have h1:=sH (w.alloc B) n hn;have h2:=oF ((w.alloc B).alloc (.cells (Array.replicate n (Value.int .i64 0)) 3)) n hn;simp only[World.size_alloc]at h1 h2;exact⟨[w.heap.size+1+1],[],[w.heap.size+1],ii.mono h2 (by omega),gH _ _,dF.mono (dF.aab h1 (aj _ _)) (by omega),rfl,by simp⟩
theorem zZ (w:World) (a b c:Obj):Below w.heap.size w (((w.alloc a).alloc b).alloc c):=(((Below.refl _ _).alloc (Nat.le_refl _) _).alloc (by simp) _).alloc (by simp;omega) _
theorem ao.drew {w:World} {base:Nat} {ve vi vn:Value} {n:am} {S:List Nat} (h:ao w base ve vi vn n S):ao w.drew base ve vi vn n S:=h.aac fun _ _=>rfl
def mm (w:World) (n:am) (e:Ending) (w':World):Prop:=∃ve vi vn S,e=.returned (.agg #[ve,vi,vn])/\ao w' w.heap.size ve vi vn n S/\Below w.heap.size w w'
theorem ao.aah {w:World} {base g c n:Nat} {vi vn:Value} {N:am} {S:List Nat} (h:ao w base (.slice (some ⟨g,0,none⟩) n c) vi vn N S) {k:Nat} {x:List (Int×Int)} (hx:N.ends[k]?=some x):
  ∃u T,w.cell? ⟨g,k,none⟩=some u/\w.frozen? ⟨g,k,none⟩=false/\co w base u x T/\base<=g/\g<w.heap.size/\g∈S:=by
 obtain⟨S1,S2,S3,h1,_,_,h4,_⟩:=h;obtain⟨u,T,a,b,c,_,_,d⟩:=aM.at_ h1 hx
 exact⟨u,T,a,b,c,(ii.range h1 g d).1,(ii.range h1 g d).2,by rw[h4];exact List.mem_append_left _ d⟩
def aS (w:World) (b:Nat) (x y z:Value):Prop:=∃r,w.heap[b]?=some (.cells #[x,y,z] r)
theorem aS.cells {w:World} {b:Nat} {x y z:Value} (h:aS w b x y z):w.cell? ⟨b,0,none⟩=some x/\w.cell? ⟨b,1,none⟩=some y/\w.cell? ⟨b,2,none⟩=some z/\w.frozen? ⟨b,0,none⟩=false/\w.frozen? ⟨b,1,none⟩=false/\w.frozen? ⟨b,2,none⟩=false:=by
 obtain⟨r,h⟩:=h;simp[World.cell?,World.frozen?,h]
theorem aS.lt {w:World} {b:Nat} {x y z:Value} (h:aS w b x y z):b<w.heap.size:=by
 obtain⟨r,h⟩:=h;exact(Array.getElem?_eq_some_iff.1 h).1
theorem aS.below {w w':World} {B b:Nat} {x y z:Value} (h:aS w b x y z) (hb:Below B w w') (hB:b<B):aS w' b x y z:=by
 obtain⟨r,h⟩:=h;exact⟨r,(hb.block b hB).trans h⟩
theorem aS.set {w:World} {b:Nat} {x y z u:Value} {a:Addr} (h:aS w b x y z) (ha:a.block≠b):aS (w.setCell a u) b x y z:=by
 obtain⟨r,h⟩:=h;exact⟨r,(Below.heap_setCell w a u b (Ne.symm ha)).trans h⟩
theorem aS.alloc {w:World} {b:Nat} {x y z:Value} (h:aS w b x y z) (o:Obj):aS (w.alloc o) b x y z:=h.below (aj w o) h.lt
theorem aS.new (w:World) (x y z:Value) (t:TypeId):aS (w.alloc (.cells #[x,y,z] t)) w.heap.size x y z:=⟨t,by show(w.heap.push _)[w.heap.size]?=_;rw[Array.getElem?_push_size]⟩
def JU (n:Nat):List Int:=(List.range n).map Int.ofNat
theorem rx {w:World} {ops:Array Oper} {rest:List Oper} {o:Oper} {a:Act} {Q:Exit->Act->World->Prop} (gA:o.guard=none) (s x:Operand)
  (ho:o.op=.call { callee:=.builtin .append,args:=#[s,x],argTypes:=#[25,25] }) {base:Nat} {v:Value} {xs:List Int} (hs:a.eval s=v) (h:Own w base v xs) (b:Nat) (y:Int)
  (hx:a.eval x=.slice (some ⟨b,0,none⟩) 1 1) (hc:w.cell? ⟨b,0,none⟩=some (.int .i64 y)) (hl:xs.length+1<=17592186044416) (gJ:base<=w.heap.size)
  (k:∀g cap w',Own w' base (.slice (some ⟨g,0,none⟩) (xs.length+1) cap) (xs++[y])->w.grownBy w' v.ownBlock->(v.ownBlock=some g\/g=w.heap.size)->g<w'.heap.size->wpList Tryz.prog ops Q rest (a.put o.dst (.slice (some ⟨g,0,none⟩) (xs.length+1) cap)) w'):wpList Tryz.prog ops Q (o::rest) a w:=by
 obtain⟨i0,hi,eS,cj,cX⟩:=info_parts iC
 refine wpList_append_lies w gA s x 25 ho base 3 i0 (.int .i64 0) 1 8 Tryz.underlying25 hi eS cj cX rfl (by decide) v xs.length (xs.map (Value.int .i64)) hs h ⟨b,0,none⟩ 1 1 [.int .i64 y] hx rfl
  (by intro j u hj;match j,hj with | 0,hj=>(simp at hj;subst hj;simpa[Addr.add]using hc) | j+1,hj=>simp at hj) (by simp[Value.oneCell']) (by omega) (by unfold maxLen;omega) (by omega) gJ w.heap.size rfl ?_
 intro g cap w' h1 h2 h3 h4;refine k g cap w' ?_ h2 h3 h4;unfold Own;simpa using h1
theorem aM.grow {β:Type} {R:World->Nat->Value->β->List Nat->Prop} {e:TypeId} {w:World} {base g c n:Nat} {xs:List β} {S:List Nat} (L:cd R) (h:aM e R w base (.slice (some ⟨g,0,none⟩) n c) xs S) {k:Nat} {x:β} (hx:xs[k]?=some x):
  ∃u T,w.cell? ⟨g,k,none⟩=some u/\R w base u x T/\(∀j∈T,j∈S)/\g∉T/\(∀(u':Value) (x':β) (T':List Nat) (w':World),R w' base u' x' T'->aL T w w'->(∀j∈T',j∈T\/w.heap.size<=j)->∃S',aM e R (w'.setCell ⟨g,k,none⟩ u') base (.slice (some ⟨g,0,none⟩) n c) (xs.set k x') S'/\∀j∈S',j∈S\/w.heap.size<=j):=by
 have hS:=(iE e L).range h;obtain⟨vs,Ss,h1,h2,h3,h4,h5⟩:=h;have hk:k<xs.length:=ai hx;have hn:=eZ h1;subst hn;have pR:vs.length=xs.length:=by simpa using h1.1
 obtain⟨u,hu⟩:=ax vs k (by omega);obtain⟨T,hT⟩:=ax Ss k (by omega);have lx:=h5;rw[h4,List.nodup_append]at lx
 have qG:g∈S:=by rw[h4];simp[Value.ownBlock]
 have Fb:g∉Ss.flatten:=fun hg=>lx.2.2 g (by simp[Value.ownBlock]) g hg rfl
 have Gl:∀j∈T,j∈S:=fun j hj=>by rw[h4];exact List.mem_append_right _ (List.mem_flatten.2 ⟨T,List.mem_of_getElem? hT,hj⟩)
 have xq:g∉T:=fun hg=>Fb (List.mem_flatten.2 ⟨T,List.mem_of_getElem? hT,hg⟩)
 refine⟨u,T,by rw[h1.cellAt (cap:=c) k (by omega)];exact hu,h3 k u x T hu hx hT,Gl,xq,fun u' x' T' w' hR ho mj=>?_⟩
 have OW:=(hS g qG).2
 have JV:g∉T':=fun hg=>by
  rcases mj g hg with h | h
  ·exact xq h
  ·omega
 have OX:w'.ownsRow base e 1 (.slice (some ⟨g,0,none⟩) xs.length c) xs.length vs:=aB h1 (fun j hj=>by
  simp[Value.ownBlock]at hj
  subst hj
  exact ho.block _ OW xq)
 have fY:∀j,j≠g->(w'.setCell ⟨g,k,none⟩ u').heap[j]?=w'.heap[j]?:=fun j hj=>Below.heap_setCell w' _ _ j hj
 refine⟨(Value.slice (some ⟨g,0,none⟩) xs.length c).ownBlock.toList++(Ss.set k T').flatten,⟨vs.set k u',Ss.set k T',?_,by simp[h2],?_,rfl,?_⟩,?_⟩
 ·have:=(OX.stored k u').1
  rw[List.length_set];exact this
 ·intro j u2 x2 T2 ux sg IY
  by_cases jy:k=j
  ·subst jy;rw[List.getElem?_set_self (by omega)]at ux sg IY
   cases ux;cases sg;cases IY
   exact L.aac hR (fun i hi=>fY i (fun e=>JV (e ▸ hi)))
  ·rw[List.getElem?_set_ne jy]at ux sg IY;have h0:=h3 j u2 x2 T2 ux sg IY;refine L.aac h0 (fun i hi=>(fY i (fun e=>Fb ?_)).trans (ho.block i (L.range h0 i hi).2 (i_ lx.2.1 (Ne.symm jy) IY hT hi)))
   subst e;exact List.mem_flatten.2 ⟨T2,List.mem_of_getElem? IY,hi⟩
 ·rw[List.nodup_append];refine⟨lx.1,ig lx.2.1 (L.nodup hR) (fun i j U fJ hU hj OV=>?_),fun a ha b hb oz=>?_⟩
  ·rcases mj j OV with h | h
   ·exact i_ lx.2.1 fJ hU hT hj h
   ·have:=(hS j (by rw[h4];exact List.mem_append_right _ (List.mem_flatten.2 ⟨U,List.mem_of_getElem? hU,hj⟩))).2
    omega
  ·subst oz;simp[Value.ownBlock]at ha
   subst ha;rcases dH hb with hb | hb
   ·exact Fb hb
   ·exact JV hb
 ·intro j hj;rcases List.mem_append.1 hj with hj | hj
  ·left;rw[h4];exact List.mem_append_left _ hj
  ·rcases dH hj with hj | hj
   ·left;rw[h4];exact List.mem_append_right _ hj
   ·rcases mj j hj with h | h
    ·exact .inl (Gl j h)
    ·exact .inr h
theorem ao.aak {w:World} {base g c n:Nat} {vi vn:Value} {N:am} {S:List Nat} (h:ao w base (.slice (some ⟨g,0,none⟩) n c) vi vn N S) {k:Nat} {x:List (Int×Int)} (hx:N.ends[k]?=some x):
  ∃u T,w.cell? ⟨g,k,none⟩=some u/\w.frozen? ⟨g,k,none⟩=false/\co w base u x T/\(∀j∈T,j∈S)/\g∉T/\g∈S/\(∀(u':Value) (x':List (Int×Int)) (T':List Nat) (w':World),co w' base u' x' T'->aL T w w'->(∀j∈T',j∈T\/w.heap.size<=j) ->
   ∃S',ao (w'.setCell ⟨g,k,none⟩ u') base (.slice (some ⟨g,0,none⟩) n c) vi vn { N with ends:=N.ends.set k x' } S'/\∀j∈S',j∈S\/w.heap.size<=j):=by
 have Dw:=h.range;obtain⟨S1,S2,S3,h1,h2,h3,h4,h5⟩:=h;obtain⟨_,_,_,hf,_,_,_,uy⟩:=aM.at_ h1 hx;obtain⟨u,T,hu,hR,Gl,xq,z6⟩:=aM.grow fm h1 hx
 have OY:∀j∈T,j∈S:=fun j hj=>by rw[h4];exact List.mem_append_left _ (Gl j hj)
 have qG:g∈S:=by rw[h4];exact List.mem_append_left _ uy
 refine⟨u,T,hu,hf,hR,OY,xq,qG,fun u' x' T' w' OZ ho mj=>?_⟩
 obtain⟨IZ,o1,hs⟩:=z6 u' x' T' w' OZ ho mj;rw[h4,List.nodup_append]at h5;obtain⟨n1,n2,n3⟩:=h5;have cy:aL (g::T) w (w'.setCell ⟨g,k,none⟩ u'):=(ho.mono (fun j hj=>List.mem_cons_of_mem _ hj)).setCell (.inl (by simp)) _
 have d:∀j∈S2++S3,j∉g::T:=fun j hj hg'=>by
  rcases List.mem_cons.1 hg' with rfl | hg'
  ·exact n3 _ uy _ hj rfl
  ·exact n3 _ (Gl j hg') _ hj rfl
 refine⟨IZ++(S2++S3),⟨IZ,S2,S3,o1,dF.only h2 cy (fun j hj=>d j (List.mem_append_left _ hj)),dF.only h3 cy (fun j hj=>d j (List.mem_append_right _ hj)),rfl,?_⟩,?_⟩
 ·rw[List.nodup_append];refine⟨ii.nodup o1,n2,fun a ha b hb oz=>?_⟩
  subst oz;rcases hs a ha with h | h
  ·exact n3 a h a hb rfl
  ·have:=(Dw a (by rw[h4];exact List.mem_append_right _ hb)).2
   omega
 ·intro j hj;rcases List.mem_append.1 hj with hj | hj
  ·rcases hs j hj with h | h
   ·exact .inl (by rw[h4];exact List.mem_append_left _ h)
   ·exact .inr h
  ·exact .inl (by rw[h4];exact List.mem_append_right _ hj)
theorem uX (w:World) (base:Nat):ao w base (.slice none 0 0) (.slice none 0 0) (.slice none 0 0) ⟨[],[],[]⟩ []:=
 ⟨[],[],[],⟨[],[],World.ownsRow_nil w base _ _,rfl,fun k u x T h=>by simp at h,rfl,by simp⟩,gH _ _,gH _ _,rfl,by simp⟩
theorem bf {w w':World} (hb:Below w.heap.size w w') {a:Addr} {u:Value} (h:w.cell? a=some u) (hf:w.frozen? a=false):w'.frozen? a=false:=(hb.frozen (World.block_lt_of_cell? w _ h)).trans hf
theorem aL.fz {S:List Nat} {a b:World} (h:aL S a b) {p:Addr} {u:Value} (hp:p.block∉S) (hc:a.cell? p=some u) (hf:a.frozen? p=false):b.frozen? p=false:=
 (World.frozen?_of_block (h.block p.block (World.block_lt_of_cell? a _ hc) hp)).trans hf
open Go.ChangeShapes Go.WideShapes Go.ChangeAt Go.RowKit Go.Joins Go.Deep
section
variable {H : Type} {enc : TypeId × Value → H} {W : World}
end
def left (l:Int) (n:Nat):Int:=if l-n<0 then -1 else l-n
def ry (bX:List (List (Int×Int))):Nat:=(bX.map List.length).sum
def Gm (bX:List (List (Int×Int))):Nat:=bX.length+ry bX
def ij (n:am):Nat:=Gm n.ends+n.ids.length+n.aaa.length
section
variable {ops : Array Oper} {rest : List Oper} {o : Oper} {a : Act} {Q : Exit → Act → World → Prop}
end
section
variable {ops : Array Oper} {rest : List Oper} {o : Oper} {a : Act} {Q : Exit → Act → World → Prop}
end
theorem aS.aat {w:World} {b:Nat} {x y z u:Value} (h:aS w b x y z):aS (w.setCell ⟨b,0,none⟩ u) b u y z:=by
 obtain⟨r,h⟩:=h;exact⟨r,by simp[World.setCell,Array.getElem?_modify,h]⟩
theorem aS.aau {w:World} {b:Nat} {x y z u:Value} (h:aS w b x y z):aS (w.setCell ⟨b,1,none⟩ u) b x u z:=by
 obtain⟨r,h⟩:=h;exact⟨r,by simp[World.setCell,Array.getElem?_modify,h]⟩
theorem aS.aav {w:World} {b:Nat} {x y z u:Value} (h:aS w b x y z):aS (w.setCell ⟨b,2,none⟩ u) b x y u:=by
 obtain⟨r,h⟩:=h;exact⟨r,by simp[World.setCell,Array.getElem?_modify,h]⟩
def ly (ids:List Int) (nodes:Int):Bool:=((List.range ids.length).all fun i=>dW 1 999999 (ids.getD i 0) && !((ids.take i).contains (ids.getD i 0)))&&((ids.length:Int)==0||(ids.length:Int)==nodes)
theorem fO {ids:List Int} {i:Nat} (h:i<ids.length):ids.getD i 0=ids[i]:=by simp[zDd,h]
theorem sJ (ids:List Int):(∀i (h:i<ids.length),ids[i]∉ids.take i)↔ids.Nodup:=by
 unfold List.Nodup;rw[List.pairwise_iff_getElem];constructor
 ·intro h i j hi hj Gk e
  refine h j hj (List.mem_iff_getElem.2 ⟨i,by simp;omega,?_⟩)
  rw[List.getElem_take];exact e
 ·intro h i hi hm;obtain⟨j,hj,e⟩:=List.mem_iff_getElem.1 hm;simp at hj
  rw[List.getElem_take]at e;exact h j i (by omega) hi (by omega) e
theorem uY (lo up:Int) (s:List Int):lu lo up s=true↔(∀x∈s,dW lo up x=true)/\s.Pairwise (· < ·):=by
 unfold lu;rw[List.all_eq_true];constructor
 ·intro h
  have h':∀i (hl:i<s.length),dW lo up s[i]=true/\(i=0\/s.getD (i-1) 0<s[i]):=fun i hl=>by
   have:=h i (List.mem_range.2 hl)
   rw[fO hl]at this;simpa using this
  refine⟨fun x hx=>?_,?_⟩
  ·obtain⟨i,hi,rfl⟩:=List.mem_iff_getElem.1 hx;exact(h' i hi).1
  ·rw[List.pairwise_iff_getElem];intro i j hi hj Gk
   induction j with
   | zero=>omega
   | succ j ih=>
    have hs:=(h' (j+1) hj).2;rw[Nat.add_sub_cancel,fO (show j<s.length by omega)]at hs
    rcases Nat.lt_or_ge i j with h1 | h1
    ·have:=ih (by omega) h1
     omega
    ·obtain rfl:i=j:=by omega
     omega
 ·rintro⟨h1,h2⟩ i hi;have hl:=List.mem_range.1 hi;rw[fO hl];rw[List.pairwise_iff_getElem]at h2;rw[Bool.and_eq_true];refine⟨h1 _ (List.getElem_mem hl),?_⟩;rcases Nat.eq_zero_or_pos i with h0 | h0
  ·simp[h0]
  ·have:=h2 (i-1) i (by omega) hl (by omega)
   rw[fO (show i-1<s.length by omega)]
   simp[this]
theorem z7 (ids:List Int) (nodes:Int):ly ids nodes=true↔(∀x∈ids,dW 1 999999 x=true)/\ids.Nodup/\((ids.length:Int)=0\/(ids.length:Int)=nodes):=by
 unfold ly;rw[Bool.and_eq_true,List.all_eq_true,<- sJ];constructor
 ·rintro⟨h,h2⟩
  have h':∀i (hl:i<ids.length),dW 1 999999 ids[i]=true/\ids[i]∉ids.take i:=fun i hl=>by
   have:=h i (List.mem_range.2 hl)
   rw[fO hl]at this;simpa using this
  refine⟨fun x hx=>?_,fun i hl=>(h' i hl).2,by simpa using h2⟩
  obtain⟨i,hi,rfl⟩:=List.mem_iff_getElem.1 hx;exact(h' i hi).1
 ·rintro⟨h1,h2,h3⟩;refine⟨fun i hi=>?_,by simpa using h3⟩
  have hl:=List.mem_range.1 hi;rw[fO hl,Bool.and_eq_true];exact⟨h1 _ (List.getElem_mem hl),by simpa using h2 i hl⟩
theorem xt (ids:List Int) (nodes:Int):ly ids nodes=pZ ids nodes:=by
 rw[Bool.eq_iff_iff,z7]
 cases Gn:ids with
 | nil=>simp[pZ]
 | cons a l=>
  rw[<- Gn]
  have oh:ids.isEmpty=false:=by rw[Gn];rfl
  have Nf:¬(ids.length:Int)=0:=by rw[Gn];simp;omega
  unfold pZ;rw[oh,Bool.false_or,Bool.and_eq_true,uY,beq_iff_eq];have hp:=List.mergeSort_perm ids (fun x y=>decide (x<=y))
  have hs:(ids.mergeSort fun x y=>decide (x<=y)).Pairwise fun a b=>decide (a<=b)=true:=
   List.pairwise_mergeSort (fun a b c h1 h2=>by simp at h1 h2 ⊢;omega) (fun a b=>by simp;omega) ids
  constructor
  ·rintro⟨h1,h2,h3⟩;refine⟨by omega,fun x hx=>h1 x (hp.mem_iff.1 hx),?_⟩
   have hn:=hp.nodup_iff.2 h2
   exact(hs.and hn).imp fun {a b} ⟨h,h'⟩=>by simp at h;omega
  ·rintro⟨h1,h2,h3⟩;refine⟨fun x hx=>h2 x (hp.mem_iff.2 hx),hp.nodup_iff.1 (h3.imp fun {a b} h=>by omega),.inr h1⟩
def f8 (xs:List Int) (x:Int):Bool:=xs.contains x
theorem gB (v:Value) (xs:List Int) (x:Int) (w:World) (h:aG w v xs):Calls Tryz.prog 83 #[v,.int .i64 x] w fun e w'=>e=.returned (.bool (f8 xs x))/\w=w':=by
 obtain⟨A,c,rfl,er,hm,hA⟩:=h;unfold maxLen at hm;have HA:=zh hA;clear hA
 go_enter Tryz.func83,Tryz.ntmps83
 go_wp2
 go_loop [9] (fun i=>∃k:Nat,k<=xs.length/\i=.int .i64 k/\x∉xs.take k) (fun i=>xs.length-(intOf i).toNat)
 case atStart=>exact⟨0,Nat.zero_le _,rfl,by simp⟩
 case round=>
  obtain⟨k,hk,rfl,kL⟩:=hrel;have qH:=zh kL;clear kL
  by_cases aH:k<xs.length
  ·obtain⟨y,hy⟩:=ax xs k aH;obtain⟨b,off,rfl,bW⟩:=HA.out k y hy;have Hy:=zh hy;clear hy
   by_cases z8:y=x
   ·subst z8;go_wp2;go_ret
    exact⟨cB (by unfold f8;simpa using List.mem_of_getElem? Hy.out),rfl⟩
   ·go_wp2
    go_round
    case rel=>
     refine⟨k+1,by omega,by simp,?_⟩
     rw[aK Hy.out];simp only[List.mem_append,List.mem_singleton,not_or];exact⟨qH.out,fun e=>z8 e.symm⟩
    case measure=>simp[intOf];omega
  ·go_wp2;go_ret
   have:=qH.out
   rw[iB xs aH]at this
   exact⟨az (by unfold f8;simpa using this),rfl⟩
theorem aG.take {w:World} {A:Option Addr} {c:Nat} {xs:List Int} (h:aG w (.slice A xs.length c) xs) (k:Nat) (hk:k<=xs.length):aG w (.slice A k c) (xs.take k):=by
 obtain⟨A',c',hv,er,hm,hA⟩:=h;cases hv
 refine⟨A,c,by simp[Nat.min_eq_left hk],by simp;omega,hm,fun j x hx=>?_⟩
 have hj:j<k:=by have:=ai hx;simp at this;omega
 rw[List.getElem?_take,if_pos hj]at hx;exact hA j x hx
theorem yj (v:Value) (ids:List Int) (nodes:Int) (w:World) (h:aG w v ids):Calls Tryz.prog 75 #[v,.int .i64 nodes] w fun e w'=>e=.returned (.bool (ly ids nodes))/\w=w':=by
 have H:=zh h;obtain⟨A,c,rfl,er,hm,hA⟩:=h;unfold maxLen at hm;have HA:=zh hA;clear hA
 go_enter Tryz.func75,Tryz.ntmps75
 go_wp2
 go_loop [9] (fun i=>∃k:Nat,k<=ids.length/\i=.int .i64 k/\∀j,j<k->dW 1 999999 (ids.getD j 0)=true/\f8 (ids.take j) (ids.getD j 0)=false) (fun i=>ids.length-(intOf i).toNat)
 case atStart=>exact⟨0,Nat.zero_le _,rfl,fun j hj=>by omega⟩
 case round=>
  obtain⟨k,hk,rfl,kL⟩:=hrel;have qH:=zh kL;clear kL
  by_cases aH:k<ids.length
  ·obtain⟨y,hy⟩:=ax ids k aH;obtain⟨b,off,rfl,bW⟩:=HA.out k y hy;have Ti:ids.getD k 0=y:=by simp[hy]
   have Hg:=zh Ti;clear hy Ti;cases hi:dW 1 999999 y
   ·go_wp2_with (go_at_call 66;refine(ip _ _ _ _).mono ?_;rintro e w' ⟨rfl,rfl⟩)
    go_ret;refine⟨az ?_,rfl⟩;unfold ly;rw[Bool.and_eq_false_iff]
    left
    rw[List.all_eq_false]
    exact⟨k,List.mem_range.2 aH,by rw[Hg.out,hi];simp⟩
   ·cases hc:f8 (ids.take k) y
    ·go_wp2_with (first | (go_at_call 66;refine(ip _ _ _ _).mono ?_;rintro e w' ⟨rfl,rfl⟩) | (go_at_call 83;refine(gB _ (ids.take k) y _ (H.out.take k hk)).mono ?_;rintro e w' ⟨rfl,rfl⟩))
     go_round
     case rel=>
      refine⟨k+1,by omega,by simp,fun j hj=>?_⟩
      rcases Nat.lt_or_ge j k with h | h
      ·exact qH.out j h
      ·obtain rfl:j=k:=by omega
       rw[Hg.out];exact⟨hi,hc⟩
     case measure=>simp[intOf];omega
    ·go_wp2_with (first | (go_at_call 66;refine(ip _ _ _ _).mono ?_;rintro e w' ⟨rfl,rfl⟩) | (go_at_call 83;refine(gB _ (ids.take k) y _ (H.out.take k hk)).mono ?_;rintro e w' ⟨rfl,rfl⟩))
     go_ret;refine⟨az ?_,rfl⟩;unfold ly;rw[Bool.and_eq_false_iff]
     left
     rw[List.all_eq_false]
     exact⟨k,List.mem_range.2 aH,by rw[Hg.out,hi];unfold f8 at hc;rw[hc];simp⟩
  ·have bF:Hid (ly ids nodes=((ids.length:Int)==0||(ids.length:Int)==nodes)):=by
    show _=_
    unfold ly
    rw[show((List.range ids.length).all fun i=>dW 1 999999 (ids.getD i 0) && !((ids.take i).contains (ids.getD i 0)))=true from List.all_eq_true.2 (fun j hj=>by
     have:=qH.out j (by have:=List.mem_range.1 hj;omega)
     unfold f8 at this
     rw[this.1,this.2];rfl),Bool.true_and]
   by_cases h0:(ids.length:Int)=0
   ·go_wp2;go_ret
    exact⟨cB (by rw[bF.out];simp[h0]),rfl⟩
   ·have oh:¬ids=[]:=fun e=>h0 (by simp[e])
    go_wp2;go_ret;refine⟨b7 ?_,rfl⟩;rw[bF.out,show((ids.length:Int)==0)=false by simpa using h0,Bool.false_or]
@[simp ↓] theorem Fc (a b c d:Int) (w:World):(binOp .neq 36 (.agg #[.int .i64 a,.int .i64 b]) (.agg #[.int .i64 c,.int .i64 d])).run Tryz.prog w=.ok (.bool (!sw (a,b) (c,d))) w:=by
 go_simp
 by_cases f1:a=c
 ·by_cases f2:b=d
  ·simp[f1,f2,sw]
  ·simp[f1,f2,sw]
 ·simp[f1,sw]
@[simp ↓] theorem Fe (a b c d:Int) (w:World):(binOp .eql 36 (.agg #[.int .i64 a,.int .i64 b]) (.agg #[.int .i64 c,.int .i64 d])).run Tryz.prog w=.ok (.bool (sw (a,b) (c,d))) w:=by
 go_simp
 by_cases f1:a=c
 ·by_cases f2:b=d
  ·simp[f1,f2,sw]
  ·simp[f1,f2,sw]
 ·simp[f1,sw]
theorem aI.es {w:World} {a b c:Value} {n:am} (h:aI w a b c n):jt w a n.ends:=h.1
theorem aI.is {w:World} {a b c:Value} {n:am} (h:aI w a b c n):aG w b n.ids:=h.2.1
theorem aI.ns {w:World} {a b c:Value} {n:am} (h:aI w a b c n):aG w c n.aaa:=h.2.2
theorem aR (z:Int) (h : -9223372036854775808<=z) (h2:z<=9223372036854775807):IntKind.i64.wrap z=z:=IntWalk.i64_in z ⟨h,h2⟩
theorem oG (ve vi vn:Value) (n:am) (w:World) (h:aI w ve vi vn n):
  Calls Tryz.prog 33 #[.agg #[ve,vi,vn]] w fun e w'=>e=.returned (.bool (aw n))/\Below w.heap.size w w':=by
 obtain⟨w0,au⟩:∃w0,w0=w.alloc (.cells #[ve,vi,vn] 27):=⟨_,rfl⟩
 have bO:Below w.heap.size w w0:=by rw[au];exact aj _ _
 have H:=zh (h.aab bO);obtain⟨h1,h2,h3⟩:=h.aab bO;obtain⟨A,c,rfl,er,hm,hA⟩:=h1;obtain⟨A2,c2,rfl,_,et,_⟩:=h2;obtain⟨A3,c3,rfl,_,fG,_⟩:=h3;unfold maxLen at hm et fG
 have p0:∀W,aa w0 W->W.cell? ⟨w.heap.size,0,none⟩=some (.slice A n.ends.length c):=fun W hW=>bc hW (by rw[au];simp)
 have p1:∀W,aa w0 W->W.cell? ⟨w.heap.size,1,none⟩=some (.slice A2 n.ids.length c2):=fun W hW=>bc hW (by rw[au];simp)
 have p2:∀W,aa w0 W->W.cell? ⟨w.heap.size,2,none⟩=some (.slice A3 n.aaa.length c3):=fun W hW=>bc hW (by rw[au];simp)
 have aY:=zh bO;have HA:=zh hA;have bM:=zh au;clear bO hA h au
 go_enter Tryz.func33,Tryz.ntmps33
 go_upto_region 1 with(fail);rw[<- bM.out];refine bI 29 (aa w0) (ab _) ?_;simp only[zT]
 iterate 3 (refine cY rfl ?_;simp only[zA])
 refine ej ?_ rfl ?_ ?_;rotate_left;(intro W hW;unfold bN;go_simp;(with_reducible refine(ip _ _ _ W).mono ?_);rintro e W' ⟨rfl,aZ⟩;first | (refine⟨?_,aa.trans hW aZ⟩;with_reducible rfl) | (subst aZ;refine⟨?_,hW⟩;with_reducible rfl))
 simp only[zA]
 iterate 2 (refine cY rfl ?_;simp only[zA])
 iterate 5 (refine kA rfl rfl ?_;simp only[zA])
 refine ck (v:=?_) rfl rfl ?_ ?_;rotate_left;(intro hb;intro W hW;unfold bN;go_simp;(with_reducible refine(yj _ n.ids _ W (H.out.is.aab hW.below)).mono ?_);rintro e W' ⟨rfl,aZ⟩;first | (refine⟨?_,aa.trans hW aZ⟩;with_reducible rfl) | (subst aZ;refine⟨?_,hW⟩;with_reducible rfl))
 simp only[zA]
 refine kA rfl rfl ?_;simp only[zA]
 (first | refine dh rfl rfl ?_ | (refine cY rfl ?_));simp only[zA]
 refine cY rfl ?_;simp only[zA]
 iterate 7 (refine kA rfl rfl ?_;simp only[zA])
 (first | refine dh rfl rfl ?_ | (refine cY rfl ?_));simp only[zA]
 refine cY rfl ?_;simp only[zA]
 iterate 2 (refine kA rfl rfl ?_;simp only[zA])
 refine ck (v:=?_) rfl rfl ?_ ?_;rotate_left;(intro hb;intro W hW;unfold bN;go_simp;(with_reducible refine(yc _ n.aaa _ _ W (H.out.ns.aab hW.below)).mono ?_);rintro e W' ⟨rfl,aZ⟩;first | (refine⟨?_,aa.trans hW aZ⟩;with_reducible rfl) | (subst aZ;refine⟨?_,hW⟩;with_reducible rfl))
 simp only[zA]
 refine kA rfl rfl ?_;simp only[zA]
 (first | refine dh rfl rfl ?_ | (refine cY rfl ?_));simp only[zA]
 intro W hW
 cases hg:(!dW 1 40 (n.ends.length:Int) || !ly n.ids n.ends.length||((n.aaa.length:Int) != n.ends.length) || !n.aaa.all (dW 0 9))
 ·have hr:=zh (show aw n=(List.range n.ends.length).all fun v=>dP n.ends v (n.ends.getD v []) by
   simp only[Bool.or_eq_false_iff,Bool.not_eq_false',bne_eq_false_iff_eq]at hg
   simp[aw,hg,<- xt,ie])
  have Hg:=zh hg;have HW:=zh hW;clear hg;go_wp2
  go_loopw [39] (fun i wr=>∃k:Nat,k<=n.ends.length/\i=.int .i64 k/\((List.range k).all fun v=>dP n.ends v (n.ends.getD v []))=true/\aa w0 wr) (fun i _=>n.ends.length-(intOf i).toNat)
  case atStart=>exact⟨0,Nat.zero_le _,rfl,rfl,HW.out⟩
  case round=>
   obtain⟨k,hk,rfl,bF,zV⟩:=hrel;have fF:=zh bF;clear bF hW
   by_cases aH:k<n.ends.length
   ·obtain⟨es,ba⟩:=ax n.ends k aH;obtain⟨b,off,u,rfl,bS,bT⟩:=HA.out k es ba;have ke:=ad bS;obtain⟨A1,z1,rfl,cj,cX,gn⟩:=bT;have yh:=zh gn;unfold maxLen at cX;have kB:=zh ba;clear ba bS gn
    by_cases h6:es.length<=6
    ·go_wp2;obtain⟨wo,rfl⟩:∃wo:World,wo=wr:=⟨_,rfl⟩
     go_loopw [49] (fun i wq=>∃j:Nat,j<=es.length/\i=.int .i64 j/\((List.range j).all fun i=>fN n.ends k i (es.getD i (0,0)))=true/\aa w0 wq) (fun i _=>es.length-(intOf i).toNat)
     case atStart=>exact⟨0,Nat.zero_le _,rfl,rfl,zV⟩
     case round=>
      obtain⟨j,hj,rfl,sB,C1⟩:=hrel;have sC:=zh sB;clear sB zV
      by_cases mh:j<es.length
      ·obtain⟨⟨x1,x2⟩,he⟩:=ax es j mh;obtain⟨b1,sD,rfl,mO,gm⟩:=yh.out j _ he;have q1:=ad mO;have q2:=ad gm;have He:=zh he;clear he mO gm;have qI:w.heap.size<wr.heap.size:=World.block_lt_of_cell? wr _ (p0 wr C1);go_wp2;obtain⟨w1,pS⟩:∃w1,(wr.alloc (Obj.cells #[Value.int IntKind.i64 x1,Value.int IntKind.i64 x2] 36))=w1:=⟨_,rfl⟩
       rw[pS]
       have bu:aa w0 w1:=by rw[<- pS];exact ae _ C1
       have r0:=ak p0 bu
       have r3:∀W,aa w1 W->W.cell? ⟨wr.heap.size,0,none⟩=some (.int .i64 x1):=ad (by rw[<- pS];simp)
       have r4:∀W,aa w1 W->W.cell? ⟨wr.heap.size,1,none⟩=some (.int .i64 x2):=ad (by rw[<- pS];simp)
       have iu:=zh bu;have HP:=zh (And.intro p0 (And.intro p1 p2));have HQ:=zh (And.intro ke (And.intro q1 q2));have Nd:=zh C1;clear pS bu p0 p1 p2 ke q1 q2 C1
       by_cases si:dW 0 ((n.ends.length:Int)-1) x1=true
       ·obtain⟨p3,p4⟩:=aC.1 si;obtain⟨k1,rfl⟩:=Int.eq_ofNat_of_zero_le p3;have ld:k1<n.ends.length:=by omega
        obtain⟨xp,sE⟩:=ax n.ends k1 ld;obtain⟨b2,mi,u',pW,sA,zW⟩:=HA.out k1 xp sE
        injection pW with pW
        injection pW with q3 q4
        subst q3 q4;obtain⟨zq,Du,rfl,OR,Gj,uV⟩:=zW;unfold maxLen at Gj;have r5:=ak (ad sA) iu.out;have yi:=zh sE;have O0:=zh uV;clear sE sA uV
        by_cases sg:dW 0 ((xp.length:Int)-1) x2=true
        ·obtain⟨p5,p6⟩:=aC.1 sg;obtain⟨i1,rfl⟩:=Int.eq_ofNat_of_zero_le p5;have kM:i1<xp.length:=by omega
         obtain⟨⟨y1,y2⟩,hy⟩:=ax xp i1 kM;obtain⟨b3,Dv,rfl,JS,E_⟩:=O0.out i1 _ hy;have r6:=ak (ad JS) iu.out;have r7:=ak (ad E_) iu.out;have Hy:=zh hy;have Hx:=zh (And.intro si sg);clear hy JS E_ si sg;have m1:IntKind.i64.wrap ((n.ends.length:Int)-1)=n.ends.length-1:=aR _ (by omega) (by omega);have m2:IntKind.i64.wrap ((xp.length:Int)-1)=xp.length-1:=aR _ (by omega) (by omega);refine aq 38 (aa w1) (by kernel_rfl) (by kernel_rfl) (by simp) (ah (ab _)) ?_;simp only[zT]
         iterate 6 (refine cY rfl ?_;simp only[zA])
         refine ej ?_ rfl ?_ ?_;rotate_left;(intro W hW;unfold bN;go_simp;(with_reducible refine(ip _ _ _ W).mono ?_);rintro e W' ⟨rfl,aZ⟩;first | (refine⟨?_,aa.trans hW aZ⟩;with_reducible rfl) | (subst aZ;refine⟨?_,hW⟩;with_reducible rfl))
         simp only[zA]
         iterate 2 (refine cY rfl ?_;simp only[zA])
         iterate 10 (refine kA rfl rfl ?_;simp only[zA])
         refine ck (v:=?_) rfl rfl ?_ ?_;rotate_left;(intro hb;intro W hW;unfold bN;go_simp;(with_reducible refine(ip _ _ _ W).mono ?_);rintro e W' ⟨rfl,aZ⟩;first | (refine⟨?_,aa.trans hW aZ⟩;with_reducible rfl) | (subst aZ;refine⟨?_,hW⟩;with_reducible rfl))
         simp only[zA]
         refine kA rfl rfl ?_;simp only[zA]
         (first | refine dh rfl rfl ?_ | (refine cY rfl ?_));simp only[zA]
         refine cY rfl ?_;simp only[zA]
         iterate 14 (refine kA rfl rfl ?_;simp only[zA])
         (first | refine dh rfl rfl ?_ | (refine cY rfl ?_));simp only[zA]
         intro W2 z_;have sK:=zh z_;rw[Hx.out.1,Hx.out.2];cases hq:sw (y1,y2) ((k:Int),(j:Int))
         all_goals
          have Hq:=zh hq;clear hq z_ m1 m2;go_wp2
         ·go_ret
          exact⟨az (by rw[hr.out];refine aO aH ?_;rw[ag kB.out];simp only[dP];rw[Bool.and_eq_false_iff];exact .inr (aO mh (by rw[ag He.out];simp[fN,yi.out,Hy.out,Hq.out]))),aa.after aY.out (iu.out.after sK.out)⟩
         ·go_roundw
          case rel=>exact⟨j+1,by omega,by go_num,by rw[cm,sC.out,ag He.out];simp[fN,aW,Hx.out.1,Hx.out.2,yi.out,Hy.out,Hq.out],iu.out.after sK.out⟩
          case measure=>simp[intOf];omega
        ·have JW:dW 0 ((xp.length:Int)-1) x2=false:=by simpa using sg
         have Hx:=zh (And.intro si JW);clear si sg;have m1:IntKind.i64.wrap ((n.ends.length:Int)-1)=n.ends.length-1:=aR _ (by omega) (by omega);have m2:IntKind.i64.wrap ((xp.length:Int)-1)=xp.length-1:=aR _ (by omega) (by omega);refine aq 38 (aa w1) (by kernel_rfl) (by kernel_rfl) (by simp) (ah (ab _)) ?_;simp only[zT]
         iterate 6 (refine cY rfl ?_;simp only[zA])
         refine ej ?_ rfl ?_ ?_;rotate_left;(intro W hW;unfold bN;go_simp;(with_reducible refine(ip _ _ _ W).mono ?_);rintro e W' ⟨rfl,aZ⟩;first | (refine⟨?_,aa.trans hW aZ⟩;with_reducible rfl) | (subst aZ;refine⟨?_,hW⟩;with_reducible rfl))
         simp only[zA]
         iterate 2 (refine cY rfl ?_;simp only[zA])
         iterate 10 (refine kA rfl rfl ?_;simp only[zA])
         refine ck (v:=?_) rfl rfl ?_ ?_;rotate_left;(intro hb;intro W hW;unfold bN;go_simp;(with_reducible refine(ip _ _ _ W).mono ?_);rintro e W' ⟨rfl,aZ⟩;first | (refine⟨?_,aa.trans hW aZ⟩;with_reducible rfl) | (subst aZ;refine⟨?_,hW⟩;with_reducible rfl))
         simp only[zA]
         refine kA rfl rfl ?_;simp only[zA]
         (first | refine dh rfl rfl ?_ | (refine cY rfl ?_));simp only[zA]
         refine cY rfl ?_;simp only[zA]
         iterate 14 (refine mf rfl rfl (by simp[*]) ?_;simp only[zA])
         (first | refine dh rfl rfl ?_ | (refine cY rfl ?_));simp only[zA]
         intro W2 z_;have sK:=zh z_;rw[Hx.out.1,Hx.out.2];clear JW z_ m1 m2;go_wp2;go_ret
         exact⟨az (by rw[hr.out];refine aO aH ?_;rw[ag kB.out];simp only[dP];rw[Bool.and_eq_false_iff];exact .inr (aO mh (by rw[ag He.out];simp[fN,aW,yi.out,Hx.out.2]))),aa.after aY.out (iu.out.after sK.out)⟩
       ·have JX:dW 0 ((n.ends.length:Int)-1) x1=false:=by simpa using si
        have Hx:=zh JX;clear si;have m1:IntKind.i64.wrap ((n.ends.length:Int)-1)=n.ends.length-1:=aR _ (by omega) (by omega);refine aq 38 (aa w1) (by kernel_rfl) (by kernel_rfl) (by simp) (ah (ab _)) ?_;simp only[zT]
        iterate 6 (refine cY rfl ?_;simp only[zA])
        refine ej ?_ rfl ?_ ?_;rotate_left;(intro W hW;unfold bN;go_simp;(with_reducible refine(ip _ _ _ W).mono ?_);rintro e W' ⟨rfl,aZ⟩;first | (refine⟨?_,aa.trans hW aZ⟩;with_reducible rfl) | (subst aZ;refine⟨?_,hW⟩;with_reducible rfl))
        simp only[zA]
        iterate 2 (refine cY rfl ?_;simp only[zA])
        iterate 12 (refine mf rfl rfl (by simp[*]) ?_;simp only[zA])
        (first | refine dh rfl rfl ?_ | (refine cY rfl ?_));simp only[zA]
        refine cY rfl ?_;simp only[zA]
        iterate 14 (refine mf rfl rfl (by simp[*]) ?_;simp only[zA])
        (first | refine dh rfl rfl ?_ | (refine cY rfl ?_));simp only[zA]
        intro W2 z_;have sK:=zh z_;rw[Hx.out];clear JX z_ m1;go_wp2;go_ret
        exact⟨az (by rw[hr.out];refine aO aH ?_;rw[ag kB.out];simp only[dP];rw[Bool.and_eq_false_iff];exact .inr (aO mh (by rw[ag He.out];simp[fN,aW,Hx.out]))),aa.after aY.out (iu.out.after sK.out)⟩
      ·obtain rfl:j=es.length:=by omega
       go_wp2;go_roundw
       case rel=>exact⟨k+1,by omega,by go_num,by rw[cm,fF.out,ag kB.out,Bool.true_and];unfold dP;rw[sC.out];simp[h6],C1⟩
       case measure=>simp[intOf];omega
    ·go_wp2;go_ret
     exact⟨az (by rw[hr.out];exact aO aH (by rw[ag kB.out];simp[dP,h6])),aa.after aY.out zV⟩
   ·obtain rfl:k=n.ends.length:=by omega
    go_wp2;go_ret
    exact⟨cB (by rw[hr.out];exact fF.out),aa.after aY.out zV⟩
 ·have hr:=zh (show aw n=false by
   simp only[Bool.or_eq_true,Bool.not_eq_true',bne_iff_ne,ne_eq]at hg
   rcases hg with((hg | hg) | hg) | hg <;> simp[aw,hg,<- xt,ie])
  have Hg:=zh hg;have HW:=zh hW;clear hg;go_wp2;go_ret;exact⟨az hr.out,aa.after aY.out HW.out⟩
def dA (bX:List (List (Int×Int))) (v i:Int):Int×Int:=(bX.getD v.toNat []).getD i.toNat (0,0)
theorem mn {n:am} (h:aw n=true) {v i:Int} (hp:aW n.ends v i=true):
  aW n.ends (dA n.ends v i).1 (dA n.ends v i).2=true/\dA n.ends (dA n.ends v i).1 (dA n.ends v i).2=(v,i):=by
 unfold aW at hp;rw[Bool.and_eq_true]at hp;obtain⟨p1,p2⟩:=hp;obtain⟨p3,p4⟩:=aC.1 p1;obtain⟨k,rfl⟩:=Int.eq_ofNat_of_zero_le p3;have hk:k<n.ends.length:=by omega
 obtain⟨es,ba⟩:=ax n.ends k hk;rw[Int.toNat_natCast,ag ba]at p2;obtain⟨p5,p6⟩:=aC.1 p2;obtain⟨j,rfl⟩:=Int.eq_ofNat_of_zero_le p5;have hj:j<es.length:=by omega
 obtain⟨⟨y1,y2⟩,hy⟩:=ax es j hj;have e:dA n.ends (k:Int) (j:Int)=(y1,y2):=by simp[dA,ba,hy]
 rw[e];unfold aw at h;rw[Bool.and_eq_true,List.all_eq_true]at h
 have:=h.2 k (List.mem_range.2 hk)
 rw[ag ba]at this;unfold dP at this;rw[Bool.and_eq_true,List.all_eq_true]at this
 have:=this.2 j (List.mem_range.2 hj)
 rw[ag hy]at this;unfold fN at this;rw[Bool.and_eq_true]at this;exact⟨this.1,by simpa[sw,dA]using this.2⟩
theorem dj {n:am} (h:aw n=true):1<=n.ends.length/\n.ends.length<=40:=by
 unfold aw at h;simp only[Bool.and_eq_true]at h
 have:=aC.1 h.1.1.1
 omega
theorem uZ {bX:List (List (Int×Int))} {v i:Int} (hp:aW bX v i=true):0<=v/\v<bX.length:=by
 unfold aW at hp;rw[Bool.and_eq_true]at hp
 have:=aC.1 hp.1
 omega
end Go.Proofs.YtgjggeapebbcbaaGreat
