/- Parts of the proof: walks of functions and plain laws. -/
import Derived.Test.YtgjggeapebbcbaaGreatP0
import Derived.Test.YtgjggeapebbcbaaGreatP2
import Derived.Test.YtgjggeapebbcbaaGreatP4
import Derived.Test.YtgjggeapebbcbaaGreatP3
import Derived.WalkSpells
import Derived.Laws.CopyOwn
import Derived.Shelf.Bits.Mul64
set_option maxRecDepth 100000
set_option maxHeartbeats 16000000
namespace Go.Proofs.YtgjggeapebbcbaaGreat
open Go Go.RowKit
def iL (w:World) (k:Nat):World:={ w with heap:=w.heap.extract 0 k }
theorem jh (w:World) {k:Nat} (hk:k<=w.heap.size):(iL w k).heap.size=k:=by simp[iL];omega
theorem mY (w:World) {k:Nat} (hk:k<=w.heap.size):aa (iL w k) w:=by
 refine⟨rfl,rfl,rfl,by rw[jh w hk];exact hk,fun i hi=>?_⟩
 rw[jh w hk]at hi;simp[iL,Array.getElem?_extract]
 omega
theorem sY {w0 w:World} {k:Nat} (h:aa w0 w) (hk:k<=w.heap.size) (h0:w0.heap.size<=k):aa w0 (iL w k):=by
 refine⟨h.os,h.tape,h.output,by rw[jh w hk];exact h0,fun i hi=>?_⟩
 have:=h.block i hi
 simp only[iL,Array.getElem?_extract];rw[if_pos (by omega)];simpa using this
def aT (W:World) (b:Nat) (x y z:Value):Prop:=W.heap[b]?=some (.cells #[x,y,z] 27)
theorem aT.box {W:World} {b:Nat} {x y z:Value} (h:aT W b x y z):aS W b x y z:=⟨_,h⟩
theorem aT.lt {W:World} {b:Nat} {x y z:Value} (h:aT W b x y z):b<W.heap.size:=(Array.getElem?_eq_some_iff.1 h).1
theorem aT.since {W W':World} {b:Nat} {x y z:Value} (h:aT W b x y z) (hs:aa W W'):aT W' b x y z:=(hs.block b h.lt).trans h
def rD (W:World) (B:Nat) (u:Value):Prop:=∃b,u=.pointer (some ⟨b,0,none⟩)/\B<=b/\aT W b (.slice none 0 0) (.slice none 0 0) (.slice none 0 0)
theorem rD.aab {W W':World} {B:Nat} {u:Value} (h:rD W B u) (hs:aa W W'):rD W' B u:=by
 obtain⟨b,h1,h2,h3⟩:=h;exact⟨b,h1,h2,h3.since hs⟩
theorem rD.new (W:World) {B:Nat} (h:B<=W.heap.size):rD (W.alloc (.cells #[.slice none 0 0,.slice none 0 0,.slice none 0 0] 27)) B (.pointer (some ⟨W.heap.size,0,none⟩)):=
 ⟨_,rfl,h,by show(W.heap.push _)[W.heap.size]?=_;rw[Array.getElem?_push_size]⟩
theorem xD {W:World} {base b:Nat} {v x y z:Value} {xs:List Int} (h:Own W base v xs) (hb:aT W b x y z):v.ownBlock≠some b:=by
 rcases h.2 with⟨rfl,_⟩ | ⟨g,cap,cur,rfl,_,hc,_⟩
 ·simp[Value.ownBlock]
 ·intro e;simp[Value.ownBlock]at e
  subst e;unfold aT at hb;rw[hb]at hc;simp at hc
theorem yx {w w0:World} {ops:Array Oper} {rest:List Oper} {o:Oper} {a:Act} {Q:Exit->Act->World->Prop} (gA:o.guard=none) (s x:Operand)
  (ho:o.op=.call { callee:=.builtin .append,args:=#[s,x],argTypes:=#[34,34] }) {v u:Value} {xs ys:List (Int×Int)} {T:List Nat} (hs:a.eval s=v) (h:co w w0.heap.size v xs T) (hy:ol w u ys)
  (hx:a.eval x=u) (hl:xs.length+ys.length<=1000000) (lf:aa w0 w)
  (k:∀v' w' T',co w' w0.heap.size v' (xs++ys) T'->(∀j∈T',j∈T\/j=w.heap.size)->aL T w w'->aa w0 w'->wpList Tryz.prog ops Q rest (a.put o.dst v') w'):wpList Tryz.prog ops Q (o::rest) a w:=by
 obtain⟨i0,hi,eS,cj,cX⟩:=info_parts oB;obtain⟨A,c,rfl,_,_,hA⟩:=hy;have aH:=fun q hq=>World.ownsRow.lt h.1 q hq
 rcases Nat.eq_zero_or_pos ys.length with h0 | h0
 ·have DA:ys=[]:=List.eq_nil_of_length_eq_zero h0;subst DA;refine wpList_plain gA fun K hK=>?_
  have bG:(Builtin.append_ #[34,34] o.type #[v,.slice A 0 c]).run Tryz.prog w=.ok v w:=by
   rcases h.1.2 with⟨rfl,sZ⟩ | ⟨g,cap,cur,rfl,_,_,x_,_⟩
   ·cases A <;> simp[Builtin.append_,run_underlying Tryz.underlying34,sizeOf,typeInfo,hi,Builtin.lenOf,Builtin.firstCells,loadCells,loadCellsFrom,Result.andThen]
   ·cases A <;> simp[Builtin.append_,run_underlying Tryz.underlying34,sizeOf,typeInfo,hi,Builtin.lenOf,Builtin.firstCells,x_,storeCells,loadCells,loadCellsFrom,Result.andThen]
  simp only[List.length_nil]at hx;unfold Oper.wp;simp[execOp,ho,resolve,invoke,builtin,hs,hx,bG,Result.andThen]
  exact hK _ _ (k v w T (by simpa using h) (fun j hj=>.inl hj) (aL.refl _ _) lf)
 ·obtain⟨y0,Fg⟩:=ax ys 0 h0;obtain⟨b,off,rfl,_⟩:=hA 0 y0 Fg
  refine wpList_append_lies w gA s x 34 ho w0.heap.size 36 i0 _ 2 16 Tryz.underlying34 hi eS cj cX rfl (by decide) v xs.length (xs.flatMap iF) hs h.1 ⟨b,off,none⟩ ys.length c (ys.flatMap iF) hx (sF ys)
   (by
    intro j u hj;have uN:=ai hj;rw[sF]at uN;obtain⟨e,he⟩:=ax ys (j/2) (by omega);obtain⟨b',ru,e',c1,c2⟩:=hA (j/2) e he;cases e';obtain⟨g1,g2⟩:=jK he;rw[Go.Addr.add_lit];rcases Nat.mod_two_eq_zero_or_one j with hm | hm
    ·have e1:j/2*2=j:=by omega
     rw[e1]at c1 g1;rw[g1]at hj
     rw[c1];exact hj
    ·have e1:j/2*2+1=j:=by omega
     rw[e1]at g2;rw[show off+j/2*2+1=off+j by omega]at c2
     rw[g2]at hj
     rw[c2];exact hj) (by intro u hu;obtain⟨x,_,hx⟩:=List.mem_flatMap.1 hu;simp[iF]at hx;rcases hx with rfl | rfl <;> rfl) h0 (by unfold maxLen;omega) (by omega) lf.below.size w.heap.size rfl ?_
  intro g cap w' q1 q2 q3 q4;have hT:=h.2
  refine k _ w' _ ⟨?_,rfl⟩ ?_ (by rw[hT];exact aL.aaf q2) (Below.grown lf q2 lf.below.size (fun q hq=>(aH q hq).1))
  ·rw[List.flatMap_append,List.length_append];exact q1
  ·intro j hj;simp[Value.ownBlock]at hj
   subst hj;rcases q3 with q3 | q3
   ·left;rw[hT,q3];simp
   ·exact .inr q3
theorem aM.aaK {β:Type} {R:World->Nat->Value->β->List Nat->Prop} {e:TypeId} (L:cd R) {w w':World} {base g cap:Nat} {v u:Value} {xs:List β} {x:β} {S T:List Nat} (h:aM e R w base v xs S) (hu:R w base u x T) (hd:∀j∈T,j∉S)
  (vs:List Value) (Ss:List (List Nat)) (h1:w.ownsRow base e 1 v xs.length vs) (h2:Ss.length=xs.length) (h3:∀(k:Nat) u x T,vs[k]?=some u->xs[k]?=some x->Ss[k]?=some T->R w base u x T) (h4:S=v.ownBlock.toList++Ss.flatten) (h5:S.Nodup)
  (q1:w'.ownsRow base e 1 (.slice (some ⟨g,0,none⟩) (xs.length+1) cap) (xs.length+1) (vs++[u])) (q2:w.grownBy w' v.ownBlock) (q3:v.ownBlock=some g\/g=w.heap.size):
  ∃S',aM e R w' base (.slice (some ⟨g,0,none⟩) (xs.length+1) cap) (xs++[x]) S'/\(∀j∈S',j∈S\/j∈T\/j=w.heap.size):=by
 have hS:=(iE e L).range h;have Pe:=L.range hu;have pR:vs.length=xs.length:=by simpa using h1.1
 have lx:=h5;rw[h4,List.nodup_append]at lx
 have dY:∀j∈Ss.flatten,j∈S:=fun j hj=>by rw[h4];exact List.mem_append_right _ hj
 have eK:=aL.aaf q2;have Kb:∀j∈Ss.flatten,j∉v.ownBlock.toList:=fun j hj hv=>lx.2.2 j hv j hj rfl
 have Kc:∀j∈T,j∉v.ownBlock.toList:=fun j hj hv=>hd j hj (by rw[h4];exact List.mem_append_left _ hv)
 have hg:g∉Ss.flatten:=fun hg=>by
  rcases q3 with q3 | q3
  ·exact Kb g hg (by rw[q3];simp)
  ·have:=(hS g (dY g hg)).2;omega
 have xq:g∉T:=fun hg=>by
  rcases q3 with q3 | q3
  ·exact Kc g hg (by rw[q3];simp)
  ·have:=(Pe g hg).2;omega
 refine⟨[g]++(Ss++[T]).flatten,⟨vs++[u],Ss++[T],?_,by simp[h2],?_,by simp[Value.ownBlock],?_⟩,?_⟩
 ·rw[List.length_append];exact q1
 ·intro k u' x' T' sf uw mj;rcases Nat.lt_or_ge k xs.length with hk | hk
  ·rw[List.getElem?_append_left (by omega)]at sf uw mj;exact L.only (h3 k u' x' T' sf uw mj) eK (fun j hj=>Kb j (List.mem_flatten.2 ⟨T',List.mem_of_getElem? mj,hj⟩))
  ·have ld:k=xs.length:=by
    have:=ai uw
    simp at this;omega
   subst ld;rw[List.getElem?_append_right (Nat.le_refl _),Nat.sub_self]at uw;rw[<- pR,List.getElem?_append_right (Nat.le_refl _),Nat.sub_self]at sf;rw[<- h2,List.getElem?_append_right (Nat.le_refl _),Nat.sub_self]at mj;simp at sf uw mj
   subst sf uw mj;exact L.only hu eK Kc
 ·rw[List.flatten_append,List.nodup_append];refine⟨by simp,?_,?_⟩
  ·rw[List.nodup_append];refine⟨lx.2.1,by simpa using L.nodup hu,?_⟩
   intro a ha b hb e;simp at hb
   subst e;exact hd a hb (dY a ha)
  ·intro a ha b hb e;simp at ha
   subst e ha;rcases List.mem_append.1 hb with hb | hb
   ·exact hg hb
   ·simp at hb;exact xq hb
 ·intro j hj;rw[List.flatten_append]at hj;rcases List.mem_append.1 hj with hj | hj
  ·simp at hj
   subst hj;rcases q3 with q3 | q3
   ·left;rw[h4,q3];simp
   ·exact .inr (.inr q3)
  ·rcases List.mem_append.1 hj with hj | hj
   ·exact .inl (dY j hj)
   ·simp at hj;exact .inr (.inl hj)
theorem oR {w wT:World} {ops:Array Oper} {rest:List Oper} {o:Oper} {a:Act} {Q:Exit->Act->World->Prop} (gA:o.guard=none) (s x:Operand)
  (ho:o.op=.call { callee:=.builtin .append,args:=#[s,x],argTypes:=#[24,24] }) {base:Nat} {v ui un u:Value} {N:am} {S T:List Nat} {es:List (Int×Int)} (hs:a.eval s=v) (h:ao w base v ui un N S)
  (b:Nat) (hx:a.eval x=.slice (some ⟨b,0,none⟩) 1 1) (hc:w.cell? ⟨b,0,none⟩=some u) (hu:co w base u es T) (hd:∀j∈T,j∉S) (hl:N.ends.length+1<=1000000) (lf:aa wT w) (I2:base<=w.heap.size) (Wk:∀q,v.ownBlock=some q->wT.heap.size<=q)
  (k:∀v' w' S',(∀q,v'.ownBlock=some q->v.ownBlock=some q\/q=w.heap.size)->ao w' base v' ui un { N with ends:=N.ends++[es] } S'->(∀j∈S',j∈S\/j∈T\/j=w.heap.size)->aL S w w'->aa wT w'->wpList Tryz.prog ops Q rest (a.put o.dst v') w'):wpList Tryz.prog ops Q (o::rest) a w:=by
 obtain⟨i0,hi,eS,cj,cX⟩:=info_parts xr;have Dw:=h.range;obtain⟨S1,S2,S3,h1,h2,h3,h4,h5⟩:=h;have Pf:=h1;obtain⟨vs,Ss,r1,r2,r3,r4,r5⟩:=h1;obtain⟨A,m,c,rfl⟩:=fm.one hu
 refine wpList_append_lies w gA s x 24 ho base 34 i0 _ 1 24 Tryz.underlying24 hi eS cj cX rfl (by decide) v N.ends.length vs hs r1 ⟨b,0,none⟩ 1 1 [.slice A m c] hx rfl
  (by intro j u hj;match j,hj with | 0,hj=>(simp at hj;subst hj;simpa[Addr.add]using hc) | j+1,hj=>simp at hj) (by simp[Value.oneCell']) (by omega) (by unfold maxLen;omega) (by omega) I2 w.heap.size rfl ?_
 intro g cap w' q1 q2 q3 q4;rw[h4,List.nodup_append]at h5;obtain⟨n1,n2,n3⟩:=h5
 have mO:∀j∈T,j∉S1:=fun j hj hS=>hd j hj (by rw[h4];exact List.mem_append_left _ hS)
 obtain⟨IZ,o1,jA⟩:=aM.aaK fm Pf hu mO vs Ss r1 r2 r3 r4 r5 q1 q2 q3;have eK:=aL.aaf q2
 have Tn:∀j∈v.ownBlock.toList,j∈S1:=fun j hj=>by rw[r4];exact List.mem_append_left _ hj
 have d:∀j∈S2++S3,j∉v.ownBlock.toList:=fun j hj hv=>n3 j (Tn j hv) j hj rfl
 refine k _ w' (IZ++(S2++S3)) (fun q hq=>by simp[Value.ownBlock]at hq;subst hq;exact q3) ⟨IZ,S2,S3,?_,dF.only h2 eK (fun j hj=>d j (List.mem_append_left _ hj)),dF.only h3 eK (fun j hj=>d j (List.mem_append_right _ hj)),rfl,?_⟩ ?_ (eK.mono fun j hj=>by rw[h4];exact List.mem_append_left _ (Tn j hj)) (Below.grown lf q2 lf.below.size Wk)
 ·exact o1
 ·rw[List.nodup_append];refine⟨ii.nodup o1,n2,fun a ha b hb oz=>?_⟩
  subst oz;rcases jA a ha with h | h | h
  ·exact n3 a h a hb rfl
  ·exact hd a h (by rw[h4];exact List.mem_append_right _ hb)
  ·have:=(Dw a (by rw[h4];exact List.mem_append_right _ hb)).2
   omega
 ·intro j hj;rcases List.mem_append.1 hj with hj | hj
  ·rcases jA j hj with h | h | h
   ·exact .inl (by rw[h4];exact List.mem_append_left _ h)
   ·exact .inr (.inl h)
   ·exact .inr (.inr h)
  ·exact .inl (by rw[h4];exact List.mem_append_right _ hj)
theorem ao.aan {w:World} {base g c n:Nat} {vi vn:Value} {N:am} {S:List Nat} (h:ao w base (.slice (some ⟨g,0,none⟩) n c) vi vn N S) {k j:Nat} {es:List (Int×Int)} (hx:N.ends[k]?=some es) (hj:j<es.length):
  ∃gr cr,w.cell? ⟨g,k,none⟩=some (.slice (some ⟨gr,0,none⟩) es.length cr)/\es.length<=cr/\cr<=maxLen/\g∈S/\gr∈S/\g≠gr/\(w.frozen? ⟨gr,j*2,none⟩=false/\w.frozen? ⟨gr,j*2+1,none⟩=false)/\(∃z,w.cell? ⟨gr,j*2,none⟩=some z)/\(∃z,w.cell? ⟨gr,j*2+1,none⟩=some z) /\
   ∀y:Int×Int,ao ((w.setCell ⟨gr,j*2,none⟩ (.int .i64 y.1)).setCell ⟨gr,j*2+1,none⟩ (.int .i64 y.2)) base (.slice (some ⟨g,0,none⟩) n c) vi vn { N with ends:=N.ends.set k (es.set j y) } S:=by
 obtain⟨S1,S2,S3,h1,h2,h3,h4,h5⟩:=h;obtain⟨u,T,hu,hR,hT,oS⟩:=aM.aaH fm h1 hx;have hnd:=(iE _ fm).nodup h1;obtain⟨_,_,_,_,_,Kd,_,uy⟩:=aM.at_ h1 hx;rw[h4,List.nodup_append]at h5;obtain⟨n1,n2,n3⟩:=h5;have OZ:=hR.1;rcases dL hR.1 with⟨rfl,h0⟩ | ⟨gr,cr,rfl,aJ,hb2,aZ,my⟩
 ·omega
 ·have Gy:gr∈T:=by rw[hR.2];simp[Value.ownBlock]
  obtain⟨y0,Fg⟩:=ax es j hj;obtain⟨c1,c2,ff⟩:=co.cells hR Fg
  have oh:g≠gr:=fun e=>by
   subst e;obtain⟨vs,Ss,e1,_⟩:=h1;rcases e1.2 with⟨h0,_⟩ | ⟨q',ya,Wl,h0,_,Ds,_⟩
   ·cases h0
   ·cases h0;rcases OZ.2 with⟨h0,_⟩ | ⟨q'',To,Tp,h0,_,Ke,_⟩
    ·cases h0
    ·cases h0;rw[Ds]at Ke;simp at Ke
  refine⟨gr,cr,hu,aZ,my,by rw[h4];exact List.mem_append_left _ uy,by rw[h4];exact List.mem_append_left _ (hT gr Gy),oh,ff,⟨_,c1⟩,⟨_,c2⟩,fun y=>?_⟩
  have eK:aL T w ((w.setCell ⟨gr,j*2,none⟩ (.int .i64 y.1)).setCell ⟨gr,j*2+1,none⟩ (.int .i64 y.2)):=((aL.refl _ _).setCell (.inl Gy) _).setCell (.inl Gy) _;have d:∀q∈S2++S3,q∉T:=fun q hq Wm=>n3 q (hT q Wm) q hq rfl
  exact⟨S1,S2,S3,oS _ _ (co.set hR hj y) eK,dF.only h2 eK (fun q hq=>d q (List.mem_append_left _ hq)),dF.only h3 eK (fun q hq=>d q (List.mem_append_right _ hq)),h4,by rw[h4,List.nodup_append];exact⟨n1,n2,n3⟩⟩
theorem yy {w:World} {b:Nat} {x y z:Value} (h:aT w b x y z):aT (iL w (b+1)) b x y z:=by
 have:=h.lt
 unfold aT at h ⊢
 simp only[iL,Array.getElem?_extract];rw[if_pos (by omega)];simpa using h
theorem aT.only {S:List Nat} {W W':World} {b:Nat} {x y z:Value} (h:aT W b x y z) (ho:aL S W W') (hb:b∉S):aT W' b x y z:=(ho.block b h.lt hb).trans h
theorem aT.aat {W:World} {b:Nat} {x y z:Value} (h:aT W b x y z) (u:Value):aT (W.setCell ⟨b,0,none⟩ u) b u y z:=by
 unfold aT at h ⊢
 simp[World.setCell,Array.getElem?_modify,h]
theorem aT.aau {W:World} {b:Nat} {x y z:Value} (h:aT W b x y z) (u:Value):aT (W.setCell ⟨b,1,none⟩ u) b x u z:=by
 unfold aT at h ⊢
 simp[World.setCell,Array.getElem?_modify,h]
theorem aT.aav {W:World} {b:Nat} {x y z:Value} (h:aT W b x y z) (u:Value):aT (W.setCell ⟨b,2,none⟩ u) b x y u:=by
 unfold aT at h ⊢
 simp[World.setCell,Array.getElem?_modify,h]
theorem aT.other {W:World} {b:Nat} {x y z u:Value} {a:Addr} (h:aT W b x y z) (ha:b≠a.block):aT (W.setCell a u) b x y z:=(Below.heap_setCell W a u b ha).trans h
theorem yz {w:World} {base:Nat} {v ui un:Value} {bX:List (List (Int×Int))} {ids Tq:List Int} {S1:List Nat} (hE:oA w base v bX S1) (h1:Own w base ui ids) (h2:Own w base un Tq)
  (d1:∀j∈S1,ui.ownBlock≠some j) (d2:∀j∈S1,un.ownBlock≠some j) (d3:∀j,ui.ownBlock=some j->un.ownBlock≠some j):
  ao w base v ui un ⟨bX,ids,Tq⟩ (S1++(ui.ownBlock.toList++un.ownBlock.toList)):=by
 refine⟨S1,_,_,hE,⟨h1,rfl⟩,⟨h2,rfl⟩,rfl,?_⟩;rw[List.nodup_append,List.nodup_append]
 refine⟨ii.nodup hE,⟨by cases ui.ownBlock <;> simp,by cases un.ownBlock <;> simp,?_⟩,?_⟩
 ·intro a ha b hb e;subst e;exact d3 a (by simpa using ha) (by simpa using hb)
 ·intro a ha b hb e;subst e;rcases List.mem_append.1 hb with hb | hb
  ·exact d1 a ha (by simpa using hb)
  ·exact d2 a ha (by simpa using hb)
theorem kn {w:World} {ops:Array Oper} {rest:List Oper} {o:Oper} {a:Act} {Q:Exit->Act->World->Prop} (gA:o.guard=none) (s x:Operand)
  (ho:o.op=.call { callee:=.builtin .append,args:=#[s,x],argTypes:=#[25,25] }) {base:Nat} {v:Value} {xs:List Int} (hs:a.eval s=v) (h:Own w base v xs) (A:Option Addr) (c:Nat) (hx:a.eval x=.slice A 0 c)
  (k:wpList Tryz.prog ops Q rest (a.put o.dst v) w):wpList Tryz.prog ops Q (o::rest) a w:=by
 obtain⟨i0,hi,eS,cj,cX⟩:=info_parts iC;refine wpList_plain gA fun K hK=>?_
 have bG:(Builtin.append_ #[25,25] o.type #[v,.slice A 0 c]).run Tryz.prog w=.ok v w:=by
  rcases h.2 with⟨rfl,sZ⟩ | ⟨g,cap,cur,rfl,_,_,x_,_⟩
  ·cases A <;> simp[Builtin.append_,run_underlying Tryz.underlying25,sizeOf,typeInfo,hi,Builtin.lenOf,Builtin.firstCells,loadCells,loadCellsFrom,Result.andThen]
  ·cases A <;> simp[Builtin.append_,run_underlying Tryz.underlying25,sizeOf,typeInfo,hi,Builtin.lenOf,Builtin.firstCells,x_,storeCells,loadCells,loadCellsFrom,Result.andThen]
 unfold Oper.wp;simp[execOp,ho,resolve,invoke,builtin,hs,hx,bG,Result.andThen]
 exact hK _ _ k
theorem yA (w:World):co (w.alloc (.cells #[] 36)) w.heap.size (.slice (some ⟨w.heap.size,0,none⟩) 0 0) [] [w.heap.size]:=by
 have:=World.ownsRow_lit (base:=w.heap.size) (e:=36) (size:=2) w #[] 0 (Nat.le_refl _) (by simp[maxLen]) (by simp)
 exact⟨this,rfl⟩
theorem qP (v:Value) (xs:List Int) (w:World) (h:aG w v xs) (hl:xs.length<=17592186044416):
  Calls Tryz.prog 79 #[v] w fun e w'=>∃u,e=.returned u/\Own w' w.heap.size u xs/\Below w.heap.size w w':=by
 rcases Nat.eq_zero_or_pos xs.length with h0 | h0
 ·obtain rfl:xs=[]:=List.eq_nil_of_length_eq_zero h0
  obtain⟨A,c,rfl,er,hm,_⟩:=h;have ho:=ka w [] (by simp[maxLen]);simp only[List.map_nil,List.length_nil]at ho;have Ho:=zh ho;clear ho
  go_enter Tryz.func79,Tryz.ntmps79
  go_wp2_with (at_builtin;refine kn rfl _ _ rfl rfl Ho.out A c rfl ?_)
  go_wp2;go_ret;exact⟨_,rfl,Ho.out,aj _ _⟩
 ·exact qJ v xs w h h0 hl
theorem oT (n lo hi:Int) (w:World):Calls Tryz.prog 52 #[.int .i64 n,.int .i64 lo,.int .i64 hi] w fun e w'=>e=.returned (.bool (dW lo hi n))/\Below w.heap.size w w':=(cC n lo hi w).mono fun _ _ ⟨h1,h2⟩=>⟨h1,h2 ▸ Below.refl _ _⟩
theorem Gz {a b:Bool} (h:(a&&b)=true):a=true:=by simp at h;exact h.1
theorem DH (p:aN):eA p=(dW 1 8 p.labels&&dW 1 4 p.degree&&p8 p.nodes p.degree p.labels&&p8 p.aad 2 p.labels):=by unfold eA;simp only[Bool.and_assoc]
theorem iw (a b:Value) (p:aN) (w:World) (h:el w a b p):Calls Tryz.prog 44 #[.agg #[.int .i64 p.labels,.int .i64 p.degree,a,b]] w fun e w'=>e=.returned (.bool (eA p))/\Below w.heap.size w w':=by
 obtain⟨w0,au⟩:∃w0,w0=(w).alloc (.cells #[.int .i64 p.labels,.int .i64 p.degree,a,b] 40):=⟨_,rfl⟩
 have bO:Below w.heap.size w w0:=by rw[au];exact((Below.refl _ _).alloc (by simp) _)
 have dV:=h.aab bO;have HP:=zh dV;obtain⟨P0,gL,rfl,lJ,fw,cH⟩:=id dV.1;unfold maxLen at fw;have lK:=zh cH;clear cH;obtain⟨P1,g8,rfl,lL,fx,cJ⟩:=id dV.2;unfold maxLen at fx;have lM:=zh cJ;clear cJ;clear dV h
 have e8:∀W,aa w0 W->W.cell? ⟨w.heap.size,0,none⟩=some (.int .i64 p.labels):=ad (by rw[au];simp)
 have fh:∀W,aa w0 W->W.cell? ⟨w.heap.size,1,none⟩=some (.int .i64 p.degree):=ad (by rw[au];simp)
 have fi:∀W,aa w0 W->W.cell? ⟨w.heap.size,2,none⟩=some (.slice P0 p.nodes.length gL):=ad (by rw[au];simp)
 have pT:∀W,aa w0 W->W.cell? ⟨w.heap.size,3,none⟩=some (.slice P1 p.aad.length g8):=ad (by rw[au];simp)
 have aY:=zh bO;have bM:=zh au;clear bO au;have Ap:=zh (show ∀X,aa w0 X->bw X (.slice P0 p.nodes.length gL) p.nodes from fun X hX=>(HP.out.aab hX).1)
 have GA:=zh (show ∀X,aa w0 X->bw X (.slice P1 p.aad.length g8) p.aad from fun X hX=>(HP.out.aab hX).2)
 go_enter Tryz.func44,Tryz.ntmps44
 go_upto_region 1 with(fail);rw[<- bM.out];refine bI 25 (aa w0) (ab _) ?_;simp only[zT]
 iterate 2 (refine cY rfl ?_;simp only[zA])
 refine ej ?_ rfl ?_ ?_;rotate_left;(intro W hW;unfold bN;go_simp;(with_reducible refine(oT _ _ _ W).mono ?_);rintro e W' ⟨rfl,aZ⟩;first | (refine⟨?_,aa.trans hW aZ⟩;with_reducible rfl) | (subst aZ;refine⟨?_,hW⟩;with_reducible rfl))
 simp only[zA]
 refine cY rfl ?_;simp only[zA]
 iterate 2 (refine kA rfl rfl ?_;simp only[zA])
 refine ck (v:=?_) rfl rfl ?_ ?_;rotate_left;(intro hb;intro W hW;unfold bN;go_simp;(with_reducible refine(oT _ _ _ W).mono ?_);rintro e W' ⟨rfl,aZ⟩;first | (refine⟨?_,aa.trans hW aZ⟩;with_reducible rfl) | (subst aZ;refine⟨?_,hW⟩;with_reducible rfl))
 simp only[zA]
 (first | refine eH rfl rfl ?_ | (refine cY rfl ?_));simp only[zA]
 refine cY rfl ?_;simp only[zA]
 iterate 6 (refine kA rfl rfl ?_;simp only[zA])
 refine ck (v:=?_) rfl rfl ?_ ?_;rotate_left;(intro hb;intro W hW;unfold bN;go_simp;(with_reducible refine(f5 _ p.nodes p.degree p.labels W (Ap.out W hW) (aC.1 (Gz hb))).mono ?_);rintro e W' ⟨rfl,aZ⟩;first | (refine⟨?_,aa.trans hW aZ⟩;with_reducible rfl) | (subst aZ;refine⟨?_,hW⟩;with_reducible rfl))
 simp only[zA]
 (first | refine eH rfl rfl ?_ | (refine cY rfl ?_));simp only[zA]
 refine cY rfl ?_;simp only[zA]
 iterate 4 (refine kA rfl rfl ?_;simp only[zA])
 refine ck (v:=?_) rfl rfl ?_ ?_;rotate_left;(intro hb;intro W hW;unfold bN;go_simp;(with_reducible refine(f5 _ p.aad 2 p.labels W (GA.out W hW) (aC.1 (Gz (Gz hb)))).mono ?_);rintro e W' ⟨rfl,aZ⟩;first | (refine⟨?_,aa.trans hW aZ⟩;with_reducible rfl) | (subst aZ;refine⟨?_,hW⟩;with_reducible rfl))
 simp only[zA]
 (first | refine eH rfl rfl ?_ | (refine cY rfl ?_));simp only[zA]
 refine cY rfl ?_;simp only[zA]
 intro W5 C5;have I0:=zh (aa.after aY.out C5);clear C5;have hr:=zh (DH p);go_wp2;go_ret;exact⟨b7 hr.out.symm,I0.out⟩
def bl (n:Nat):Nat:=if n=0 then 0 else bl (n/2)+1
def Kf (xs:List Int):Int:=xs.foldl max 0
def Kg (xs:List Int):Int×Bool:=if xs.length<=40/\xs.all (dW 0 999999999999)=true then ((bl (Kf xs).toNat:Nat),true) else (0,false)
section
variable {P : Program} {ops : Array Oper}
end
theorem Kh {l:List (List Int)} {t x:List Int} {q i:Nat} (hs:eW l) (hx:l[q]?=some x) (h:cp x t<0) (_:i<=q):∀(k:Nat) (y:List Int),k<q+1->l[k]?=some y->cp y t<0:=by
 intro k y hk hy;rcases Nat.lt_or_ge k q with h1 | h1
 ·exact iv (hs k q y x h1 hy hx) h
 ·obtain rfl:k=q:=by omega
  rw[hx]at hy;cases hy;exact h
theorem Ki {l:List (List Int)} {t x:List Int} {q:Nat} (hs:eW l) (hx:l[q]?=some x) (h:0<=cp x t):∀(k:Nat) (y:List Int),q<=k->l[k]?=some y->0<=cp y t:=by
 intro k y hk hy;refine Int.not_lt.1 fun hn=>?_
 replace h:=Int.not_lt.2 h
 rcases Nat.lt_or_ge q k with h1 | h1
 ·exact h (iv (hs q k x y h1 hx hy) hn)
 ·obtain rfl:k=q:=by omega
  rw[hx]at hy;cases hy;exact h hn
theorem Ar {a b:Int} {c d:Bool} (h1:a=b) (h2:c=d):Ending.returned (.tuple #[.int .i64 a,.bool c])=.returned (.tuple #[.int .i64 b,.bool d]):=by rw[h1,h2]
theorem oU:∀args w,(callFunc 128 args).run Tryz.prog w=.ok (.enter 128 args) w:=enters_of Tryz.func128 (by kernel_rfl) rfl
theorem s6 (v u:Value) (l:List (List Int)) (t:List Int) (w:World) (h:bw w v l) (h':aG w u t) (hs:eW l) (qc:l.length<=1048576):
  Calls Tryz.prog 174 #[v,u,.func (.func 128) #[] #[]] w fun e w'=>∃i:Int,e=.returned (.tuple #[.int .i64 i,.bool (l.contains t)])/\Below w.heap.size w w':=by
 have H:=zh h;have H2:=zh h';have Hs:=zh hs;obtain⟨A,c,rfl,er,hm,-⟩:=h;obtain⟨A2,c2,rfl,Gp,et,-⟩:=h';unfold maxLen at hm et;have hm4:l.length<4611686018427387904:=by omega
 have eg:=oU;clear hs
 go_enter Tryz.func174,Tryz.ntmps174
 go_wp2
 go_loopw [9,10] (fun a b wr=>∃i j:Nat,i<=j/\j<=l.length/\a=.int .i64 i/\b=.int .i64 j/\((∀(k:Nat) (x:List Int),k<i->l[k]?=some x->cp x t<0)/\(∀(k:Nat) (x:List Int),j<=k->l[k]?=some x->0<=cp x t))/\Below w.heap.size w wr) (fun a b _=>(intOf b).toNat-(intOf a).toNat)
 case atStart=>exact⟨0,l.length,Nat.zero_le _,Nat.le_refl _,rfl,rfl,⟨fun k x hk=>by omega,fun k x hk hx=>by have:=ai hx;omega⟩,Below.refl _ _⟩
 case round=>
  obtain⟨i,j,Gk,hj,rfl,rfl,hI,hb⟩:=hrel;have HI:=zh hI;have Hb:=zh hb;clear hI hb
  by_cases aH:i<j
  ·have hq:(i+j)/2<l.length:=by omega
   obtain⟨x,b,off,A1,z,hx,rfl,bS,cj,cX,kj⟩:=eJ H.out (k:=(i+j)/2) hq;have hc:=bc Hb.out bS;have Hx:=zh hx;have HX:=zh (kj.aab Hb.out);have HT:=zh (H2.out.aab Hb.out);obtain⟨cv,xA⟩:∃cv,cp x t=cv:=⟨_,rfl⟩
   have zr:=zh xA;clear hx kj bS xA
   by_cases lz:cv<0
   ·go_wp2_with fail;refine(cF _ _ x t _ HX.out HT.out).mono ?_;rw[zr.out];rintro e w1 ⟨rfl,aJ⟩;have GB:=zh (Hb.out.trans (aJ.mono Hb.out.size));clear aJ;go_wp2;go_roundw
    case rel=>exact⟨(i+j)/2+1,j,by omega,hj,by go_num,rfl,⟨Kh Hs.out Hx.out (by rw[zr.out];exact lz) (Nat.le_refl _),HI.out.2⟩,GB.out⟩
    case measure=>simp[intOf];omega
   ·go_wp2_with fail;refine(cF _ _ x t _ HX.out HT.out).mono ?_;rw[zr.out];rintro e w1 ⟨rfl,aJ⟩;have GB:=zh (Hb.out.trans (aJ.mono Hb.out.size));clear aJ;go_wp2;go_roundw
    case rel=>exact⟨i,(i+j)/2,by omega,by omega,rfl,by go_num,⟨HI.out.1,Ki Hs.out Hx.out (by rw[zr.out];omega)⟩,GB.out⟩
    case measure=>simp[intOf];omega
  ·obtain rfl:i=j:=by omega
   obtain⟨r,hr⟩:∃r,l.contains t=r:=⟨_,rfl⟩
   have Hr:=zh hr;clear hr;have hf:=zh (Aa Hs.out HI.out.1 (fun k x h1 h2=>Int.not_lt.2 (HI.out.2 k x h1 h2)))
   by_cases dY:i<l.length
   ·obtain⟨x,b,off,A1,z,hx,rfl,bS,cj,cX,kj⟩:=eJ H.out dY;have hc:=bc Hb.out bS
    have Hf:Hid ((cp x t==0)=l.contains t):=by have:=hf.out;rw[hx]at this;exact this
    have HX:=zh (kj.aab Hb.out);have HT:=zh (H2.out.aab Hb.out);obtain⟨cv,xA⟩:∃cv,cp x t=cv:=⟨_,rfl⟩
    have zr:=zh xA;clear hx kj bS xA hf;go_wp2_with fail;refine(cF _ _ x t _ HX.out HT.out).mono ?_;rw[zr.out];rintro e w1 ⟨rfl,aJ⟩;have GB:=zh (Hb.out.trans (aJ.mono Hb.out.size));clear aJ;go_wp2
    go_ret2
    exact⟨(i:Int),Ar rfl (by rw[<- Hf.out,zr.out]),GB.out⟩
   ·have Hf:Hid (false=l.contains t):=by have:=hf.out;rw[List.getElem?_eq_none (by omega)]at this;exact this
    clear hf;go_wp2
    go_ret2
    exact⟨(i:Int),Ar rfl (by rw[<- Hf.out]),Hb.out⟩
theorem oV (v u:Value) (l:List (List Int)) (xs:List Int) (w:World) (h:bw w v l) (h':aG w u xs) (hs:eW l) (qc:l.length<=1048576) (hl:xs.length<=1000):
  Calls Tryz.prog 130 #[v,u] w fun e w'=>e=.returned (.bool (l.contains (db xs)))/\Below w.heap.size w w':=by
 have H:=zh h;have H2:=zh h';have Hs:=zh hs;obtain⟨A2,c2,rfl,Gp,et,-⟩:=h';clear h hs
 go_enter Tryz.func130,Tryz.ntmps130
 go_wp2_with (go_at_call 176;refine(callsIn_wide.1 (yt 1 _ _ _ _)).mono ?_;rintro e w1 ⟨rfl,pS⟩;have GC:=zh pS;clear pS)
 have aJ:Below w.heap.size w w1:=by rw[GC.out];exact aj _ _
 have bS:w1.cell? ⟨w.heap.size,0,none⟩=some (.slice A2 xs.length c2):=by rw[GC.out];simp
 have fL:=zh aJ;have xE:=zh bS;clear aJ bS GC;go_wp2_with fail;refine(callsIn_wide.1 (yv 5 (by omega) w.heap.size _ xs _ xE.out (H2.out.aab fL.out) hl)).mono ?_;rintro e w2 ⟨s,rfl,ho,hb2⟩;have pQ:=zh (fL.out.trans (hb2.mono fL.out.size));have Ho:=zh ho.ints;clear hb2 ho;go_wp2_with fail;obtain⟨r,hr⟩:∃r,l.contains (db xs)=r:=⟨_,rfl⟩
 have Hr:=zh hr;clear hr;refine(s6 v s l (db xs) _ (H.out.aab pQ.out) Ho.out Hs.out qc).mono ?_;rw[Hr.out];rintro e w3 ⟨i,rfl,aZ⟩;have uB:=zh (pQ.out.trans (aZ.mono pQ.out.size));clear aZ;go_wp2;go_ret;exact⟨b7 Hr.out.symm,uB.out⟩
theorem ko {w:World} {b:Nat} {x y:Int} (h0:w.cell? ⟨b,0,none⟩=some (.int .i64 x)) (h1:w.cell? ⟨b,1,none⟩=some (.int .i64 y)):aG w (.slice (some ⟨b,0,none⟩) 2 2) [x,y]:=by
 refine⟨_,2,rfl,Nat.le_refl _,by unfold maxLen;omega,fun k z hk=>⟨b,0,rfl,?_⟩⟩
 match k,hk with
 | 0,hk=>simp at hk;subst hk;exact h0
 | 1,hk=>simp at hk;subst hk;exact h1
 | k+2,hk=>simp at hk
theorem yB (W:World) (x y:Int):aG (W.alloc (.cells #[.int .i64 x,.int .i64 y] 3)) (.slice (some ⟨W.heap.size,0,none⟩) 2 2) [x,y]:=ko (by simp) (by simp)
theorem s7 (pa pb:Value) (p:aN) (a b:Int) (w:World) (h:el w pa pb p) (hs:eW p.aad) (qc:p.aad.length<=1048576):
  Calls Tryz.prog 93 #[.agg #[.int .i64 p.labels,.int .i64 p.degree,pa,pb],.int .i64 a,.int .i64 b] w fun e w'=>e=.returned (.bool (edgeB p a b))/\Below w.heap.size w w':=by
 obtain⟨w0,au⟩:∃w0,w0=(w).alloc (.cells #[.int .i64 p.labels,.int .i64 p.degree,pa,pb] 40):=⟨_,rfl⟩
 have bO:Below w.heap.size w w0:=by rw[au];exact((Below.refl _ _).alloc (by simp) _)
 have dV:=h.aab bO;have HP:=zh dV;obtain⟨P0,gL,rfl,lJ,fw,cH⟩:=id dV.1;unfold maxLen at fw;have lK:=zh cH;clear cH;obtain⟨P1,g8,rfl,lL,fx,cJ⟩:=id dV.2;unfold maxLen at fx;have lM:=zh cJ;clear cJ;clear dV h
 have e8:∀W,aa w0 W->W.cell? ⟨w.heap.size,0,none⟩=some (.int .i64 p.labels):=ad (by rw[au];simp)
 have fh:∀W,aa w0 W->W.cell? ⟨w.heap.size,1,none⟩=some (.int .i64 p.degree):=ad (by rw[au];simp)
 have fi:∀W,aa w0 W->W.cell? ⟨w.heap.size,2,none⟩=some (.slice P0 p.nodes.length gL):=ad (by rw[au];simp)
 have pT:∀W,aa w0 W->W.cell? ⟨w.heap.size,3,none⟩=some (.slice P1 p.aad.length g8):=ad (by rw[au];simp)
 have aY:=zh bO;have bM:=zh au;clear bO au;have Hs:=zh hs;clear hs;have GA:=zh (show ∀X,aa w0 X->bw X (.slice P1 p.aad.length g8) p.aad from fun X hX=>(HP.out.aab hX).2)
 go_enter Tryz.func93,Tryz.ntmps93
 go_upto_region 1 with(fail);rw[<- bM.out];have aX:aa w0 w0:=ab _;go_wp2_with fail;refine(oV _ _ p.aad [a,b] _ (GA.out _ (ae _ aX)) (yB w0 a b) Hs.out qc (by simp)).mono ?_;rw[yn];obtain⟨r,hr⟩:∃r,edgeB p a b=r:=⟨_,rfl⟩
 have Hr:=zh hr;clear hr;rw[show p.aad.contains [min a b,max a b]=r from Hr.out]
 rintro e w1 ⟨rfl,aJ⟩;have HS:=zh (aa.trans (ae (.cells #[.int .i64 a,.int .i64 b] 3) aX) aJ);clear aJ aX;go_wp2;go_ret;exact⟨b7 Hr.out.symm,aa.after aY.out HS.out⟩
section
variable {α : Type} {p : α → Bool} {xs : List α}
theorem As (h:xs.any p=false):xs.findIdx? p=none:=by
 rw[List.findIdx?_eq_none_iff];intro x hx;rw[List.any_eq_false]at h;simpa using h x hx
theorem yC {k:Nat} {x:α} (hx:xs[k]?=some x) (hp:p x=true) (h:(xs.take k).any p=false):xs.findIdx? p=some k:=by
 obtain⟨hk,rfl⟩:=List.getElem?_eq_some_iff.1 hx;rw[List.findIdx?_eq_some_iff_getElem];refine⟨hk,hp,fun j hj=>?_⟩
 rw[List.any_eq_false]at h;exact h _ (List.mem_take_iff_getElem.2 ⟨j,by omega,rfl⟩)
theorem yD {k:Nat} {x:α} (hx:xs[k]?=some x) (h:(xs.take k).any p=false) (hp:p x=false):(xs.take (k+1)).any p=false:=by
 rw[aK hx,List.any_append,h];simp[hp]
end
def GD (p:List Int->Bool) (xs:List (List Int)):Int:=match xs.findIdx? p with | some k=>(k:Int) | none => -1
theorem DI (p:List Int->Bool) (xs:List (List Int)):decide (0<=GD p xs)=xs.any p:=by
 unfold GD
 cases h:xs.findIdx? p with
 | none=>
  rw[List.findIdx?_eq_none_iff]at h;simp only[decide_eq_false_iff_not.2 (show ¬(0:Int) <= -1 by omega)]
  symm
  rw[List.any_eq_false]
  intro x hx;simp[h x hx]
 | some i=>
  rw[List.findIdx?_eq_some_iff_getElem]at h;obtain⟨hi,hp,_⟩:=h;simp only[Int.natCast_nonneg,decide_true]
  symm
  rw[List.any_eq_true];exact⟨xs[i],List.getElem_mem hi,hp⟩
def Fm (w0:World) (iq:FuncId) (fj:Array Value) (p:List Int->Bool) (xs:List (List Int)):Prop:=
 ∀c∈xs,∀u w,aa w0 w->aG w u c->Calls Tryz.prog iq (#[u]++fj) w fun e w'=>e=.returned (.bool (p c))/\Below w.heap.size w w'
theorem oW (v:Value) (cs:List (List Int)) (iq:FuncId) (fj:Array Value) (p:List Int->Bool) (w:World) (h:bw w v cs) (ew:∀args w,(callFunc iq args).run Tryz.prog w=.ok (.enter iq args) w) (hp:Fm w iq fj p cs):
  Calls Tryz.prog 129 #[v,.func (.func iq) #[] fj] w fun e w'=>e=.returned (.int .i64 (GD p cs))/\Below w.heap.size w w':=by
 have H:=zh h;obtain⟨A,c,rfl,er,hm,-⟩:=h;unfold maxLen at hm;have Hp:=zh hp;have eg:=ew;clear hp
 go_enter Tryz.func129,Tryz.ntmps129
 go_wp2
 go_loopw [8] (fun i wr=>∃k:Nat,k<=cs.length/\i=.int .i64 k/\(cs.take k).any p=false/\aa w wr) (fun i _=>cs.length-(intOf i).toNat)
 case atStart=>exact⟨0,Nat.zero_le _,rfl,rfl,ab _⟩
 case round=>
  obtain⟨k,hk,rfl,od,hb⟩:=hrel;have lk:=zh od;have Hb:=zh hb;clear od hb
  by_cases aH:k<cs.length
  ·obtain⟨x,b,off,A1,z,hx,rfl,bS,cj,cX,kj⟩:=eJ H.out aH;have d0:=bc Hb.out bS;have Hx:=zh hx;have iM:=Hp.out x (List.mem_of_getElem? hx) _ wr Hb.out (kj.aab Hb.out.below);obtain⟨y,hy⟩:∃y,y=p x:=⟨_,rfl⟩
   have Hy:=zh hy;rw[<- hy]at iM;have s8:=zh iM;clear hy iM hx bS kj;go_wp2_with fail;refine s8.out.mono ?_;rintro e w1 ⟨rfl,aJ⟩;have fL:=zh (Hb.out.trans aJ);clear aJ;cases y
   ·go_wp2;go_roundw
    case rel=>exact⟨k+1,by omega,by go_num,yD Hx.out lk.out Hy.out.symm,fL.out⟩
    case measure=>simp[intOf];omega
   ·have Hr:Hid (GD p cs=k):=by show _=_;unfold GD;rw[yC Hx.out Hy.out.symm lk.out]
    go_wp2;go_ret;exact⟨congrArg (fun i=>Ending.returned (.int .i64 i)) Hr.out.symm,fL.out⟩
  ·obtain rfl:k=cs.length:=by omega
   have Hr:Hid (GD p cs = -1):=by show _=_;unfold GD;rw[As (by have:=lk.out;rwa [List.take_length]at this)]
   go_wp2;go_ret;exact⟨congrArg (fun i=>Ending.returned (.int .i64 i)) Hr.out.symm,Hb.out⟩
theorem fy (v:Value) (xs:List (List Int)) (iq:FuncId) (fj:Array Value) (p:List Int->Bool) (w:World) (h:bw w v xs) (ew:∀args w,(callFunc iq args).run Tryz.prog w=.ok (.enter iq args) w) (hp:Fm w iq fj p xs):
  Calls Tryz.prog 89 #[v,.func (.func iq) #[] fj] w fun e w'=>e=.returned (.bool (xs.any p))/\Below w.heap.size w w':=by
 have hb:=oW v xs iq fj p w h ew hp;have hr:=zh (DI p xs);have Hb:=zh hb;clear hb h ew hp
 go_enter Tryz.func89,Tryz.ntmps89
 go_wp2_with fail;refine Hb.out.mono ?_;rintro e w1 ⟨rfl,aJ⟩;have fL:=zh aJ;clear aJ;go_wp2;go_ret;exact⟨b7 hr.out,fL.out⟩
theorem vg {row:List Int} {k:Nat} {x:Int} (hx:row[k]?=some x):dT (row.take (k+1))=dT (row.take k)++(if 0<=x then [x] else []):=by
 rw[aK hx];unfold dT;rw[List.filter_append];congr 1
 by_cases h:0<=x
 ·rw[if_pos h,List.filter_cons_of_pos (by simpa using h)];rfl
 ·rw[if_neg h,List.filter_cons_of_neg (by simpa using h)];rfl
theorem qQ (row:List Int):(dT row).length<=row.length:=List.length_filter_le _ _
theorem rE:∀args w,(callFunc 147 args).run Tryz.prog w=.ok (.enter 147 args) w:=enters_of Tryz.func147 (by kernel_rfl) rfl
theorem yE (u s:Value) (c l:List Int) (b:Nat) (w:World) (h:aG w u c) (hb:w.cell? ⟨b,0,none⟩=some s) (hs:aG w s l):
  Calls Tryz.prog 147 #[u,.pointer (some ⟨b,0,none⟩)] w fun e w'=>e=.returned (.bool (dB c l))/\Below w.heap.size w w':=by
 have H:=zh h;have HS:=zh hs;obtain⟨A,z,rfl,-⟩:=h;obtain⟨A2,z2,rfl,-⟩:=hs
 go_enter Tryz.func147,Tryz.ntmps147
 go_wp2_with (go_at_call 148;refine(rz _ _ c l _ H.out HS.out).mono ?_;rintro e w1 ⟨rfl,aJ⟩)
 go_ret;exact⟨rfl,aJ⟩
theorem ix (pa pb vl:Value) (p:aN) (l:List (List Int)) (v:Nat) (row:List Int) (w:World) (hp:el w pa pb p) (h:bw w vl l) (hv:l[v]?=some row) (hl:row.length<=1000000):
  Calls Tryz.prog 107 #[.agg #[.int .i64 p.labels,.int .i64 p.degree,pa,pb],vl,.int .i64 v] w fun e w'=>e=.returned (.bool (dk p row))/\Below w.heap.size w w':=by
 obtain⟨w0,au⟩:∃w0,w0=(w).alloc (.cells #[.int .i64 p.labels,.int .i64 p.degree,pa,pb] 40):=⟨_,rfl⟩
 have bO:Below w.heap.size w w0:=by rw[au];exact((Below.refl _ _).alloc (by simp) _)
 have dV:=hp.aab bO;have HP:=zh dV;obtain⟨P0,gL,rfl,lJ,fw,cH⟩:=id dV.1;unfold maxLen at fw;have lK:=zh cH;clear cH;obtain⟨P1,g8,rfl,lL,fx,cJ⟩:=id dV.2;unfold maxLen at fx;have lM:=zh cJ;clear cJ;clear dV hp
 have e8:∀W,aa w0 W->W.cell? ⟨w.heap.size,0,none⟩=some (.int .i64 p.labels):=ad (by rw[au];simp)
 have fh:∀W,aa w0 W->W.cell? ⟨w.heap.size,1,none⟩=some (.int .i64 p.degree):=ad (by rw[au];simp)
 have fi:∀W,aa w0 W->W.cell? ⟨w.heap.size,2,none⟩=some (.slice P0 p.nodes.length gL):=ad (by rw[au];simp)
 have pT:∀W,aa w0 W->W.cell? ⟨w.heap.size,3,none⟩=some (.slice P1 p.aad.length g8):=ad (by rw[au];simp)
 have aY:=zh bO;have bM:=zh au;clear bO au;have HL:=zh (h.aab aY.out);obtain⟨A,z,rfl,er,hm,-⟩:=h;unfold maxLen at hm;have Ap:=zh (show ∀X,aa w0 X->bw X (.slice P0 p.nodes.length gL) p.nodes from fun X hX=>(HP.out.aab hX).1)
 have pR:=ai hv;obtain⟨cK,b,off,A1,z1,hx,rfl,bS,cj,cX,kj⟩:=eJ HL.out pR
 obtain rfl:cK=row:=by rw[hv]at hx;exact(Option.some.inj hx).symm
 have q1:=ad bS;have HX:=zh kj;have I3:cK.length<=9223372036854775807:=by omega
 clear hx bS kj hv
 go_enter Tryz.func107,Tryz.ntmps107
 go_upto_region 1 with(fail);rw[<- bM.out];have nV:dk p cK=(!((cK.length:Int)==p.degree)||p.nodes.any fun c=>dB c (db (dT cK))):=rfl
 by_cases nI:(cK.length:Int)=p.degree
 ·have aJ:((cK.length:Int) != p.degree)=false:=by simpa using nI
  have Hn:Hid (dk p cK=p.nodes.any fun c=>dB c (db (dT cK))):=by show _=_;rw[nV,show((cK.length:Int)==p.degree)=true by simpa using nI];rfl
  clear nI nV;refine aq 8 (aa w0) (by kernel_rfl) (by kernel_rfl) (by simp) (ah (ab _)) ?_;simp only[zT]
  iterate 8 (refine cY rfl ?_;simp only[zA])
  intro W hW;obtain⟨bk,I4⟩:∃bk,bk=W.heap.size:=⟨_,rfl⟩
  obtain⟨W1,qR⟩:∃W1,W1=W.alloc (.cells #[.slice none 0 0] 25):=⟨_,rfl⟩
  have bu:Ai bk W [] W1:=by rw[I4,qR];exact⟨⟨_,Boxed.new _ _ _,fT _ _⟩,aj _ _,by simp⟩
  have jB:aa w0 W1:=by rw[qR];exact ae _ hW
  have iu:=zh bu;have Ts:aa w0 W:=hW;have Tt:=zh Ts;have Pg:=zh I4;have Wn:=zh qR;clear bu hW qR I4 Ts;go_upto_region 4 with(fail);rw[<- Pg.out,<- Wn.out];go_wp2
  go_loopw [23] (fun i wr=>∃k:Nat,k<=cK.length/\i=.int .i64 k/\Ai bk W (dT (cK.take k)) wr/\aa w0 wr) (fun i _=>cK.length-(intOf i).toNat)
  case atStart=>exact⟨0,Nat.zero_le _,rfl,by simpa[dT]using iu.out,jB⟩
  case round=>
   obtain⟨k,hk,rfl,oX,hb⟩:=hrel;have Aw:=zh oX;have Hb:=zh hb;clear jB oX
   by_cases aH:k<cK.length
   ·obtain⟨zq,iN,e,-,-,gn⟩:=HX.out;cases e;obtain⟨x,b1,sD,hx,rfl,Ah⟩:=fq gn aH;have qx:=ad Ah;have Hx:=zh hx;have Nk:=zh (vg hx);clear hx Ah gn
    by_cases sZ:0<=x
    ·obtain⟨⟨u,dx,bh⟩,yF,dM⟩:=Aw.out
     have dO:(dT (cK.take k)).length<=1000000:=Nat.le_trans (qQ _) (by rw[List.length_take];omega)
     have hd:=dx.cell;have HO:=zh bh;have Fo:=zh dx;have Nl:=zh yF
     have Wo:Hid ((dT (cK.take k)).length+1<=17592186044416):=by show _<=_;omega
     have I2:bk+1<=wr.heap.size:=dM;have d2:(wr.alloc (.cells #[.int .i64 x] 3)).cell? ⟨bk,0,none⟩=some u:=(dx.alloc _).cell;clear bh dx yF dO dM
     go_wp2_with (at_builtin;refine rx rfl _ _ rfl rfl (HO.out.aab (aj _ _)) wr.heap.size x rfl (by simp[go_sem]) Wo.out (by simp;omega) ?_;intro g cap w3 fU s9 Ph Wp;obtain⟨kb,Nn,No,Kj⟩:=qN Fo.out HO.out Nl.out I2 fU s9;have Tw:=kb.frozen;have Tx:=kb.cell;have Np:=zh Kj;clear Nn No Kj fU s9 Ph)
     have HF:Hid (aa w0 (w3.setCell ⟨bk,0,none⟩ (.slice (some ⟨g,0,none⟩) ((dT (cK.take k)).length+1) cap))):=aa.trans Tt.out (Pg.out ▸ Np.out.2.1);clear Tw Tx kb Wp d2 hd hb;go_roundw
     case rel=>exact⟨k+1,by omega,by go_num,by rw[Nk.out,if_pos sZ];exact Np.out,HF.out⟩
     case measure=>simp[intOf];omega
    ·go_wp2;go_roundw
     case rel=>exact⟨k+1,by omega,by go_num,by rw[Nk.out,if_neg sZ,List.append_nil];exact Aw.out,hb⟩
     case measure=>simp[intOf];omega
   ·obtain rfl:k=cK.length:=by omega
    rw[List.take_length]at Aw;obtain⟨⟨u,dx,bh⟩,yF,dM⟩:=Aw.out;have hd:=dx.cell;have HO:=zh bh;have Fo:=zh dx;have Nl:=zh yF;have mZ:(dT cK).length<=17592186044416:=Nat.le_trans (qQ _) (by omega);obtain⟨A9,z9,rfl,-⟩:=id bh.ints;clear bh dx yF hb;go_wp2_with fail;refine(lm _ (dT cK) _ _ HO.out mZ).mono ?_;rintro e w4 ⟨rfl,lh,I5⟩
    have nV:some bk≠(Value.slice A9 (dT cK).length z9).ownBlock:=fun e=>by have:=(World.ownsRow.lt HO.out bk e.symm).1;omega
    have my:=Fo.out.kept I5 nV;have hd4:=my.cell;have Kk:Hid (aG w4 (.slice A9 (dT cK).length z9) (db (dT cK))):=Own.ints lh
    have I6:Hid (aa w0 w4):=aa.trans Tt.out (Pg.out ▸ Nl.out.grown I5 (by have:=Nl.out.size;omega) (fun k e=>by have:=(World.ownsRow.lt HO.out k e).1;omega))
    have gM:=zh my;clear lh I5 my nV hd;have Ax:=I6.out;go_wp2_with fail;obtain⟨r,hr⟩:∃r,dk p cK=r:=⟨_,rfl⟩
    have Hr:=zh hr;clear hr Ax;refine(fy _ p.nodes 147 #[.pointer (some ⟨bk,0,none⟩)] (fun c=>dB c (db (dT cK))) _ (Ap.out _ I6.out) rE (fun c hc u X hX hu=>yE u _ c _ bk X hu (bc hX gM.out.cell) (Kk.out.aab hX.below))).mono ?_
    rw[<- Hn.out,Hr.out];rintro e w5 ⟨rfl,Kl⟩;have Wq:=zh (I6.out.trans Kl);clear Kl;go_wp2;go_ret;exact⟨b7 Hr.out.symm,aa.after aY.out Wq.out⟩
 ·have aJ:((cK.length:Int) != p.degree)=true:=by simpa using nI
  have Hn:Hid (dk p cK=true):=by show _=_;rw[nV,show((cK.length:Int)==p.degree)=false by simpa using nI];rfl
  clear nI nV;refine aq 8 (aa w0) (by kernel_rfl) (by kernel_rfl) (by simp) (ah (ab _)) ?_;simp only[zT]
  iterate 8 (refine cY rfl ?_;simp only[zA])
  intro W hW;have HW:=zh hW;clear hW;go_wp2;go_ret;exact⟨cB Hn.out,aa.after aY.out HW.out⟩
def ju (bX:List (List (Int×Int))) (l:List (List Int)):Prop:=l.length=bX.length/\∀(v:Nat) (es:List (Int×Int)) (row:List Int),bX[v]?=some es->l[v]?=some row->row.length=es.length
theorem vh {n:am} (hn:aw n=true) {v i:Nat} {es:List (Int×Int)} {f:Int×Int} (ba:n.ends[v]?=some es) (hf:es[i]?=some f):
  ∃(k j:Nat) (I7:List (Int×Int)),f=((k:Int),(j:Int))/\n.ends[k]?=some I7/\j<I7.length:=by
 have hv:=ai ba;have hi:=ai hf
 have hp:aW n.ends (v:Int) (i:Int)=true:=by
  unfold aW;rw[Bool.and_eq_true,aC,aC];simp only[Int.toNat_natCast];rw[ag ba];omega
 have he:dA n.ends (v:Int) (i:Int)=f:=by
  unfold dA;simp only[Int.toNat_natCast];rw[ag ba];exact ag hf
 obtain⟨h1,-⟩:=mn hn hp;rw[he]at h1;unfold aW at h1;rw[Bool.and_eq_true,aC,aC]at h1;obtain⟨I7,h2⟩:=ax n.ends f.1.toNat (by omega);rw[ag h2]at h1
 exact⟨f.1.toNat,f.2.toNat,I7,by rw[Prod.ext_iff];exact⟨by simp;omega,by simp;omega⟩,h2,by omega⟩
theorem yG {w:World} {A:Option Addr} {c:Nat} {bX:List (List (Int×Int))} (h:jt w (.slice A bX.length c) bX) {v i:Nat} {es:List (Int×Int)} {f:Int×Int} (hv:bX[v]?=some es) (hi:es[i]?=some f):
  ∃b off b2 mi z,A=some ⟨b,off,none⟩/\w.cell? ⟨b,off+v,none⟩=some (.slice (some ⟨b2,mi,none⟩) es.length z)/\w.cell? ⟨b2,mi+i*2,none⟩=some (.int .i64 f.1)/\w.cell? ⟨b2,mi+i*2+1,none⟩=some (.int .i64 f.2):=by
 obtain⟨A',c',e,-,-,hA⟩:=h;cases e;obtain⟨b,off,u,pW,h1,⟨A1,z,rfl,-,-,gn⟩⟩:=hA v es hv;obtain⟨b2,mi,rfl,h2,h3⟩:=gn i f hi;exact⟨b,off,b2,mi,z,pW,h1,h2,h3⟩
theorem qS {w:World} {A:Option Addr} {c:Nat} {l:List (List Int)} (h:bw w (.slice A l.length c) l) {v i:Nat} {row:List Int} {x:Int} (hv:l[v]?=some row) (hi:row[i]?=some x):
  ∃b off b2 mi z,A=some ⟨b,off,none⟩/\w.cell? ⟨b,off+v,none⟩=some (.slice (some ⟨b2,mi,none⟩) row.length z)/\w.cell? ⟨b2,mi+i,none⟩=some (.int .i64 x):=by
 obtain⟨A',c',e,-,-,hA⟩:=h;cases e;obtain⟨b,off,u,pW,h1,⟨A1,z,rfl,-,-,gn⟩⟩:=hA v row hv;obtain⟨b2,mi,rfl,h2⟩:=gn i x hi;exact⟨b,off,b2,mi,z,pW,h1,h2⟩
theorem iy (pa pb ve vi vn vl:Value) (p:aN) (n:am) (l:List (List Int)) (v i:Nat) (row:List Int) (w:World) (hp:el w pa pb p) (h:aI w ve vi vn n) (hl:bw w vl l) (hn:aw n=true) (gb:ju n.ends l) (fY:eW p.aad) (rF:p.aad.length<=1048576) (hv:l[v]?=some row) (hi:i<row.length):
  Calls Tryz.prog 106 #[.agg #[.int .i64 p.labels,.int .i64 p.degree,pa,pb],.agg #[ve,vi,vn],vl,.int .i64 v,.int .i64 i] w fun e w'=>e=.returned (.bool (fa p n.ends l ((v:Int),(i:Int))))/\Below w.heap.size w w':=by
 obtain⟨w0,au⟩:∃w0,w0=((w).alloc (.cells #[.int .i64 p.labels,.int .i64 p.degree,pa,pb] 40)).alloc (.cells #[ve,vi,vn] 27):=⟨_,rfl⟩
 have bO:Below w.heap.size w w0:=by rw[au];exact(((Below.refl _ _).alloc (by simp <;> omega) _).alloc (by simp <;> omega) _)
 have H:=zh (h.aab bO);obtain⟨h1,h2,h3⟩:=h.aab bO;obtain⟨A,c,rfl,er,hm,hA⟩:=h1;obtain⟨A2,c2,rfl,_,et,_⟩:=h2;obtain⟨A3,c3,rfl,_,fG,_⟩:=h3;unfold maxLen at hm et fG;have dV:=hp.aab bO;have HP:=zh dV;obtain⟨P0,gL,rfl,lJ,fw,cH⟩:=id dV.1;unfold maxLen at fw;have lK:=zh cH;clear cH;obtain⟨P1,g8,rfl,lL,fx,cJ⟩:=id dV.2;unfold maxLen at fx;have lM:=zh cJ;clear cJ;clear dV hp
 have e8:∀W,aa w0 W->W.cell? ⟨w.heap.size,0,none⟩=some (.int .i64 p.labels):=ad (by rw[au];simp)
 have fh:∀W,aa w0 W->W.cell? ⟨w.heap.size,1,none⟩=some (.int .i64 p.degree):=ad (by rw[au];simp)
 have fi:∀W,aa w0 W->W.cell? ⟨w.heap.size,2,none⟩=some (.slice P0 p.nodes.length gL):=ad (by rw[au];simp)
 have pT:∀W,aa w0 W->W.cell? ⟨w.heap.size,3,none⟩=some (.slice P1 p.aad.length g8):=ad (by rw[au];simp)
 have vj:∀W,aa w0 W->W.cell? ⟨w.heap.size+1,0,none⟩=some (.slice A n.ends.length c):=ad (by rw[au];simp)
 have C7:∀W,aa w0 W->W.cell? ⟨w.heap.size+1,1,none⟩=some (.slice A2 n.ids.length c2):=ad (by rw[au];simp)
 have C8:∀W,aa w0 W->W.cell? ⟨w.heap.size+1,2,none⟩=some (.slice A3 n.aaa.length c3):=ad (by rw[au];simp)
 have aY:=zh bO;have bM:=zh au;have HA:=zh hA;clear hA h;clear bO au;have HL:=zh (hl.aab aY.out);obtain⟨AL,cL,rfl,-⟩:=hl;have ma:=zh (show ∀X,aa w0 X->el X (.slice P0 p.nodes.length gL) (.slice P1 p.aad.length g8) p from fun X hX=>HP.out.aab hX)
 have pR:=ai hv
 obtain⟨es,ba⟩:=ax n.ends v (by rw[<- gb.1];exact pR)
 have I8:=gb.2 v es row ba hv;obtain⟨f,hf⟩:=ax es i (by omega);obtain⟨k,j,I7,rfl,GF,hj⟩:=vh hn ba hf
 have mZ:k<l.length:=by rw[gb.1];exact ai GF
 obtain⟨ku,lN⟩:=ax l k mZ;have Pj:=gb.2 k I7 ku GF lN;have uN:j<ku.length:=by omega
 obtain⟨a,ha⟩:=ax row i hi;obtain⟨b,hb⟩:=ax ku j uN;have Fp:v<n.ends.length:=ai ba;have Ty:i<es.length:=by omega
 have hR:Hid (fa p n.ends l ((v:Int),(i:Int))=(decide (a<0)||(decide (b<0)||edgeB p a b))):=by
  show _=_
  have e1:(n.ends.getD v []).getD i (0,0)=((k:Int),(j:Int)):=by rw[ag ba,ag hf]
  have e2:bj l ((v:Int),(i:Int))=a:=by unfold bj;simp only[Int.toNat_natCast];rw[ag hv,ag ha]
  have e3:bj l ((k:Int),(j:Int))=b:=by unfold bj;simp only[Int.toNat_natCast];rw[ag lN,ag hb]
  unfold fa;simp only[Int.toNat_natCast,e1,e2,e3]
 obtain⟨b1,o1,b2,o2,z1,rfl,c1,c2,c3⟩:=yG H.out.es ba hf;obtain⟨b3,o3,b4,o4,z2,rfl,c4,c5⟩:=qS HL.out hv ha;obtain⟨b5,o5,b6,o6,z3,e,c6,c7⟩:=qS HL.out lN hb;cases e;have q1:=ad c1;have q2:=ad c2;have q3:=ad c3;have q4:=ad c4;have q5:=ad c5;have q6:=ad c6;have q7:=ad c7;clear c1 c2 c3 c4 c5 c6 c7 ha hb I8 Pj ba GF lN hf hv hn gb hj;have yH:=zh fY;clear fY
 go_enter Tryz.func106,Tryz.ntmps106
 go_upto_region 1 with(fail);rw[<- bM.out];have aX:aa w0 w0:=ab _;go_upto_region 2 with(fail);obtain⟨bx,dx⟩:∃bx,bx=w0.heap.size:=⟨_,rfl⟩
 obtain⟨W1,qR⟩:∃W1,W1=w0.alloc (.cells #[.int .i64 k,.int .i64 j] 36):=⟨_,rfl⟩
 have bu:aa w0 W1:=by rw[qR];exact ae _ aX
 have g1:∀W,aa W1 W->W.cell? ⟨bx,0,none⟩=some (.int .i64 k):=ad (by rw[dx,qR];simp)
 have g2:∀W,aa W1 W->W.cell? ⟨bx,1,none⟩=some (.int .i64 j):=ad (by rw[dx,qR];simp)
 rw[<- qR,<- dx];have iu:=zh bu;have t1:=ak q1 bu;have t4:=ak q4 bu;have t5:=ak q5 bu;have t6:=ak q6 bu;have t7:=ak q7 bu;clear aX qR dx bu q1 q2 q3 q4 q5 q6 q7;refine aq 18 (aa W1) (by kernel_rfl) (by kernel_rfl) (by simp) (ah (ab _)) ?_;simp only[zT]
 iterate 18 (refine cY rfl ?_;simp only[zA])
 intro W2 z_;have sK:=zh (iu.out.after z_);clear z_ t1 t4 t5 t6 t7 g1 g2;go_upto_region 3 with(fail);have pa0:=ak e8 sK.out;have pa1:=ak fh sK.out;have pa2:=ak fi sK.out;have pa3:=ak pT sK.out;refine bI 13 (aa W2) (ab _) ?_;simp only[zT]
 iterate 3 (refine cY rfl ?_;simp only[zA])
 iterate 2 (refine kA rfl rfl ?_;simp only[zA])
 (first | refine dh rfl rfl ?_ | (refine cY rfl ?_));simp only[zA]
 refine cY rfl ?_;simp only[zA]
 iterate 3 (refine kA rfl rfl ?_;simp only[zA])
 refine ck (v:=?_) rfl rfl ?_ ?_;rotate_left;(intro hb;intro W hW;unfold bN;go_simp;(with_reducible refine(s7 _ _ p a b W (ma.out W (sK.out.after hW)) yH.out rF).mono ?_);rintro e W' ⟨rfl,aZ⟩;first | (refine⟨?_,aa.trans hW aZ⟩;with_reducible rfl) | (subst aZ;refine⟨?_,hW⟩;with_reducible rfl))
 simp only[zA]
 (first | refine dh rfl rfl ?_ | (refine cY rfl ?_));simp only[zA]
 refine cY rfl ?_;simp only[zA]
 intro W3 vk;have C9:=zh (sK.out.after vk);clear vk;go_wp2;go_ret;exact⟨b7 (by rw[hR.out,Bool.or_assoc]),aa.after aY.out C9.out⟩
theorem jQ {q:Nat->Bool} {k:Nat} (h:(List.range k).all q=true) (hk:q k=true):(List.range (k+1)).all q=true:=by rw[List.range_succ,List.all_append,h];simp[hk]
theorem ji {q:Nat->Bool} {k n:Nat} (hn:k<n) (hk:q k=false):(List.range n).all q=false:=by
 rw[Bool.eq_false_iff];intro h;rw[List.all_eq_true]at h;rw[h k (List.mem_range.2 hn)]at hk;cases hk
theorem yI (pa pb ve vi vn vl:Value) (p:aN) (n:am) (l:List (List Int)) (w:World) (hp:el w pa pb p) (h:aI w ve vi vn n) (hl:bw w vl l) (hn:aw n=true) (gb:ju n.ends l) (fY:eW p.aad) (rF:p.aad.length<=1048576) (Fq:∀(v:Nat) (row:List Int),l[v]?=some row->row.length<=1000000):
  Calls Tryz.prog 105 #[.agg #[.int .i64 p.labels,.int .i64 p.degree,pa,pb],.agg #[ve,vi,vn],vl] w fun e w'=>e=.returned (.bool (dn p n.ends l))/\Below w.heap.size w w':=by
 obtain⟨w0,au⟩:∃w0,w0=((w).alloc (.cells #[.int .i64 p.labels,.int .i64 p.degree,pa,pb] 40)).alloc (.cells #[ve,vi,vn] 27):=⟨_,rfl⟩
 have bO:Below w.heap.size w w0:=by rw[au];exact(((Below.refl _ _).alloc (by simp <;> omega) _).alloc (by simp <;> omega) _)
 have H:=zh (h.aab bO);obtain⟨h1,h2,h3⟩:=h.aab bO;obtain⟨A,c,rfl,er,hm,hA⟩:=h1;obtain⟨A2,c2,rfl,_,et,_⟩:=h2;obtain⟨A3,c3,rfl,_,fG,_⟩:=h3;unfold maxLen at hm et fG;have dV:=hp.aab bO;have HP:=zh dV;obtain⟨P0,gL,rfl,lJ,fw,cH⟩:=id dV.1;unfold maxLen at fw;have lK:=zh cH;clear cH;obtain⟨P1,g8,rfl,lL,fx,cJ⟩:=id dV.2;unfold maxLen at fx;have lM:=zh cJ;clear cJ;clear dV hp
 have e8:∀W,aa w0 W->W.cell? ⟨w.heap.size,0,none⟩=some (.int .i64 p.labels):=ad (by rw[au];simp)
 have fh:∀W,aa w0 W->W.cell? ⟨w.heap.size,1,none⟩=some (.int .i64 p.degree):=ad (by rw[au];simp)
 have fi:∀W,aa w0 W->W.cell? ⟨w.heap.size,2,none⟩=some (.slice P0 p.nodes.length gL):=ad (by rw[au];simp)
 have pT:∀W,aa w0 W->W.cell? ⟨w.heap.size,3,none⟩=some (.slice P1 p.aad.length g8):=ad (by rw[au];simp)
 have vj:∀W,aa w0 W->W.cell? ⟨w.heap.size+1,0,none⟩=some (.slice A n.ends.length c):=ad (by rw[au];simp)
 have C7:∀W,aa w0 W->W.cell? ⟨w.heap.size+1,1,none⟩=some (.slice A2 n.ids.length c2):=ad (by rw[au];simp)
 have C8:∀W,aa w0 W->W.cell? ⟨w.heap.size+1,2,none⟩=some (.slice A3 n.aaa.length c3):=ad (by rw[au];simp)
 have aY:=zh bO;have bM:=zh au;have HA:=zh hA;clear hA h;clear bO au;have HL:=zh (hl.aab aY.out);obtain⟨AL,cL,rfl,Pk,Fr,-⟩:=hl;unfold maxLen at Fr;have ma:=zh (show ∀X,aa w0 X->el X (.slice P0 p.nodes.length gL) (.slice P1 p.aad.length g8) p from fun X hX=>HP.out.aab hX)
 have rG:=zh gb;have yH:=zh fY;have Pl:=zh Fq;clear gb fY Fq;have Pm:Hid (dn p n.ends l=(List.range l.length).all (iI p n.ends l)):=rfl
 go_enter Tryz.func105,Tryz.ntmps105
 go_upto_region 1 with(fail);rw[<- bM.out];have aX:aa w0 w0:=ab _;go_wp2
 go_loopw [11] (fun i wr=>∃k:Nat,k<=l.length/\i=.int .i64 k/\(List.range k).all (iI p n.ends l)=true/\aa w0 wr) (fun i _=>l.length-(intOf i).toNat)
 case atStart=>exact⟨0,Nat.zero_le _,rfl,rfl,aX⟩
 case round=>
  obtain⟨k,hk,rfl,bF,hb⟩:=hrel;have fF:=zh bF;have Hb:=zh hb;clear bF aX
  by_cases aH:k<l.length
  ·obtain⟨row,b,off,A1,z1,hx,rfl,bS,cj,cX,kj⟩:=eJ (HL.out.aab hb.below) aH;have ir:=zh hx;have Km:=zh kj;have Ay:=Pl.out k row hx;have q1:=ad bS
   have Pn:Hid (iI p n.ends l k=(dk p row&&(List.range row.length).all fun i=>fa p n.ends l ((k:Int),(i:Int)))):=by show _=_;unfold iI;rw[ag hx]
   clear hx kj bS;cases nV:dk p row
   ·have GG:=zh nV
    have kL:Hid (dn p n.ends l=false):=by show _=_;rw[Pm.out];exact ji aH (by rw[Pn.out,nV];rfl)
    clear nV;have hq:=q1 _ (ab _)
    go_wp2_with (go_at_call 107;refine(ix _ _ _ p l k row _ (ma.out _ Hb.out) (HL.out.aab Hb.out.below) ir.out Ay).mono ?_;rw[GG.out];rintro e w2 ⟨rfl,hb2⟩)
    go_ret;exact⟨az kL.out,aa.after aY.out (Hb.out.trans hb2)⟩
   ·have GG:=zh nV;have hq:=q1 _ (ab _);clear nV
    go_upto_region 6 with(go_at_call 107;refine(ix _ _ _ p l k row _ (ma.out _ Hb.out) (HL.out.aab Hb.out.below) ir.out Ay).mono ?_;rw[GG.out];rintro e w2 ⟨rfl,hb2⟩)
    have dS:aa w0 w2:=Hb.out.trans hb2;have q2:=ak q1 hb2;have xF:=q2 _ (ab _);clear hb2 hq q1 hb;go_wp2
    go_loopw [24] (fun i wr=>∃j:Nat,j<=row.length/\i=.int .i64 j/\((List.range j).all fun i=>fa p n.ends l ((k:Int),(i:Int)))=true/\aa w0 wr) (fun i _=>row.length-(intOf i).toNat)
    case atStart=>exact⟨0,Nat.zero_le _,rfl,rfl,dS⟩
    case round=>
     obtain⟨j,hj,rfl,I9,hb⟩:=hrel;have I_:=zh I9;have Hb:=zh hb;clear I9 dS xF
     by_cases vq:j<row.length
     ·cases dy:fa p n.ends l ((k:Int),(j:Int))
      ·have cA:=zh dy
       have kL:Hid (dn p n.ends l=false):=by show _=_;rw[Pm.out];exact ji aH (by rw[Pn.out,ji vq dy,Bool.and_false])
       clear dy
       go_wp2_with (go_at_call 106;refine(iy _ _ _ _ _ _ p n l k j row _ (ma.out _ Hb.out) (H.out.aab Hb.out.below) (HL.out.aab Hb.out.below) hn rG.out yH.out rF ir.out vq).mono ?_;rw[cA.out];rintro e w3 ⟨rfl,aZ⟩)
       go_ret;exact⟨az kL.out,aa.after aY.out (Hb.out.trans aZ)⟩
      ·have cA:=zh dy;clear dy
       go_wp2_with (go_at_call 106;refine(iy _ _ _ _ _ _ p n l k j row _ (ma.out _ Hb.out) (H.out.aab Hb.out.below) (HL.out.aab Hb.out.below) hn rG.out yH.out rF ir.out vq).mono ?_;rw[cA.out];rintro e w3 ⟨rfl,aZ⟩)
       go_roundw
       case rel=>exact⟨j+1,by omega,by go_num,jQ I_.out cA.out,Hb.out.trans aZ⟩
       case measure=>simp[intOf];omega
     ·obtain rfl:j=row.length:=by omega
      go_wp2;go_roundw
      case rel=>exact⟨k+1,by omega,by go_num,jQ fF.out (by rw[Pn.out,GG.out,I_.out];rfl),hb⟩
      case measure=>simp[intOf];omega
  ·obtain rfl:k=l.length:=by omega
   go_wp2;go_ret;exact⟨cB (by rw[Pm.out,fF.out]),aa.after aY.out hb⟩
def cg (x:Int) (N j:Nat):List Value:=List.replicate j (.int .i64 x)++List.replicate (N-j) (.int .i64 0)
theorem oY {x:Int} {N j:Nat} (h:j<=N):(cg x N j).length=N:=by simp[cg];omega
theorem kE {x:Int} {N j m:Nat} (h:j+m<=N):splice (cg x N j) j (List.replicate m (.int .i64 x))=cg x N (j+m):=by
 unfold splice cg
 rw[List.take_append_of_le_length (by simp),List.take_replicate,Nat.min_self,List.length_replicate,List.drop_append,List.drop_replicate,List.length_replicate,List.drop_replicate,show j-(j+m)=0 by omega,show N-j-(j+m-j)=N-(j+m)by omega,List.replicate_zero,List.nil_append,<- List.append_assoc,List.replicate_append_replicate]
theorem xG {w:World} {base g N:Nat} {x:Int} (h:w.heap[g]?=some (.cells (cg x N N).toArray 3 (0,0))) (hb:base<=g) (hN:N<=1000000):Own w base (.slice (some ⟨g,0,none⟩) N N) (List.replicate N x):=by
 unfold Own
 refine⟨by simp,.inr ⟨g,N,_,by simp,hb,h,by simp,by unfold maxLen;omega,by simp[cg],?_⟩⟩
 simp[cg]
theorem s_ {w:World} {g N j:Nat} {x:Int} (h:w.heap[g]?=some (.cells (cg x N j).toArray 3 (0,0))) {i:Nat} (hi:i<j):w.cell? ⟨g,i,none⟩=some (.int .i64 x):=by
 have:(cg x N j)[i]?=some (.int .i64 x):=by
  unfold cg;rw[List.getElem?_append_left (by simpa using hi)];simp[hi]
 simp[World.cell?,h,this]
theorem DJ {w:World} {b:Nat} {x:Int} (h:w.cell? ⟨b,0,none⟩=some (.int .i64 x)) {j:Nat} {v:Value} (hj:(List.replicate 1 (Value.int .i64 x))[j]?=some v):w.cell? ((⟨b,0,none⟩:Addr).add j)=some v:=by
 have h1:=ai hj;simp at h1
 subst h1;simp at hj
 subst hj;rw[Go.Addr.add_lit];exact h
theorem Az {w:World} {g N j m:Nat} {x:Int} (h:w.heap[g]?=some (.cells (cg x N j).toArray 3 (0,0))) (hm:m<=j) {i:Nat} {v:Value} (hi:(List.replicate m (Value.int .i64 x))[i]?=some v):w.cell? ((⟨g,0,none⟩:Addr).add i)=some v:=by
 have h1:=ai hi;rw[List.length_replicate]at h1;rw[List.getElem?_replicate,if_pos h1]at hi;rw[<- Option.some.inj hi,Go.Addr.add_lit,Nat.zero_add];exact s_ h (by omega)
theorem jR (b c:Nat) (x:Int) (N:Nat) (w:World) (hN:1<=N) (ta:N<=1000000) (hc:w.cell? ⟨b,0,none⟩=some (.int .i64 x)):
  Calls Tryz.prog 74 #[.slice (some ⟨b,0,none⟩) 1 c,.int .i64 N] w fun e w'=>∃u,e=.returned u/\Own w' w.heap.size u (List.replicate N x)/\Below w.heap.size w w':=by
 have e1:IntKind.u64.wrap (N:Int)=N:=IntWalk.u64_in _ (by omega);have hm:=Tryz.bits_Mul 1 N (by omega) (by omega) w;rw[show(1*N/18446744073709551616:Nat)=0 by omega,show(1*N%18446744073709551616:Nat)=N by omega]at hm
 have Hm:=zh hm;have e2:IntKind.i64.wrap (N:Int)=N:=aR _ (by omega) (by omega);have m2:=jL N ta;have Hc:=zh hc;have Po:¬((N:Int)<0):=by omega
 have Dq:¬(9223372036854775807<(N:Int)):=by omega
 clear hm hc
 go_enter Tryz.func74,Tryz.ntmps74
 go_wp2_with fail;refine Hm.out.mono ?_;rintro e w1 ⟨rfl,rfl⟩
 have Pp:Hid ((w1.alloc (.cells (Array.replicate N (Value.int .i64 0)) 3)).heap[w1.heap.size]?=some (.cells (cg x N 0).toArray 3 (0,0))):=by
  show(w1.heap.push _)[w1.heap.size]?=_
  rw[Array.getElem?_push_size];simp[cg]
 go_wp2_with (refine wpList_copy_splice rfl _ _ 25 25 rfl 3 Tryz.underlying25 (by kernel_rfl) (some ⟨w1.heap.size,0,none⟩) (some ⟨b,0,none⟩) N N 1 c rfl rfl w1.heap.size 0 (cg x N 0) 3 Pp.out (List.replicate 1 (.int .i64 x)) (by rw[List.length_replicate];exact(Nat.min_eq_left hN).symm) (fun _=>⟨rfl,_,rfl,fun j v hj=>DJ (bc (aj _ _) Hc.out) hj⟩) (by rw[oY (Nat.zero_le _),List.length_replicate];omega) (by simp[Value.oneCell']) w1.heap.size w1 (aj _ _) (Nat.le_refl _) ?_;intro w3 s9 aZ)
 obtain⟨g,hg⟩:∃g,g=w1.heap.size:=⟨_,rfl⟩
 have Hg:=zh hg;rw[<- hg]at s9 ⊢;clear hg
 have Pq:Hid (w3.heap[g]?=some (.cells (cg x N 1).toArray 3 (0,0))):=by
  have:=s9.out
  rw[show List.replicate 1 (Value.int .i64 x)=List.replicate 1 (.int .i64 x)from rfl,kE (by omega)]at this;exact this
 have Kn:=zh aZ;clear s9 aZ;go_wp2
 go_loopw [8] (fun nv wr=>∃j:Nat,1<=j/\j<=N/\nv=.int .i64 j/\wr.heap[g]?=some (.cells (cg x N j).toArray 3 (0,0))/\Below w1.heap.size w1 wr) (fun nv _=>N-(intOf nv).toNat)
 case atStart=>exact⟨1,Nat.le_refl _,hN,rfl,Pq.out,Kn.out⟩
 case round=>
  obtain⟨j,rC,hj,rfl,rt,hb⟩:=hrel;have HG:=zh rt;have HB:=zh hb;clear rt hb
  by_cases aH:j<N
  ·obtain⟨m,hm⟩:∃m,m=min j (N-j):=⟨_,rfl⟩
   have tb:1<=m:=by omega
   have et:j+m<=N:=by omega
   have Wr:m<=j:=by omega
   have hNj:¬N=j:=by omega
   have Pr:=zh hm;clear hm;have m3:IntKind.i64.wrap ((j:Int)+m)=(j:Int)+m:=aR _ (by omega) (by omega);have aX:aa w1 wr:=HB.out;go_upto_region 9 with(fail);refine bQ (w0:=w1) 9 [false,false,false,false,false,false,false,true,true] (by kernel_rfl) (by kernel_rfl) (aX) ?_;simp only[df,b8,zT]
   iterate 7 (apply ek rfl;(intro W hW;go_simp;with_reducible rfl);simp only[zA])
   obtain⟨W,bB⟩:∃W,W=World.drew wr:=⟨_,rfl⟩
   rw[<- bB]
   have hW:aa w1 W:=by rw[bB];exact ah (aX)
   refine ci (fun Q' HQ=>?_)
   (refine wpList_copy_splice rfl _ _ 25 25 rfl 3 Tryz.underlying25 (by kernel_rfl) (some ⟨g,j,none⟩) (some ⟨g,0,none⟩) (N-j) (N-j) j N (by go_simp) (by go_simp) g j (cg x N j) 3 (by rw[bB];exact HG.out) (List.replicate m (.int .i64 x)) (by rw[List.length_replicate];exact Pr.out) (fun _=>⟨rfl,_,rfl,fun i v hi=>Az (by rw[bB];exact HG.out) Wr hi⟩) (by rw[oY hj];simpa using et) (by simp[Value.oneCell']) w1.heap.size w1 hW (by rw[Hg.out];exact Nat.le_refl _) ?_);intro w4 I5 my;refine HQ _ _ my ?_;replace hW:aa w1 w4:=my;simp only[List.length_replicate,goInt]
   (try simp only[zA])
   refine fP (v:=?_) rfl ?_ hW ?_;rotate_left;(go_simp;with_reducible rfl)
   simp only[zA];simp only[aQ]
   have Ws:Hid (w4.heap[g]?=some (.cells (cg x N (j+m)).toArray 3 (0,0))):=by
    have:=I5.out
    rw[kE et]at this;exact this
   have GH:=zh hW;clear I5 my hW bB aX;go_wp2;go_roundw
   case rel=>exact⟨j+m,by omega,et,by go_num,Ws.out,GH.out⟩
   case measure=>simp[intOf];omega
  ·obtain rfl:j=N:=by omega
   go_wp2;go_ret
   exact⟨_,rfl,xG HG.out (by rw[Hg.out];exact Nat.le_refl _) ta,HB.out⟩
end Go.Proofs.YtgjggeapebbcbaaGreat
