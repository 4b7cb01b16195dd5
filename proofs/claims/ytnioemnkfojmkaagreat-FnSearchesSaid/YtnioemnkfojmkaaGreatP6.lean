/- Parts of the proof: walks of functions and plain laws. -/
import Derived.Test.YtnioemnkfojmkaaGreatP0
import Derived.Test.YtnioemnkfojmkaaGreatP2
import Derived.Test.YtnioemnkfojmkaaGreatP5
import Derived.Test.YtnioemnkfojmkaaGreatP3
import Derived.WalkSpells
import Derived.Test.YtnioemnkfojmkaaGreatP4
set_option maxRecDepth 100000
set_option maxHeartbeats 16000000
namespace Go.Proofs.YtnioemnkfojmkaaGreat
open Go Go.RowKit
def jO (w:World) (k:Nat):World:={ w with heap:=w.heap.extract 0 k }
theorem mK (w:World) {k:Nat} (hk:k<=w.heap.size):(jO w k).heap.size=k:=by simp[jO];omega
theorem oi (w:World) {k:Nat} (hk:k<=w.heap.size):aa (jO w k) w:=by
 refine⟨rfl,rfl,rfl,by rw[mK w hk];exact hk,fun i hi=>?_⟩
 rw[mK w hk]at hi;simp[jO,Array.getElem?_extract]
 omega
theorem Ci {w0 w:World} {k:Nat} (h:aa w0 w) (hk:k<=w.heap.size) (h0:w0.heap.size<=k):aa w0 (jO w k):=by
 refine⟨h.os,h.tape,h.output,by rw[mK w hk];exact h0,fun i hi=>?_⟩
 have:=h.block i hi
 simp only[jO,Array.getElem?_extract];rw[if_pos (by omega)];simpa using this
def bA (W:World) (b:Nat) (x y z:Value):Prop:=W.heap[b]?=some (.cells #[x,y,z] 30)
theorem bA.box {W:World} {b:Nat} {x y z:Value} (h:bA W b x y z):aZ W b x y z:=⟨_,h⟩
theorem bA.lt {W:World} {b:Nat} {x y z:Value} (h:bA W b x y z):b<W.heap.size:=(Array.getElem?_eq_some_iff.1 h).1
theorem bA.since {W W':World} {b:Nat} {x y z:Value} (h:bA W b x y z) (hs:aa W W'):bA W' b x y z:=(hs.block b h.lt).trans h
def zV (W:World) (B:Nat) (u:Value):Prop:=∃b,u=.pointer (some ⟨b,0,none⟩)/\B<=b/\bA W b (.slice none 0 0) (.slice none 0 0) (.slice none 0 0)
theorem zV.ac2 {W W':World} {B:Nat} {u:Value} (h:zV W B u) (hs:aa W W'):zV W' B u:=by
 obtain⟨b,h1,h2,h3⟩:=h;exact⟨b,h1,h2,h3.since hs⟩
theorem zV.new (W:World) {B:Nat} (h:B<=W.heap.size):zV (W.alloc (.cells #[.slice none 0 0,.slice none 0 0,.slice none 0 0] 30)) B (.pointer (some ⟨W.heap.size,0,none⟩)):=
 ⟨_,rfl,h,by show(W.heap.push _)[W.heap.size]?=_;rw[Array.getElem?_push_size]⟩
theorem F6 {W:World} {base b:Nat} {v x y z:Value} {xs:List Int} (h:Own W base v xs) (hb:bA W b x y z):v.ownBlock≠some b:=by
 rcases h.2 with⟨rfl,_⟩ | ⟨g,cap,cur,rfl,_,hc,_⟩
 ·simp[Value.ownBlock]
 ·intro e;simp[Value.ownBlock]at e
  subst e;unfold bA at hb;rw[hb]at hc;simp at hc
theorem Il {w w0:World} {ops:Array Oper} {rest:List Oper} {o:Oper} {a:Act} {Q:Exit->Act->World->Prop} (iz:o.guard=none) (s x:Operand)
  (ho:o.op=.call { callee:=.builtin .append,args:=#[s,x],argTypes:=#[59,59] }) {v u:Value} {xs ys:List (Int×Int)} {T:List Nat} (hs:a.eval s=v) (h:eq w w0.heap.size v xs T) (hy:zL w u ys)
  (hx:a.eval x=u) (hl:xs.length+ys.length<=1000000) (pO:aa w0 w)
  (k:∀v' w' T',eq w' w0.heap.size v' (xs++ys) T'->(∀j∈T',j∈T\/j=w.heap.size)->aR T w w'->aa w0 w'->wpList Tryz.prog ops Q rest (a.put o.dst v') w'):wpList Tryz.prog ops Q (o::rest) a w:=by
 obtain⟨i0,hi,eu,dP,eO⟩:=info_parts ro;obtain⟨A,c,rfl,_,_,hA⟩:=hy;have aH:=fun q hq=>World.ownsRow.lt h.1 q hq
 rcases Nat.eq_zero_or_pos ys.length with h0 | h0
 ·have Nb:ys=[]:=List.eq_nil_of_length_eq_zero h0;subst Nb;refine wpList_plain iz fun K hK=>?_
  have dO:(Builtin.append_ #[59,59] o.type #[v,.slice A 0 c]).run Tryz.prog w=.ok v w:=by
   rcases h.1.2 with⟨rfl,qz⟩ | ⟨g,cap,cur,rfl,_,_,G5,_⟩
   ·cases A <;> simp[Builtin.append_,run_underlying Tryz.underlying59,sizeOf,typeInfo,hi,Builtin.lenOf,Builtin.firstCells,loadCells,loadCellsFrom,Result.andThen]
   ·cases A <;> simp[Builtin.append_,run_underlying Tryz.underlying59,sizeOf,typeInfo,hi,Builtin.lenOf,Builtin.firstCells,G5,storeCells,loadCells,loadCellsFrom,Result.andThen]
  simp only[List.length_nil]at hx;unfold Oper.wp;simp[execOp,ho,resolve,invoke,builtin,hs,hx,dO,Result.andThen]
  exact hK _ _ (k v w T (by simpa using h) (fun j hj=>.inl hj) (aR.refl _ _) pO)
 ·obtain⟨y0,Jl⟩:=ay ys 0 h0;obtain⟨b,off,rfl,_⟩:=hA 0 y0 Jl
  refine wpList_append_lies w iz s x 59 ho w0.heap.size 104 i0 _ 2 16 Tryz.underlying59 hi eu dP eO rfl (by decide) v xs.length (xs.flatMap lj) hs h.1 ⟨b,off,none⟩ ys.length c (ys.flatMap lj) hx (BV ys)
   (by
    intro j u hj;have uF:=al hj;rw[BV]at uF;obtain⟨e,he⟩:=ay ys (j/2) (by omega);obtain⟨b',md,e',c1,c2⟩:=hA (j/2) e he;cases e';obtain⟨g1,g2⟩:=nY he;rw[Go.Addr.add_lit];rcases Nat.mod_two_eq_zero_or_one j with hm | hm
    ·have e1:j/2*2=j:=by omega
     rw[e1]at c1 g1;rw[g1]at hj
     rw[c1];exact hj
    ·have e1:j/2*2+1=j:=by omega
     rw[e1]at g2;rw[show off+j/2*2+1=off+j by omega]at c2
     rw[g2]at hj
     rw[c2];exact hj) (by intro u hu;obtain⟨x,_,hx⟩:=List.mem_flatMap.1 hu;simp[lj]at hx;rcases hx with rfl | rfl <;> rfl) h0 (by unfold maxLen;omega) (by omega) pO.below.size w.heap.size rfl ?_
  intro g cap w' q1 q2 q3 q4;have hT:=h.2
  refine k _ w' _ ⟨?_,rfl⟩ ?_ (by rw[hT];exact aR.ac9 q2) (Below.grown pO q2 pO.below.size (fun q hq=>(aH q hq).1))
  ·rw[List.flatMap_append,List.length_append];exact q1
  ·intro j hj;simp[Value.ownBlock]at hj
   subst hj;rcases q3 with q3 | q3
   ·left;rw[hT,q3];simp
   ·exact .inr q3
theorem bg.adL {β:Type} {R:World->Nat->Value->β->List Nat->Prop} {e:TypeId} (L:ej R) {w w':World} {base g cap:Nat} {v u:Value} {xs:List β} {x:β} {S T:List Nat} (h:bg e R w base v xs S) (hu:R w base u x T) (hd:∀j∈T,j∉S)
  (vs:List Value) (Ss:List (List Nat)) (h1:w.ownsRow base e 1 v xs.length vs) (h2:Ss.length=xs.length) (h3:∀(k:Nat) u x T,vs[k]?=some u->xs[k]?=some x->Ss[k]?=some T->R w base u x T) (h4:S=v.ownBlock.toList++Ss.flatten) (h5:S.Nodup)
  (q1:w'.ownsRow base e 1 (.slice (some ⟨g,0,none⟩) (xs.length+1) cap) (xs.length+1) (vs++[u])) (q2:w.grownBy w' v.ownBlock) (q3:v.ownBlock=some g\/g=w.heap.size):
  ∃S',bg e R w' base (.slice (some ⟨g,0,none⟩) (xs.length+1) cap) (xs++[x]) S'/\(∀j∈S',j∈S\/j∈T\/j=w.heap.size):=by
 have hS:=(ep e L).range h;have hTr:=L.range hu;have lW:vs.length=xs.length:=by simpa using h1.1
 have rm:=h5;rw[h4,List.nodup_append]at rm
 have dH:∀j∈Ss.flatten,j∈S:=fun j hj=>by rw[h4];exact List.mem_append_right _ hj
 have ey:=aR.ac9 q2;have Wi:∀j∈Ss.flatten,j∉v.ownBlock.toList:=fun j hj hv=>rm.2.2 j hv j hj rfl
 have Wj:∀j∈T,j∉v.ownBlock.toList:=fun j hj hv=>hd j hj (by rw[h4];exact List.mem_append_left _ hv)
 have hg:g∉Ss.flatten:=fun hg=>by
  rcases q3 with q3 | q3
  ·exact Wi g hg (by rw[q3];simp)
  ·have:=(hS g (dH g hg)).2;omega
 have xQ:g∉T:=fun hg=>by
  rcases q3 with q3 | q3
  ·exact Wj g hg (by rw[q3];simp)
  ·have:=(hTr g hg).2;omega
 refine⟨[g]++(Ss++[T]).flatten,⟨vs++[u],Ss++[T],?_,by simp[h2],?_,by simp[Value.ownBlock],?_⟩,?_⟩
 ·rw[List.length_append];exact q1
 ·intro k u' x' T' yQ Bm sH;rcases Nat.lt_or_ge k xs.length with hk | hk
  ·rw[List.getElem?_append_left (by omega)]at yQ Bm sH;exact L.only (h3 k u' x' T' yQ Bm sH) ey (fun j hj=>Wi j (List.mem_flatten.2 ⟨T',List.mem_of_getElem? sH,hj⟩))
  ·have pM:k=xs.length:=by
    have:=al Bm
    simp at this;omega
   subst pM;rw[List.getElem?_append_right (Nat.le_refl _),Nat.sub_self]at Bm;rw[<- lW,List.getElem?_append_right (Nat.le_refl _),Nat.sub_self]at yQ;rw[<- h2,List.getElem?_append_right (Nat.le_refl _),Nat.sub_self]at sH;simp at yQ Bm sH
   subst yQ Bm sH;exact L.only hu ey Wj
 ·rw[List.flatten_append,List.nodup_append];refine⟨by simp,?_,?_⟩
  ·rw[List.nodup_append];refine⟨rm.2.1,by simpa using L.nodup hu,?_⟩
   intro a ha b hb e;simp at hb
   subst e;exact hd a hb (dH a ha)
  ·intro a ha b hb e;simp at ha
   subst e ha;rcases List.mem_append.1 hb with hb | hb
   ·exact hg hb
   ·simp at hb;exact xQ hb
 ·intro j hj;rw[List.flatten_append]at hj;rcases List.mem_append.1 hj with hj | hj
  ·simp at hj
   subst hj;rcases q3 with q3 | q3
   ·left;rw[h4,q3];simp
   ·exact .inr (.inr q3)
  ·rcases List.mem_append.1 hj with hj | hj
   ·exact .inl (dH j hj)
   ·simp at hj;exact .inr (.inl hj)
theorem rG {w wT:World} {ops:Array Oper} {rest:List Oper} {o:Oper} {a:Act} {Q:Exit->Act->World->Prop} (iz:o.guard=none) (s x:Operand)
  (ho:o.op=.call { callee:=.builtin .append,args:=#[s,x],argTypes:=#[27,27] }) {base:Nat} {v ui un u:Value} {N:aw} {S T:List Nat} {es:List (Int×Int)} (hs:a.eval s=v) (h:au w base v ui un N S)
  (b:Nat) (hx:a.eval x=.slice (some ⟨b,0,none⟩) 1 1) (hc:w.cell? ⟨b,0,none⟩=some u) (hu:eq w base u es T) (hd:∀j∈T,j∉S) (hl:N.ends.length+1<=1000000) (pO:aa wT w) (uN:base<=w.heap.size) (hvT:∀q,v.ownBlock=some q->wT.heap.size<=q)
  (k:∀v' w' S',(∀q,v'.ownBlock=some q->v.ownBlock=some q\/q=w.heap.size)->au w' base v' ui un { N with ends:=N.ends++[es] } S'->(∀j∈S',j∈S\/j∈T\/j=w.heap.size)->aR S w w'->aa wT w'->wpList Tryz.prog ops Q rest (a.put o.dst v') w'):wpList Tryz.prog ops Q (o::rest) a w:=by
 obtain⟨i0,hi,eu,dP,eO⟩:=info_parts FU;have NN:=h.range;obtain⟨S1,S2,S3,h1,h2,h3,h4,h5⟩:=h;have Kb:=h1;obtain⟨vs,Ss,r1,r2,r3,r4,r5⟩:=h1;obtain⟨A,m,c,rfl⟩:=fY.one hu
 refine wpList_append_lies w iz s x 27 ho base 59 i0 _ 1 24 Tryz.underlying27 hi eu dP eO rfl (by decide) v N.ends.length vs hs r1 ⟨b,0,none⟩ 1 1 [.slice A m c] hx rfl
  (by intro j u hj;match j,hj with | 0,hj=>(simp at hj;subst hj;simpa[Addr.add]using hc) | j+1,hj=>simp at hj) (by simp[Value.oneCell']) (by omega) (by unfold maxLen;omega) (by omega) uN w.heap.size rfl ?_
 intro g cap w' q1 q2 q3 q4;rw[h4,List.nodup_append]at h5;obtain⟨n1,n2,n3⟩:=h5
 have yN:∀j∈T,j∉S1:=fun j hj hS=>hd j hj (by rw[h4];exact List.mem_append_left _ hS)
 obtain⟨NL,o1,kh⟩:=bg.adL fY Kb hu yN vs Ss r1 r2 r3 r4 r5 q1 q2 q3;have ey:=aR.ac9 q2
 have hvS:∀j∈v.ownBlock.toList,j∈S1:=fun j hj=>by rw[r4];exact List.mem_append_left _ hj
 have d:∀j∈S2++S3,j∉v.ownBlock.toList:=fun j hj hv=>n3 j (hvS j hv) j hj rfl
 refine k _ w' (NL++(S2++S3)) (fun q hq=>by simp[Value.ownBlock]at hq;subst hq;exact q3) ⟨NL,S2,S3,?_,er.only h2 ey (fun j hj=>d j (List.mem_append_left _ hj)),er.only h3 ey (fun j hj=>d j (List.mem_append_right _ hj)),rfl,?_⟩ ?_ (ey.mono fun j hj=>by rw[h4];exact List.mem_append_left _ (hvS j hj)) (Below.grown pO q2 pO.below.size hvT)
 ·exact o1
 ·rw[List.nodup_append];refine⟨kQ.nodup o1,n2,fun a ha b hb qe=>?_⟩
  subst qe;rcases kh a ha with h | h | h
  ·exact n3 a h a hb rfl
  ·exact hd a h (by rw[h4];exact List.mem_append_right _ hb)
  ·have:=(NN a (by rw[h4];exact List.mem_append_right _ hb)).2
   omega
 ·intro j hj;rcases List.mem_append.1 hj with hj | hj
  ·rcases kh j hj with h | h | h
   ·exact .inl (by rw[h4];exact List.mem_append_left _ h)
   ·exact .inr (.inl h)
   ·exact .inr (.inr h)
  ·exact .inl (by rw[h4];exact List.mem_append_right _ hj)
theorem au.ada {w:World} {base g c n:Nat} {vi vn:Value} {N:aw} {S:List Nat} (h:au w base (.slice (some ⟨g,0,none⟩) n c) vi vn N S) {k j:Nat} {es:List (Int×Int)} (hx:N.ends[k]?=some es) (hj:j<es.length):
  ∃gr cr,w.cell? ⟨g,k,none⟩=some (.slice (some ⟨gr,0,none⟩) es.length cr)/\es.length<=cr/\cr<=maxLen/\g∈S/\gr∈S/\g≠gr/\(w.frozen? ⟨gr,j*2,none⟩=false/\w.frozen? ⟨gr,j*2+1,none⟩=false)/\(∃z,w.cell? ⟨gr,j*2,none⟩=some z)/\(∃z,w.cell? ⟨gr,j*2+1,none⟩=some z) /\
   ∀y:Int×Int,au ((w.setCell ⟨gr,j*2,none⟩ (.int .i64 y.1)).setCell ⟨gr,j*2+1,none⟩ (.int .i64 y.2)) base (.slice (some ⟨g,0,none⟩) n c) vi vn { N with ends:=N.ends.set k (es.set j y) } S:=by
 obtain⟨S1,S2,S3,h1,h2,h3,h4,h5⟩:=h;obtain⟨u,T,hu,hR,hT,j8⟩:=bg.adE fY h1 hx;have hnd:=(ep _ fY).nodup h1;obtain⟨_,_,_,_,_,Wk,_,FV⟩:=bg.at_ h1 hx;rw[h4,List.nodup_append]at h5;obtain⟨n1,n2,n3⟩:=h5;have hR':=hR.1;rcases dh hR.1 with⟨rfl,h0⟩ | ⟨gr,cr,rfl,aX,bJ,aG,qy⟩
 ·omega
 ·have RK:gr∈T:=by rw[hR.2];simp[Value.ownBlock]
  obtain⟨y0,Jl⟩:=ay es j hj;obtain⟨c1,c2,ff⟩:=eq.cells hR Jl
  have yJ:g≠gr:=fun e=>by
   subst e;obtain⟨vs,Ss,e1,_⟩:=h1;rcases e1.2 with⟨h0,_⟩ | ⟨q',JI,aci,h0,_,PZ,_⟩
   ·cases h0
   ·cases h0;rcases hR'.2 with⟨h0,_⟩ | ⟨q'',aca,acb,h0,_,Wl,_⟩
    ·cases h0
    ·cases h0;rw[PZ]at Wl;simp at Wl
  refine⟨gr,cr,hu,aG,qy,by rw[h4];exact List.mem_append_left _ FV,by rw[h4];exact List.mem_append_left _ (hT gr RK),yJ,ff,⟨_,c1⟩,⟨_,c2⟩,fun y=>?_⟩
  have ey:aR T w ((w.setCell ⟨gr,j*2,none⟩ (.int .i64 y.1)).setCell ⟨gr,j*2+1,none⟩ (.int .i64 y.2)):=((aR.refl _ _).setCell (.inl RK) _).setCell (.inl RK) _;have d:∀q∈S2++S3,q∉T:=fun q hq hqT=>n3 q (hT q hqT) q hq rfl
  exact⟨S1,S2,S3,j8 _ _ (eq.set hR hj y) ey,er.only h2 ey (fun q hq=>d q (List.mem_append_left _ hq)),er.only h3 ey (fun q hq=>d q (List.mem_append_right _ hq)),h4,by rw[h4,List.nodup_append];exact⟨n1,n2,n3⟩⟩
theorem Im {w:World} {b:Nat} {x y z:Value} (h:bA w b x y z):bA (jO w (b+1)) b x y z:=by
 have:=h.lt
 unfold bA at h ⊢
 simp only[jO,Array.getElem?_extract];rw[if_pos (by omega)];simpa using h
theorem bA.only {S:List Nat} {W W':World} {b:Nat} {x y z:Value} (h:bA W b x y z) (ho:aR S W W') (hb:b∉S):bA W' b x y z:=(ho.block b h.lt hb).trans h
theorem bA.adl {W:World} {b:Nat} {x y z:Value} (h:bA W b x y z) (u:Value):bA (W.setCell ⟨b,0,none⟩ u) b u y z:=by
 unfold bA at h ⊢
 simp[World.setCell,Array.getElem?_modify,h]
theorem bA.adr {W:World} {b:Nat} {x y z:Value} (h:bA W b x y z) (u:Value):bA (W.setCell ⟨b,1,none⟩ u) b x u z:=by
 unfold bA at h ⊢
 simp[World.setCell,Array.getElem?_modify,h]
theorem bA.adn {W:World} {b:Nat} {x y z:Value} (h:bA W b x y z) (u:Value):bA (W.setCell ⟨b,2,none⟩ u) b x y u:=by
 unfold bA at h ⊢
 simp[World.setCell,Array.getElem?_modify,h]
theorem bA.other {W:World} {b:Nat} {x y z u:Value} {a:Addr} (h:bA W b x y z) (ha:b≠a.block):bA (W.setCell a u) b x y z:=(Below.heap_setCell W a u b ha).trans h
theorem Io {w:World} {base:Nat} {v ui un:Value} {dl:List (List (Int×Int))} {ids ins:List Int} {S1:List Nat} (hE:vC w base v dl S1) (h1:Own w base ui ids) (h2:Own w base un ins)
  (d1:∀j∈S1,ui.ownBlock≠some j) (d2:∀j∈S1,un.ownBlock≠some j) (d3:∀j,ui.ownBlock=some j->un.ownBlock≠some j):
  au w base v ui un ⟨dl,ids,ins⟩ (S1++(ui.ownBlock.toList++un.ownBlock.toList)):=by
 refine⟨S1,_,_,hE,⟨h1,rfl⟩,⟨h2,rfl⟩,rfl,?_⟩;rw[List.nodup_append,List.nodup_append]
 refine⟨kQ.nodup hE,⟨by cases ui.ownBlock <;> simp,by cases un.ownBlock <;> simp,?_⟩,?_⟩
 ·intro a ha b hb e;subst e;exact d3 a (by simpa using ha) (by simpa using hb)
 ·intro a ha b hb e;subst e;rcases List.mem_append.1 hb with hb | hb
  ·exact d1 a ha (by simpa using hb)
  ·exact d2 a ha (by simpa using hb)
theorem y6 {w:World} {ops:Array Oper} {rest:List Oper} {o:Oper} {a:Act} {Q:Exit->Act->World->Prop} (iz:o.guard=none) (s x:Operand)
  (ho:o.op=.call { callee:=.builtin .append,args:=#[s,x],argTypes:=#[28,28] }) {base:Nat} {v:Value} {xs:List Int} (hs:a.eval s=v) (h:Own w base v xs) (A:Option Addr) (c:Nat) (hx:a.eval x=.slice A 0 c)
  (k:wpList Tryz.prog ops Q rest (a.put o.dst v) w):wpList Tryz.prog ops Q (o::rest) a w:=by
 obtain⟨i0,hi,eu,dP,eO⟩:=info_parts l8;refine wpList_plain iz fun K hK=>?_
 have dO:(Builtin.append_ #[28,28] o.type #[v,.slice A 0 c]).run Tryz.prog w=.ok v w:=by
  rcases h.2 with⟨rfl,qz⟩ | ⟨g,cap,cur,rfl,_,_,G5,_⟩
  ·cases A <;> simp[Builtin.append_,run_underlying Tryz.underlying28,sizeOf,typeInfo,hi,Builtin.lenOf,Builtin.firstCells,loadCells,loadCellsFrom,Result.andThen]
  ·cases A <;> simp[Builtin.append_,run_underlying Tryz.underlying28,sizeOf,typeInfo,hi,Builtin.lenOf,Builtin.firstCells,G5,storeCells,loadCells,loadCellsFrom,Result.andThen]
 unfold Oper.wp;simp[execOp,ho,resolve,invoke,builtin,hs,hx,dO,Result.andThen]
 exact hK _ _ k
theorem Ip (w:World):eq (w.alloc (.cells #[] 104)) w.heap.size (.slice (some ⟨w.heap.size,0,none⟩) 0 0) [] [w.heap.size]:=by
 have:=World.ownsRow_lit (base:=w.heap.size) (e:=104) (size:=2) w #[] 0 (Nat.le_refl _) (by simp[maxLen]) (by simp)
 exact⟨this,rfl⟩
theorem pu (v:Value) (xs:List Int) (w:World) (h:bO w v xs) (hl:xs.length<=17592186044416):
  Calls Tryz.prog 101 #[v] w fun e w'=>∃u,e=.returned u/\Own w' w.heap.size u xs/\Below w.heap.size w w':=by
 rcases Nat.eq_zero_or_pos xs.length with h0 | h0
 ·obtain rfl:xs=[]:=List.eq_nil_of_length_eq_zero h0
  obtain⟨A,c,rfl,f_,hm,_⟩:=h;have ho:=dv w [] (by simp[maxLen]);simp only[List.map_nil,List.length_nil]at ho;have Ho:=zh ho;clear ho
  go_enter Tryz.func101,Tryz.ntmps101
  go_wp2_with (at_builtin;refine y6 rfl _ _ rfl rfl Ho.out A c rfl ?_)
  go_wp2;go_ret;exact⟨_,rfl,Ho.out,ao _ _⟩
 ·exact H7 v xs w h h0 hl
theorem oo (n lo hi:Int) (w:World):Calls Tryz.prog 34 #[.int .i64 n,.int .i64 lo,.int .i64 hi] w fun e w'=>e=.returned (.bool (fT lo hi n))/\Below w.heap.size w w':=(fj n lo hi w).mono fun _ _ ⟨h1,h2⟩=>⟨h1,h2 ▸ Below.refl _ _⟩
theorem zW (n lo hi:Int) (w:World):Calls Tryz.prog 52 #[.int .i64 n,.int .i64 lo,.int .i64 hi] w fun e w'=>e=.returned (.bool (fT lo hi n))/\Below w.heap.size w w':=(fM n lo hi w).mono fun _ _ ⟨h1,h2⟩=>⟨h1,h2 ▸ Below.refl _ _⟩
theorem Iq {a b:Bool} (h:(a&&b)=true):a=true:=by simp at h;exact h.1
theorem aaw {a b:Bool} (h:(a&&b)=true):b=true:=by simp at h;exact h.2
theorem F7 (p:az):dF p=(fT 1 8 p.labels&&fT 1 4 p.degree&&vG p.nodes p.degree p.labels&&vG p.ac3 2 p.labels):=by unfold dF;simp only[Bool.and_assoc]
theorem hZ (a b:Value) (p:az) (w:World) (h:di w a b p):Calls Tryz.prog 31 #[.agg #[.int .i64 p.labels,.int .i64 p.degree,a,b]] w fun e w'=>e=.returned (.bool (dF p))/\Below w.heap.size w w':=by
 obtain⟨w0,ar⟩:∃w0,w0=(w).alloc (.cells #[.int .i64 p.labels,.int .i64 p.degree,a,b] 26):=⟨_,rfl⟩
 have bG:Below w.heap.size w w0:=by rw[ar];exact((Below.refl _ _).alloc (by simp) _)
 have cZ:=h.ac2 bG;have HP:=zh cZ;obtain⟨P0,eP,rfl,ji,dX,bZ⟩:=id cZ.1;unfold maxLen at dX;have jj:=zh bZ;clear bZ;obtain⟨P1,eB,rfl,jk,dY,b_⟩:=id cZ.2;unfold maxLen at dY;have jl:=zh b_;clear b_;clear cZ h
 have gP:∀W,aa w0 W->W.cell? ⟨w.heap.size,0,none⟩=some (.int .i64 p.labels):=ab (by rw[ar];simp)
 have ig:∀W,aa w0 W->W.cell? ⟨w.heap.size,1,none⟩=some (.int .i64 p.degree):=ab (by rw[ar];simp)
 have ii:∀W,aa w0 W->W.cell? ⟨w.heap.size,2,none⟩=some (.slice P0 p.nodes.length eP):=ab (by rw[ar];simp)
 have mL:∀W,aa w0 W->W.cell? ⟨w.heap.size,3,none⟩=some (.slice P1 p.ac3.length eB):=ab (by rw[ar];simp)
 have bQ:=zh bG;have cS:=zh ar;clear bG ar;have yf:=zh (show ∀X,aa w0 X->a_ X (.slice P0 p.nodes.length eP) p.nodes from fun X hX=>(HP.out.ac2 hX).1)
 have Ek:=zh (show ∀X,aa w0 X->a_ X (.slice P1 p.ac3.length eB) p.ac3 from fun X hX=>(HP.out.ac2 hX).2)
 go_enter Tryz.func31,Tryz.ntmps31
 go_upto_region 1 with(fail);rw[<- cS.out];refine bD 25 (aa w0) (ad _) ?_;simp only[zT]
 iterate 2 (refine bF rfl ?_;simp only[zA])
 refine cH ?_ rfl ?_ ?_;rotate_left;(intro W hW;unfold ba;go_simp;(with_reducible refine(oo _ _ _ W).mono ?_);rintro e W' ⟨rfl,aG⟩;first | (refine⟨?_,aa.trans hW aG⟩;with_reducible rfl) | (subst aG;refine⟨?_,hW⟩;with_reducible rfl))
 simp only[zA]
 refine bF rfl ?_;simp only[zA]
 iterate 2 (refine gT rfl rfl ?_;simp only[zA])
 refine bv (v:=?_) rfl rfl ?_ ?_;rotate_left;(intro hb;intro W hW;unfold ba;go_simp;(with_reducible refine(oo _ _ _ W).mono ?_);rintro e W' ⟨rfl,aG⟩;first | (refine⟨?_,aa.trans hW aG⟩;with_reducible rfl) | (subst aG;refine⟨?_,hW⟩;with_reducible rfl))
 simp only[zA]
 (first | refine eF rfl rfl ?_ | (refine bF rfl ?_));simp only[zA]
 refine bF rfl ?_;simp only[zA]
 iterate 6 (refine gT rfl rfl ?_;simp only[zA])
 refine bv (v:=?_) rfl rfl ?_ ?_;rotate_left;(intro hb;intro W hW;unfold ba;go_simp;(with_reducible refine(jM _ p.nodes p.degree p.labels W (yf.out W hW) (aL.1 (Iq hb))).mono ?_);rintro e W' ⟨rfl,aG⟩;first | (refine⟨?_,aa.trans hW aG⟩;with_reducible rfl) | (subst aG;refine⟨?_,hW⟩;with_reducible rfl))
 simp only[zA]
 (first | refine eF rfl rfl ?_ | (refine bF rfl ?_));simp only[zA]
 refine bF rfl ?_;simp only[zA]
 iterate 4 (refine gT rfl rfl ?_;simp only[zA])
 refine bv (v:=?_) rfl rfl ?_ ?_;rotate_left;(intro hb;intro W hW;unfold ba;go_simp;(with_reducible refine(jM _ p.ac3 2 p.labels W (Ek.out W hW) (aL.1 (Iq (Iq hb)))).mono ?_);rintro e W' ⟨rfl,aG⟩;first | (refine⟨?_,aa.trans hW aG⟩;with_reducible rfl) | (subst aG;refine⟨?_,hW⟩;with_reducible rfl))
 simp only[zA]
 (first | refine eF rfl rfl ?_ | (refine bF rfl ?_));simp only[zA]
 refine bF rfl ?_;simp only[zA]
 intro W5 ke;have qw:=zh (aa.after bQ.out ke);clear ke;have hr:=zh (F7 p);go_wp2;go_ret;exact⟨ce hr.out.symm,qw.out⟩
theorem mM (a b:Value) (p:az) (w:World) (h:di w a b p):Calls Tryz.prog 50 #[.agg #[.int .i64 p.labels,.int .i64 p.degree,a,b]] w fun e w'=>e=.returned (.bool (dF p))/\Below w.heap.size w w':=by
 obtain⟨w0,ar⟩:∃w0,w0=(w).alloc (.cells #[.int .i64 p.labels,.int .i64 p.degree,a,b] 26):=⟨_,rfl⟩
 have bG:Below w.heap.size w w0:=by rw[ar];exact((Below.refl _ _).alloc (by simp) _)
 have cZ:=h.ac2 bG;have HP:=zh cZ;obtain⟨P0,eP,rfl,ji,dX,bZ⟩:=id cZ.1;unfold maxLen at dX;have jj:=zh bZ;clear bZ;obtain⟨P1,eB,rfl,jk,dY,b_⟩:=id cZ.2;unfold maxLen at dY;have jl:=zh b_;clear b_;clear cZ h
 have gP:∀W,aa w0 W->W.cell? ⟨w.heap.size,0,none⟩=some (.int .i64 p.labels):=ab (by rw[ar];simp)
 have ig:∀W,aa w0 W->W.cell? ⟨w.heap.size,1,none⟩=some (.int .i64 p.degree):=ab (by rw[ar];simp)
 have ii:∀W,aa w0 W->W.cell? ⟨w.heap.size,2,none⟩=some (.slice P0 p.nodes.length eP):=ab (by rw[ar];simp)
 have mL:∀W,aa w0 W->W.cell? ⟨w.heap.size,3,none⟩=some (.slice P1 p.ac3.length eB):=ab (by rw[ar];simp)
 have bQ:=zh bG;have cS:=zh ar;clear bG ar;have yf:=zh (show ∀X,aa w0 X->a_ X (.slice P0 p.nodes.length eP) p.nodes from fun X hX=>(HP.out.ac2 hX).1)
 have Ek:=zh (show ∀X,aa w0 X->a_ X (.slice P1 p.ac3.length eB) p.ac3 from fun X hX=>(HP.out.ac2 hX).2)
 go_enter Tryz.func50,Tryz.ntmps50
 go_upto_region 1 with(fail);rw[<- cS.out];refine bD 25 (aa w0) (ad _) ?_;simp only[zT]
 iterate 2 (refine bF rfl ?_;simp only[zA])
 refine cH ?_ rfl ?_ ?_;rotate_left;(intro W hW;unfold ba;go_simp;(with_reducible refine(zW _ _ _ W).mono ?_);rintro e W' ⟨rfl,aG⟩;first | (refine⟨?_,aa.trans hW aG⟩;with_reducible rfl) | (subst aG;refine⟨?_,hW⟩;with_reducible rfl))
 simp only[zA]
 refine bF rfl ?_;simp only[zA]
 iterate 2 (refine gT rfl rfl ?_;simp only[zA])
 refine bv (v:=?_) rfl rfl ?_ ?_;rotate_left;(intro hb;intro W hW;unfold ba;go_simp;(with_reducible refine(zW _ _ _ W).mono ?_);rintro e W' ⟨rfl,aG⟩;first | (refine⟨?_,aa.trans hW aG⟩;with_reducible rfl) | (subst aG;refine⟨?_,hW⟩;with_reducible rfl))
 simp only[zA]
 (first | refine eF rfl rfl ?_ | (refine bF rfl ?_));simp only[zA]
 refine bF rfl ?_;simp only[zA]
 iterate 6 (refine gT rfl rfl ?_;simp only[zA])
 refine bv (v:=?_) rfl rfl ?_ ?_;rotate_left;(intro hb;intro W hW;unfold ba;go_simp;(with_reducible refine(tA _ p.nodes p.degree p.labels W (yf.out W hW) (aL.1 (aaw hb)) (aL.1 (Iq hb))).mono ?_);rintro e W' ⟨rfl,aG⟩;first | (refine⟨?_,aa.trans hW aG⟩;with_reducible rfl) | (subst aG;refine⟨?_,hW⟩;with_reducible rfl))
 simp only[zA]
 (first | refine eF rfl rfl ?_ | (refine bF rfl ?_));simp only[zA]
 refine bF rfl ?_;simp only[zA]
 iterate 4 (refine gT rfl rfl ?_;simp only[zA])
 refine bv (v:=?_) rfl rfl ?_ ?_;rotate_left;(intro hb;intro W hW;unfold ba;go_simp;(with_reducible refine(tA _ p.ac3 2 p.labels W (Ek.out W hW) ⟨by omega,by omega⟩ (aL.1 (Iq (Iq hb)))).mono ?_);rintro e W' ⟨rfl,aG⟩;first | (refine⟨?_,aa.trans hW aG⟩;with_reducible rfl) | (subst aG;refine⟨?_,hW⟩;with_reducible rfl))
 simp only[zA]
 (first | refine eF rfl rfl ?_ | (refine bF rfl ?_));simp only[zA]
 refine bF rfl ?_;simp only[zA]
 intro W5 ke;have qw:=zh (aa.after bQ.out ke);clear ke;have hr:=zh (F7 p);go_wp2;go_ret;exact⟨ce hr.out.symm,qw.out⟩
theorem mI.at_ {lP l:List Int} {i k:Nat} (h:mI lP l i k):k<=i/\i<l.length/\l.length=lP.length:=by
 obtain⟨h1,h2,h3⟩:=NS h;exact⟨h2,h3,h1⟩
theorem kv (v:Value) (xs:List Int) (w:World) (h:bO w v xs) (hl:xs.length<=1000000):
  Calls Tryz.prog 121 #[v] w fun e w'=>∃u,e=.returned u/\Own w' w.heap.size u (du xs)/\Below w.heap.size w w':=by
 have H:=zh h;obtain⟨A,c,rfl,f_,hm,hA⟩:=h;have dJ:∀l:List Int,l.Perm xs->l.length=xs.length:=fun l hp=>hp.length_eq
 have Hok:=zh dJ;clear hA dJ
 go_enter Tryz.func121,Tryz.ntmps121
 go_upto_region 2 with(go_at_call 101;refine(pu _ xs _ H.out (by omega)).mono ?_;rintro e w1 ⟨u1,rfl,ij,aX⟩)
 rcases ij.cases with⟨rfl,h0⟩ | ⟨g,cg,rfl,FV,Ec⟩
 ·have NY:=zh ij;have fE:=zh aX
  have qz:xs.length=0:=by rw[h0];rfl
  have Hs:Hid (du xs=[]):=by show _=_;rw[h0];exact List.mergeSort_nil
  have H0:=zh h0;clear ij aX h0;go_wp2
  go_loopw [11] (fun i wr=>i=.int .i64 0/\wr=w1) (fun _ _=>0)
  case atStart=>exact⟨rfl,rfl⟩
  case round=>
   obtain⟨rfl,rfl⟩:=hrel;go_wp2;go_ret
   exact⟨_,rfl,by rw[Hs.out];exact iP _ _,fE.out⟩
 ·have NY:=zh ij;have fE:=zh aX;clear ij aX;go_wp2
  go_loopw [11] (fun i wr=>∃(k:Nat) (l:List Int),k<=xs.length/\i=.int .i64 k/\rx xs l k/\Own wr w.heap.size (.slice (some ⟨g,0,none⟩) xs.length cg) l/\Below w.heap.size w wr) (fun i _=>xs.length-(intOf i).toNat)
  case atStart=>exact⟨0,xs,Nat.zero_le _,rfl,⟨by simp,List.Perm.refl _⟩,NY.out,fE.out⟩
  case round=>
   obtain⟨i,l,hi,rfl,ct,ho,hb⟩:=hrel;have jP:=zh ct;have Ho:=zh ho;have Hb:=zh hb;clear ct ho hb
   by_cases aH:i<xs.length
   ·go_upto_region 6 with(fail)
    go_loopw [5] (fun p wr=>∃(k:Nat) (l:List Int),k<=i/\p=.int .i64 k/\mI xs l i k/\Own wr w.heap.size (.slice (some ⟨g,0,none⟩) xs.length cg) l/\Below w.heap.size w wr) (fun p _=>(intOf p).toNat)
    case atStart=>exact⟨i,l,Nat.le_refl _,rfl,Ij jP.out (by rw[Hok.out l jP.out.2];exact aH),Ho.out,Hb.out⟩
    case round=>
     obtain⟨k,l,hk,rfl,dH,ho,hb⟩:=hrel;have kp:=zh dH;have Ho:=zh ho;have Hb:=zh hb;have t_:=(mI.at_ dH).2.2;have RA:Hid (l.length=xs.length):=t_;obtain⟨x,hx⟩:=ay l k (by omega);have Hx:=zh hx;have k1:=ab (ho.cell hx);have fx:=ho.free k;clear dH ho hb hx t_;rcases Nat.eq_zero_or_pos k with h0 | h0
     ·subst h0;go_upto_region 6 with(fail);refine am 14 (aa wr) (by kernel_rfl) (by kernel_rfl) (by simp) (ag (ad _)) ?_;simp only[zT]
      iterate 3 (refine bF rfl ?_;simp only[zA])
      iterate 10 (refine mg rfl rfl (by simp[*]) ?_;simp only[zA])
      (first | refine eF rfl rfl ?_ | (refine bF rfl ?_));simp only[zA]
      intro W5 ke;have qw:=zh (Hb.out.trans (ke.mono Hb.out.size));have Cj:=zh (Ho.out.ac2 ke);clear ke k1 fx;go_wp2;go_roundw
      case rel=>exact⟨i+1,l,by omega,by go_num,Cg kp.out (.inl rfl),Cj.out,qw.out⟩
      case measure=>simp[intOf];omega
     ·obtain⟨m,rfl⟩:∃m,k=m+1:=⟨k-1,by omega⟩
      obtain⟨y,hy⟩:=ay l m (by have:=RA.out;omega)
      have Hy:=zh hy;have k2:=ab (Ho.out.cell hy);have fy:=Ho.out.free m;clear hy;have wm:IntKind.i64.wrap (m:Int)=(m:Int):=aE _ (by omega) (by omega)
      have wm1:IntKind.i64.wrap (((m+1:Nat):Int)-1)=(m:Int):=by rw[aE _ (by omega) (by omega)];omega
      have vN:(m:Int)<xs.length:=by omega
      have fq:(m:Int)+1<xs.length:=by omega
      have fF:(0:Int)<=(m:Int)+1:=by omega
      have hm4:(0:Int)<(m:Int)+1:=by omega
      go_upto_region 6 with(fail);refine am 14 (aa wr) (by kernel_rfl) (by kernel_rfl) (by simp) (ag (ad _)) ?_;simp only[zT]
      iterate 3 (refine bF rfl ?_;simp only[zA])
      iterate 10 (refine gT rfl rfl ?_;simp only[zA])
      (first | refine eF rfl rfl ?_ | (refine bF rfl ?_));simp only[zA]
      intro W5 ke;have Cj:=zh (Ho.out.ac2 ke);have Qi:=zh (Hb.out.trans (ke.mono Hb.out.size));clear fx fy k1 k2;have k1:=Cj.out.cell Hx.out;have k2:=Cj.out.cell Hy.out;have fx:=Cj.out.free (m+1);have fy:=Cj.out.free m;clear ke
      by_cases M8:y>x
      ·have hd:decide (x<y)=true:=by simpa using M8
       have kq:decide (y>x)=true:=hd;have HN:=zh ((Cj.out.set (k:=m+1) y).set (k:=m) x);have HBN:=zh ((Qi.out.setCell (p:=⟨g,m+1,none⟩) FV (.int .i64 y)).setCell (p:=⟨g,m,none⟩) FV (.int .i64 x));go_wp2;go_roundw
       case rel=>exact⟨m,_,by omega,by go_num,J5 kp.out Hy.out Hx.out M8,HN.out,HBN.out⟩
       case measure=>simp[intOf]
       rename_i hh
       rcases hh with hh | hh
       ·cases hh
       ·omega
      ·have hd:decide (x<y)=false:=by simpa using M8
       have kq:decide (y>x)=false:=hd;go_wp2;go_roundw
       case rel=>exact⟨i+1,l,by omega,by go_num,Cg kp.out (.inr ⟨y,x,Hy.out,Hx.out,by omega⟩),Cj.out,Qi.out⟩
       case measure=>simp[intOf];omega
   ·obtain rfl:i=xs.length:=by omega
    have Hs:Hid (l=du xs):=Eh (by rw[Hok.out l jP.out.2];exact jP.out)
    go_wp2;go_ret
    exact⟨_,rfl,by rw[<- Hs.out];exact Ho.out,Hb.out⟩
def bl (n:Nat):Nat:=if n=0 then 0 else bl (n/2)+1
theorem El (a b:Int) (w:World):Calls Tryz.prog 66 #[.int .i64 a,.int .i64 b] w fun e w'=>e=.returned (.int .i64 (max a b))/\w=w':=by
 by_cases h:b<a
 ·have hm:max a b=a:=by omega
  rw[hm]
  go_enter Tryz.func66,Tryz.ntmps66
  go_wp2;go_ret;exact⟨rfl,rfl⟩
 ·have hm:max a b=b:=by omega
  rw[hm]
  go_enter Tryz.func66,Tryz.ntmps66
  go_wp2;go_ret;exact⟨rfl,rfl⟩
section
variable {P : Program} {ops : Array Oper}
def Nd (V:Nat->Value) (i:Nat) (u:Value):Nat->Value:=fun j=>if j=i then u else V j
theorem vT (V:Nat->Value) {i j:Nat} (u:Value) (h:j≠i):Nd V i u j=V j:=if_neg h
theorem fm (V:Nat->Value) (i:Nat) (u:Value):Nd V i u i=u:=if_pos rfl
def tC (P:Program) (o:Oper) (A:Act) (W:World) (post:Value->World->Prop):Prop:=
 match (execOp A.eval o).run P W with
 | .ok (.value u) W'=>post u W'
 | .ok (.enter f args) W'=>Calls P f args W' fun e kM=>∃u,e=.returned u/\post u kM
 | _=>False
theorem iG {o:Oper} {A:Act} {W W':World} {u:Value} {post:Value->World->Prop} (h:(execOp A.eval o).run P W=.ok (.value u) W') (hp:post u W'):tC P o A W post:=by
 unfold tC;rw[h];exact hp
theorem zX {Q:Exit->Act->World->Prop} {Ei:Nat} {a:Act} {w w0:World} (k:Nat) (R:Nat->(Nat->Value)->World->Prop) (hR:∀j V W W',R j V W->aa W W'->R j V W')
  (RM:∀j V V' W,V j=V' j->(∀o,ops[j]?=some o->∀d∈bU o,V d=V' d)->R j V W->R j V' W) (hm:P.follows .mixedOrders=true) (hf:ra ops k=true) (xR:decide (k<=ops.size)=true) (bu:aa w0 w)
  (gz:∀i o,i<k->ops[i]?=some o->∀V W,aa w0 W->(∀d∈bU o,R d V W)->Region.wanted o (yielded ops (aM ops (List.range k) V a).tmps)=true/\tC P o (aM ops (List.range k) V a) W (fun u W'=>aa W W'/\R i (Nd V i u) W'))
  (yd:∀V W,aa w0 W->(∀j,j<k->R j V W)->wpList P ops Q (ops.toList.drop k) (aM ops (List.range k) V a) W):(Code.region Ei ops true).wp P Q a w:=by
 have dJ:=ph hf;have xR:=of_decide_eq_true xR
 have frame:∀V,aN a ops V (fun j=>j<k) (aM ops (List.range k) V a):=fun V=>by
  have:=ku (a:=a) dJ.adk xR V (List.range k) (fun _=>False) a (fun _ h=>h.elim) (fun j hj=>⟨List.mem_range.1 hj,id⟩) List.nodup_range (aN.start a V)
  exact this.same (fun j=>by simp)
 let J:(Nat->Prop)->Act->World->Prop:=fun D a' W=>
  (aa w0 W/\(∀j,D j->j<k)/\∃V,aN a ops V D a'/\∀j,D j->R j V W) \/
  (∃m,k<=m/\m<=ops.size/\(∀j,j<ops.size->(D j↔j<m))/\wpList P ops Q (ops.toList.drop m) a' W)
 have rB:∀D a' W,J D a' W->(∀j,j<k->D j)->∃m,k<=m/\m<=ops.size/\(∀j,j<ops.size->(D j↔j<m))/\wpList P ops Q (ops.toList.drop m) a' W:=by
  intro D a' W hJ hD;rcases hJ with⟨hW,kt,V,ip,hV⟩ | hJ
  ·have e:a'=aM ops (List.range k) V a:=ip.ext (frame V) (fun j _=>⟨kt j,hD j⟩)
   subst e;exact⟨k,Nat.le_refl _,xR,fun j _=>⟨kt j,hD j⟩,yd V W hW (fun j hj=>hV j (hD j hj))⟩
  ·exact hJ
 refine gB hm dJ.back J (.inl ⟨ag bu,fun j hj=>hj.elim,fun _=>undef,aN.start a _,fun j hj=>hj.elim⟩) ?_ ?_
 ·intro D a' W i o hJ ho mz io qs;have dH:i<ops.size:=(Array.getElem?_eq_some_iff.1 ho).1
  by_cases g7:i<k
  ·rcases hJ with⟨hW,kt,V,ip,hV⟩ | ⟨m,h1,h2,h3,_⟩
   rotate_left
   ·exact absurd ((h3 i dH).2 (by omega)) mz
   obtain⟨hw,ct⟩:=gz i o g7 ho V W hW (fun d hd=>hV d (io d hd))
   obtain⟨he,sP⟩:=eW (ops:=ops) (a':=a') (A:=aM ops (List.range k) V a) (fun t ht=>ip.agree (frame V) t (fun j oj hj fW hd=>by
    have lJ:j<k:=hj.elim (fun h=>kt j h) id
    exact⟨io j (dJ.looks i o g7 ho t ht j oj lJ fW hd),lJ⟩)) (fun cs b=>dJ.adi i o cs b ho)
   have next:∀u W',aa W W'->R i (Nd V i u) W'->J (fun j=>D j\/j=i) (a'.put o.dst u) W':=by
    intro u W' hS hRi;refine .inl ⟨hW.after hS,fun j hj=>hj.elim (kt j) (fun e=>by omega),Nd V i u,?_,fun j hj=>?_⟩
    ·have:=(ip.adf (v':=Nd V i u) (fun j _ hj=>(vT V u (fun e=>by subst e;exact mz hj)).symm)).put (i:=i) ho (fun j oj d hj fW hd kq=>by
      have:=dJ.adk i o g7 ho j oj (kt j hj) fW d hd kq
      subst this
      exact mz hj)
     rwa [fm]at this
    ·rcases hj with hj | rfl
     ·have nV:j≠i:=fun e=>by subst e;exact mz hj
      exact RM j V _ W' (vT V u nV).symm (fun oj fW d hd=>(vT V u (fun e=>by subst e;exact mz (qs j oj hj fW d hd))).symm) (hR j V W W' (hV j hj) hS)
     ·exact hRi
   rw[if_pos (sP.trans hw)];refine .inl ?_;unfold Oper.wp;rw[he];unfold tC at ct
   generalize (execOp (aM ops (List.range k) V a).eval o).run P W=r at ct ⊢
   cases r with
   | ok nx W'=>
    cases nx with
    | value u=>exact next u W' ct.1 ct.2
    | enter f args=>
     simp only[Oper.upon]
     exact Calls.mono ct fun e kM ⟨u,x6,h3,h4⟩=>by subst x6;exact next u kM h3 h4
    | _=>exact ct.elim
   | halt x W'=>exact ct.elim
  ·have bH:∀j,j<i->D j:=fun j hj=>fg qs ho io (dJ.tail i (by omega) dH j hj)
   obtain⟨m,h1,h2,h3,h4⟩:=rB D a' W hJ (fun j hj=>bH j (by omega))
   have NU:m=i:=by
    by_cases e1:i<m
    ·exact absurd ((h3 i dH).2 e1) mz
    ·by_cases e2:m<i
     ·have:=(h3 m (by omega)).1 (bH m e2);omega
     ·omega
   subst NU
   have Jn:ops.toList.drop m=o::ops.toList.drop (m+1):=by
    have:m<ops.toList.length:=by simpa using dH
    rw[List.drop_eq_getElem_cons this];congr 1
    have:=(Array.getElem?_eq_some_iff.1 ho).2
    simpa using this
   rw[Jn]at h4;unfold wpList at h4
   have next:∀a W,wpList P ops Q (ops.toList.drop (m+1)) a W->J (fun j=>D j\/j=m) a W:=fun a W h=>.inr ⟨m+1,by omega,by omega,fun j hj=>by
    constructor
    ·rintro(h | rfl)
     ·have:=(h3 j hj).1 h;omega
     ·omega
    ·intro h
     by_cases e:j=m
     ·exact .inr e
     ·exact .inl ((h3 j hj).2 (by omega)),h⟩
   split
   ·rename_i hw
    rw[if_pos hw]at h4;exact h4.imp (Oper.wp_mono next) id
   ·rename_i hw
    rw[if_neg hw]at h4;exact next _ _ h4
 ·intro D a' W hJ bH;obtain⟨m,h1,h2,h3,h4⟩:=rB D a' W hJ (fun j hj=>bH j (by omega))
  have RG:m=ops.size:=by
   by_cases e:m<ops.size
   ·have:=(h3 m e).1 (bH m e);omega
   ·omega
  subst RG;rw[List.drop_eq_nil_of_le (by simp)]at h4;exact h4
def RL (l:List ((Nat->Value)->World->Prop)):Nat->(Nat->Value)->World->Prop:=fun j V W=>match l[j]? with | some r=>r V W | none=>True
theorem yg {Q:Exit->Act->World->Prop} {Ei:Nat} {a:Act} {w w0:World} (L:List ((Nat->Value)->World->Prop)) (hR:∀r∈L,∀V W W',r V W->aa W W'->r V W')
  (RM:∀(j:Nat) r,L[j]?=some r->∀V V' W,V j=V' j->(∀o,ops[j]?=some o->∀d∈bU o,V d=V' d)->r V W->r V' W) (k:Nat) (hm:P.follows .mixedOrders=true) (hf:ra ops k=true) (xR:decide (k<=ops.size)=true) (bu:aa w0 w)
  (gz:∀i o,i<k->ops[i]?=some o->∀V W,aa w0 W->(∀d∈bU o,RL L d V W)->Region.wanted o (yielded ops (aM ops (List.range k) V a).tmps)=true/\tC P o (aM ops (List.range k) V a) W (fun u W'=>aa W W'/\RL L i (Nd V i u) W'))
  (yd:∀V W,aa w0 W->(∀j,j<k->RL L j V W)->wpList P ops Q (ops.toList.drop k) (aM ops (List.range k) V a) W):(Code.region Ei ops true).wp P Q a w:=by
 refine zX k (RL L) (fun j V W W' h hs=>?_) (fun j V V' W h1 h2 h=>?_) hm hf xR bu gz yd
 ·unfold RL at h ⊢
  cases hj:L[j]? with
  | none=>trivial
  | some r=>rw[hj]at h;exact hR r (List.mem_of_getElem? hj) V W W' h hs
 ·unfold RL at h ⊢
  cases hj:L[j]? with
  | none=>trivial
  | some r=>rw[hj]at h;exact RM j r hj V V' W h1 h2 h
end
theorem Wm {l:List (List Int)} {t x:List Int} {q i:Nat} (hs:dR l) (hx:l[q]?=some x) (h:ed x t<0) (_:i<=q):∀(k:Nat) (y:List Int),k<q+1->l[k]?=some y->ed y t<0:=by
 intro k y hk hy;rcases Nat.lt_or_ge k q with h1 | h1
 ·exact lN (hs k q y x h1 hy hx) h
 ·obtain rfl:k=q:=by omega
  rw[hx]at hy;cases hy;exact h
theorem Wn {l:List (List Int)} {t x:List Int} {q:Nat} (hs:dR l) (hx:l[q]?=some x) (h:0<=ed x t):∀(k:Nat) (y:List Int),q<=k->l[k]?=some y->0<=ed y t:=by
 intro k y hk hy;refine Int.not_lt.1 fun hn=>?_
 replace h:=Int.not_lt.2 h
 rcases Nat.lt_or_ge q k with h1 | h1
 ·exact h (lN (hs q k x y h1 hx hy) hn)
 ·obtain rfl:k=q:=by omega
  rw[hx]at hy;cases hy;exact h hn
theorem Kc {a b:Int} {c d:Bool} (h1:a=b) (h2:c=d):Ending.returned (.tuple #[.int .i64 a,.bool c])=.returned (.tuple #[.int .i64 b,.bool d]):=by rw[h1,h2]
theorem zY (a b:Int) (w:World):Calls Tryz.prog 159 #[.int .i64 a,.int .i64 b] w fun e w'=>e=.returned (.int .i64 (min a b))/\w=w':=by
 by_cases h:a<b
 ·have hm:min a b=a:=by omega
  rw[hm]
  go_enter Tryz.func159,Tryz.ntmps159
  go_wp2;go_ret;exact⟨rfl,rfl⟩
 ·have hm:min a b=b:=by omega
  rw[hm]
  go_enter Tryz.func159,Tryz.ntmps159
  go_wp2;go_ret;exact⟨rfl,rfl⟩
theorem vU:∀args w,(callFunc 133 args).run Tryz.prog w=.ok (.enter 133 args) w:=enters_of Tryz.func133 (by kernel_rfl) rfl
theorem Ck (v u:Value) (l:List (List Int)) (t:List Int) (w:World) (h:a_ w v l) (h':bO w u t) (hs:dR l) (sS:l.length<=1048576):
  Calls Tryz.prog 181 #[v,u,.func (.func 133) #[] #[]] w fun e w'=>∃i:Int,e=.returned (.tuple #[.int .i64 i,.bool (l.contains t)])/\Below w.heap.size w w':=by
 have H:=zh h;have H2:=zh h';have Hs:=zh hs;obtain⟨A,c,rfl,f_,hm,-⟩:=h;obtain⟨A2,c2,rfl,Ib,fq,-⟩:=h';unfold maxLen at hm fq;have hm4:l.length<4611686018427387904:=by omega
 have eg:=vU;clear hs
 go_enter Tryz.func181,Tryz.ntmps181
 go_wp2
 go_loopw [9,10] (fun a b wr=>∃i j:Nat,i<=j/\j<=l.length/\a=.int .i64 i/\b=.int .i64 j/\((∀(k:Nat) (x:List Int),k<i->l[k]?=some x->ed x t<0)/\(∀(k:Nat) (x:List Int),j<=k->l[k]?=some x->0<=ed x t))/\Below w.heap.size w wr) (fun a b _=>(intOf b).toNat-(intOf a).toNat)
 case atStart=>exact⟨0,l.length,Nat.zero_le _,Nat.le_refl _,rfl,rfl,⟨fun k x hk=>by omega,fun k x hk hx=>by have:=al hx;omega⟩,Below.refl _ _⟩
 case round=>
  obtain⟨i,j,NJ,hj,rfl,rfl,hI,hb⟩:=hrel;have HI:=zh hI;have Hb:=zh hb;clear hI hb
  by_cases aH:i<j
  ·have hq:(i+j)/2<l.length:=by omega
   obtain⟨x,b,off,A1,z,hx,rfl,dG,dP,eO,j6⟩:=dT H.out (k:=(i+j)/2) hq;have hc:=bc Hb.out dG;have Hx:=zh hx;have HX:=zh (j6.ac2 Hb.out);have HT:=zh (H2.out.ac2 Hb.out);obtain⟨cv,Cd⟩:∃cv,ed x t=cv:=⟨_,rfl⟩
   have vM:=zh Cd;clear hx j6 dG Cd
   by_cases lO:cv<0
   ·go_wp2_with fail;refine(fl _ _ x t _ HX.out HT.out).mono ?_;rw[vM.out];rintro e w1 ⟨rfl,aX⟩;have N_:=zh (Hb.out.trans (aX.mono Hb.out.size));clear aX;go_wp2;go_roundw
    case rel=>exact⟨(i+j)/2+1,j,by omega,hj,by go_num,rfl,⟨Wm Hs.out Hx.out (by rw[vM.out];exact lO) (Nat.le_refl _),HI.out.2⟩,N_.out⟩
    case measure=>simp[intOf];omega
   ·go_wp2_with fail;refine(fl _ _ x t _ HX.out HT.out).mono ?_;rw[vM.out];rintro e w1 ⟨rfl,aX⟩;have N_:=zh (Hb.out.trans (aX.mono Hb.out.size));clear aX;go_wp2;go_roundw
    case rel=>exact⟨i,(i+j)/2,by omega,by omega,rfl,by go_num,⟨HI.out.1,Wn Hs.out Hx.out (by rw[vM.out];omega)⟩,N_.out⟩
    case measure=>simp[intOf];omega
  ·obtain rfl:i=j:=by omega
   obtain⟨r,hr⟩:∃r,l.contains t=r:=⟨_,rfl⟩
   have Hr:=zh hr;clear hr;have hf:=zh (JS Hs.out HI.out.1 (fun k x h1 h2=>Int.not_lt.2 (HI.out.2 k x h1 h2)))
   by_cases dH:i<l.length
   ·obtain⟨x,b,off,A1,z,hx,rfl,dG,dP,eO,j6⟩:=dT H.out dH;have hc:=bc Hb.out dG
    have Hf:Hid ((ed x t==0)=l.contains t):=by have:=hf.out;rw[hx]at this;exact this
    have HX:=zh (j6.ac2 Hb.out);have HT:=zh (H2.out.ac2 Hb.out);obtain⟨cv,Cd⟩:∃cv,ed x t=cv:=⟨_,rfl⟩
    have vM:=zh Cd;clear hx j6 dG Cd hf;go_wp2_with fail;refine(fl _ _ x t _ HX.out HT.out).mono ?_;rw[vM.out];rintro e w1 ⟨rfl,aX⟩;have N_:=zh (Hb.out.trans (aX.mono Hb.out.size));clear aX;go_wp2
    go_ret2
    exact⟨(i:Int),Kc rfl (by rw[<- Hf.out,vM.out]),N_.out⟩
   ·have Hf:Hid (false=l.contains t):=by have:=hf.out;rw[List.getElem?_eq_none (by omega)]at this;exact this
    clear hf;go_wp2
    go_ret2
    exact⟨(i:Int),Kc rfl (by rw[<- Hf.out]),Hb.out⟩
theorem vV (v u:Value) (l:List (List Int)) (xs:List Int) (w:World) (h:a_ w v l) (h':bO w u xs) (hs:dR l) (sS:l.length<=1048576) (hl:xs.length<=1000):
  Calls Tryz.prog 143 #[v,u] w fun e w'=>e=.returned (.bool (l.contains (du xs)))/\Below w.heap.size w w':=by
 have H:=zh h;have H2:=zh h';have Hs:=zh hs;obtain⟨A2,c2,rfl,Ib,fq,-⟩:=h';clear h hs
 go_enter Tryz.func143,Tryz.ntmps143
 go_wp2_with (go_at_call 183;refine(callsIn_wide.1 (Ig 1 _ _ _ _)).mono ?_;rintro e w1 ⟨rfl,kT⟩;have Jo:=zh kT;clear kT)
 have aX:Below w.heap.size w w1:=by rw[Jo.out];exact ao _ _
 have dG:w1.cell? ⟨w.heap.size,0,none⟩=some (.slice A2 xs.length c2):=by rw[Jo.out];simp
 have fE:=zh aX;have Nf:=zh dG;clear aX dG Jo;go_wp2_with fail;refine(callsIn_wide.1 (Ii 5 (by omega) w.heap.size _ xs _ Nf.out (H2.out.ac2 fE.out) hl)).mono ?_;rintro e w2 ⟨s,rfl,ho,bJ⟩;have kP:=zh (fE.out.trans (bJ.mono fE.out.size));have Ho:=zh ho.ints;clear bJ ho;go_wp2_with fail;obtain⟨r,hr⟩:∃r,l.contains (du xs)=r:=⟨_,rfl⟩
 have Hr:=zh hr;clear hr;refine(Ck v s l (du xs) _ (H.out.ac2 kP.out) Ho.out Hs.out sS).mono ?_;rw[Hr.out];rintro e w3 ⟨i,rfl,aG⟩;have pP:=zh (kP.out.trans (aG.mono kP.out.size));clear aG;go_wp2;go_ret;exact⟨ce Hr.out.symm,pP.out⟩
theorem Ir {w:World} {b:Nat} {x y:Int} (h0:w.cell? ⟨b,0,none⟩=some (.int .i64 x)) (h1:w.cell? ⟨b,1,none⟩=some (.int .i64 y)):bO w (.slice (some ⟨b,0,none⟩) 2 2) [x,y]:=by
 refine⟨_,2,rfl,Nat.le_refl _,by unfold maxLen;omega,fun k z hk=>⟨b,0,rfl,?_⟩⟩
 match k,hk with
 | 0,hk=>simp at hk;subst hk;exact h0
 | 1,hk=>simp at hk;subst hk;exact h1
 | k+2,hk=>simp at hk
theorem y7 (W:World) (x y:Int):bO (W.alloc (.cells #[.int .i64 x,.int .i64 y] 3)) (.slice (some ⟨W.heap.size,0,none⟩) 2 2) [x,y]:=Ir (by simp) (by simp)
theorem rH (pa pb:Value) (p:az) (a b:Int) (w:World) (h:di w pa pb p) (hs:dR p.ac3) (sS:p.ac3.length<=1048576):
  Calls Tryz.prog 94 #[.agg #[.int .i64 p.labels,.int .i64 p.degree,pa,pb],.int .i64 a,.int .i64 b] w fun e w'=>e=.returned (.bool (edgeB p a b))/\Below w.heap.size w w':=by
 obtain⟨w0,ar⟩:∃w0,w0=(w).alloc (.cells #[.int .i64 p.labels,.int .i64 p.degree,pa,pb] 26):=⟨_,rfl⟩
 have bG:Below w.heap.size w w0:=by rw[ar];exact((Below.refl _ _).alloc (by simp) _)
 have cZ:=h.ac2 bG;have HP:=zh cZ;obtain⟨P0,eP,rfl,ji,dX,bZ⟩:=id cZ.1;unfold maxLen at dX;have jj:=zh bZ;clear bZ;obtain⟨P1,eB,rfl,jk,dY,b_⟩:=id cZ.2;unfold maxLen at dY;have jl:=zh b_;clear b_;clear cZ h
 have gP:∀W,aa w0 W->W.cell? ⟨w.heap.size,0,none⟩=some (.int .i64 p.labels):=ab (by rw[ar];simp)
 have ig:∀W,aa w0 W->W.cell? ⟨w.heap.size,1,none⟩=some (.int .i64 p.degree):=ab (by rw[ar];simp)
 have ii:∀W,aa w0 W->W.cell? ⟨w.heap.size,2,none⟩=some (.slice P0 p.nodes.length eP):=ab (by rw[ar];simp)
 have mL:∀W,aa w0 W->W.cell? ⟨w.heap.size,3,none⟩=some (.slice P1 p.ac3.length eB):=ab (by rw[ar];simp)
 have bQ:=zh bG;have cS:=zh ar;clear bG ar;have Hs:=zh hs;clear hs;have Ek:=zh (show ∀X,aa w0 X->a_ X (.slice P1 p.ac3.length eB) p.ac3 from fun X hX=>(HP.out.ac2 hX).2)
 go_enter Tryz.func94,Tryz.ntmps94
 go_upto_region 1 with(fail);rw[<- cS.out];have bu:aa w0 w0:=ad _;go_wp2_with fail;refine(vV _ _ p.ac3 [a,b] _ (Ek.out _ (ae _ bu)) (y7 w0 a b) Hs.out sS (by simp)).mono ?_;rw[H9];obtain⟨r,hr⟩:∃r,edgeB p a b=r:=⟨_,rfl⟩
 have Hr:=zh hr;clear hr;rw[show p.ac3.contains [min a b,max a b]=r from Hr.out]
 rintro e w1 ⟨rfl,aX⟩;have HS:=zh (aa.trans (ae (.cells #[.int .i64 a,.int .i64 b] 3) bu) aX);clear aX bu;go_wp2;go_ret;exact⟨ce Hr.out.symm,aa.after bQ.out HS.out⟩
theorem Em (pa pb:Value) (p:az) (a b:Int) (w:World) (h:di w pa pb p) (_:dR p.ac3) (_:p.ac3.length<=1048576):
  Calls Tryz.prog 142 #[.agg #[.int .i64 p.labels,.int .i64 p.degree,pa,pb],.int .i64 a,.int .i64 b] w fun e w'=>e=.returned (.bool (edgeB p a b))/\Below w.heap.size w w':=by
 obtain⟨w0,ar⟩:∃w0,w0=(w).alloc (.cells #[.int .i64 p.labels,.int .i64 p.degree,pa,pb] 26):=⟨_,rfl⟩
 have bG:Below w.heap.size w w0:=by rw[ar];exact((Below.refl _ _).alloc (by simp) _)
 have cZ:=h.ac2 bG;have HP:=zh cZ;obtain⟨P0,eP,rfl,ji,dX,bZ⟩:=id cZ.1;unfold maxLen at dX;have jj:=zh bZ;clear bZ;obtain⟨P1,eB,rfl,jk,dY,b_⟩:=id cZ.2;unfold maxLen at dY;have jl:=zh b_;clear b_;clear cZ h
 have gP:∀W,aa w0 W->W.cell? ⟨w.heap.size,0,none⟩=some (.int .i64 p.labels):=ab (by rw[ar];simp)
 have ig:∀W,aa w0 W->W.cell? ⟨w.heap.size,1,none⟩=some (.int .i64 p.degree):=ab (by rw[ar];simp)
 have ii:∀W,aa w0 W->W.cell? ⟨w.heap.size,2,none⟩=some (.slice P0 p.nodes.length eP):=ab (by rw[ar];simp)
 have mL:∀W,aa w0 W->W.cell? ⟨w.heap.size,3,none⟩=some (.slice P1 p.ac3.length eB):=ab (by rw[ar];simp)
 have bQ:=zh bG;have cS:=zh ar;clear bG ar;have Ek:=zh (show ∀X,aa w0 X->a_ X (.slice P1 p.ac3.length eB) p.ac3 from fun X hX=>(HP.out.ac2 hX).2)
 go_enter Tryz.func142,Tryz.ntmps142
 go_upto_region 1 with(fail);rw[<- cS.out];refine yg (w0:=w0) [fun V W=>V 0=.pointer (some ⟨w.heap.size,3,none⟩),fun V W=>V 1=.slice P1 p.ac3.length eB,fun V W=>V 2=.int .i64 a,fun V W=>V 3=.int .i64 b,fun V W=>V 4=.int .i64 (min a b),fun V W=>V 5=.int .i64 a,fun V W=>V 6=.int .i64 b,fun V W=>V 7=.int .i64 (max a b),fun V W=>bO W (V 8) [min a b,max a b],fun V W=>V 9=.bool (edgeB p a b),fun V W=>V 10=.bool (edgeB p a b)] ?_ ?_ 11 (by kernel_rfl) (by kernel_rfl) (by kernel_rfl) (ad _) ?_ ?_
 ·intro r hr V W W' h hs;simp only[List.mem_cons,List.not_mem_nil,or_false]at hr;rcases hr with rfl | rfl | rfl | rfl | rfl | rfl | rfl | rfl | rfl | rfl | rfl
  ·exact h
  ·exact h
  ·exact h
  ·exact h
  ·exact(h)
  ·exact h
  ·exact h
  ·exact(h)
  ·exact(h.ac2 hs)
  ·exact(h)
  ·exact(h)
 ·intro j r hj V V' W h1 h2 h
  match j,hj with
  | 0,hj=>
   obtain rfl:=Option.some.inj hj
   have h3:V 0=.pointer (some ⟨w.heap.size,3,none⟩):=h;show V' 0=.pointer (some ⟨w.heap.size,3,none⟩)
   rw[<- h1];exact h3
  | 1,hj=>
   obtain rfl:=Option.some.inj hj
   have h3:V 1=.slice P1 p.ac3.length eB:=h;show V' 1=.slice P1 p.ac3.length eB
   rw[<- h1];exact h3
  | 2,hj=>
   obtain rfl:=Option.some.inj hj
   have h3:V 2=.int .i64 a:=h;show V' 2=.int .i64 a
   rw[<- h1];exact h3
  | 3,hj=>
   obtain rfl:=Option.some.inj hj
   have h3:V 3=.int .i64 b:=h;show V' 3=.int .i64 b
   rw[<- h1];exact h3
  | 4,hj=>
   obtain rfl:=Option.some.inj hj
   have h3:V 4=.int .i64 (min a b):=h;show V' 4=.int .i64 (min a b)
   rw[<- h1];exact h3
  | 5,hj=>
   obtain rfl:=Option.some.inj hj
   have h3:V 5=.int .i64 a:=h;show V' 5=.int .i64 a
   rw[<- h1];exact h3
  | 6,hj=>
   obtain rfl:=Option.some.inj hj
   have h3:V 6=.int .i64 b:=h;show V' 6=.int .i64 b
   rw[<- h1];exact h3
  | 7,hj=>
   obtain rfl:=Option.some.inj hj
   have h3:V 7=.int .i64 (max a b):=h;show V' 7=.int .i64 (max a b)
   rw[<- h1];exact h3
  | 8,hj=>
   obtain rfl:=Option.some.inj hj
   have h3:bO W (V 8) [min a b,max a b]:=h;show bO W (V' 8) [min a b,max a b]
   rw[<- h1];exact h3
  | 9,hj=>
   obtain rfl:=Option.some.inj hj
   have h3:V 9=.bool (edgeB p a b):=h;show V' 9=.bool (edgeB p a b)
   rw[<- h1];exact h3
  | 10,hj=>
   obtain rfl:=Option.some.inj hj
   have h3:V 10=.bool (edgeB p a b):=h;show V' 10=.bool (edgeB p a b)
   rw[<- h1];exact h3
  | j+11,hj=>simp at hj
 ·intro i o hi ho V W hW hd
  match i,ho with
  | 0,ho=>
   cases ho;clear hd hi;refine⟨rfl,?_⟩;simp only[aM,zR11,zG,zA]
   refine iG (u:=.pointer (some ⟨w.heap.size,3,none⟩)) (W':=W) (by go_simp) ⟨ad _,?_⟩;exact fm V 0 _
  | 1,ho=>
   cases ho;have e0:V 0=.pointer (some ⟨w.heap.size,3,none⟩):=hd 0 (by decide +kernel);clear hd hi;refine⟨rfl,?_⟩;simp only[aM,zR11,zG,zA]
   refine iG (u:=.slice P1 p.ac3.length eB) (W':=W) (by go_simp) ⟨ad _,?_⟩;exact fm V 1 _
  | 2,ho=>
   cases ho;clear hd hi;refine⟨rfl,?_⟩;simp only[aM,zR11,zG,zA]
   refine iG (u:=.int .i64 a) (W':=W) (by go_simp) ⟨ad _,?_⟩;exact fm V 2 _
  | 3,ho=>
   cases ho;clear hd hi;refine⟨rfl,?_⟩;simp only[aM,zR11,zG,zA]
   refine iG (u:=.int .i64 b) (W':=W) (by go_simp) ⟨ad _,?_⟩;exact fm V 3 _
  | 4,ho=>
   cases ho;have e2:V 2=.int .i64 a:=hd 2 (by decide +kernel);have e3:V 3=.int .i64 b:=hd 3 (by decide +kernel);clear hd hi;refine⟨rfl,?_⟩;simp only[aM,zR11,zG,zA]
   unfold tC
   go_simp
   (with_reducible refine(zY a b W).mono ?_)
   rintro e W1 ⟨rfl,rfl⟩;refine⟨_,rfl,ad _,?_⟩;exact fm V 4 _
  | 5,ho=>
   cases ho;clear hd hi;refine⟨rfl,?_⟩;simp only[aM,zR11,zG,zA]
   refine iG (u:=.int .i64 a) (W':=W) (by go_simp) ⟨ad _,?_⟩;exact fm V 5 _
  | 6,ho=>
   cases ho;clear hd hi;refine⟨rfl,?_⟩;simp only[aM,zR11,zG,zA]
   refine iG (u:=.int .i64 b) (W':=W) (by go_simp) ⟨ad _,?_⟩;exact fm V 6 _
  | 7,ho=>
   cases ho;have e5:V 5=.int .i64 a:=hd 5 (by decide +kernel);have e6:V 6=.int .i64 b:=hd 6 (by decide +kernel);clear hd hi;refine⟨rfl,?_⟩;simp only[aM,zR11,zG,zA]
   unfold tC
   go_simp
   (with_reducible refine(El a b W).mono ?_)
   rintro e W1 ⟨rfl,rfl⟩;refine⟨_,rfl,ad _,?_⟩;exact fm V 7 _
  | 8,ho=>
   cases ho;have e4:V 4=.int .i64 (min a b):=hd 4 (by decide +kernel);have e7:V 7=.int .i64 (max a b):=hd 7 (by decide +kernel);clear hd hi;refine⟨rfl,?_⟩;simp only[aM,zR11,zG,zA]
   refine iG (u:=.slice (some ⟨W.heap.size,0,none⟩) 2 2) (W':=W.alloc (.cells #[.int .i64 (min a b),.int .i64 (max a b)] 3)) (by rw[e4,e7];go_simp) ⟨ae _ (ad _),?_⟩
   show bO _ (Nd V 8 _ 8) _
   rw[fm];exact y7 W _ _
  | 9,ho=>
   cases ho;have e1:V 1=.slice P1 p.ac3.length eB:=hd 1 (by decide +kernel);have e8:bO W (V 8) [min a b,max a b]:=hd 8 (by decide +kernel);clear hd hi;refine⟨rfl,?_⟩;simp only[aM,zR11,zG,zA]
   unfold tC;have E8:=zh e8;clear e8
   go_simp
   (with_reducible refine(Ie _ _ p.ac3 _ W (Ek.out W hW) E8.out).mono ?_)
   rintro e W1 ⟨rfl,hb⟩;refine⟨_,rfl,hb,?_⟩;exact fm V 9 _
  | 10,ho=>
   cases ho;have e9:V 9=.bool (edgeB p a b):=hd 9 (by decide +kernel);clear hd hi;refine⟨rfl,?_⟩;simp only[aM,zR11,zG,zA]
   refine iG (u:=.bool (edgeB p a b)) (W':=W) (by rw[e9];go_simp) ⟨ad _,?_⟩
   exact fm V 10 _
  | i+11,ho=>omega
 intro V W hW hV;have e0:V 0=.pointer (some ⟨w.heap.size,3,none⟩):=hV 0 (by decide);have e1:V 1=.slice P1 p.ac3.length eB:=hV 1 (by decide);have e2:V 2=.int .i64 a:=hV 2 (by decide);have e3:V 3=.int .i64 b:=hV 3 (by decide);have e4:V 4=.int .i64 (min a b):=hV 4 (by decide);have e5:V 5=.int .i64 a:=hV 5 (by decide);have e6:V 6=.int .i64 b:=hV 6 (by decide);have e7:V 7=.int .i64 (max a b):=hV 7 (by decide);have e8:bO W (V 8) [min a b,max a b]:=hV 8 (by decide);have e9:V 9=.bool (edgeB p a b):=hV 9 (by decide);have RN:V 10=.bool (edgeB p a b):=hV 10 (by decide);clear hV;simp only[aM,zR11,zG]
 (try simp only[zA])
 simp only[List.drop_succ_cons,List.drop_zero];have HS:=zh hW;rw[RN];go_wp2;go_ret;exact⟨rfl,aa.after bQ.out HS.out⟩
end Go.Proofs.YtnioemnkfojmkaaGreat
