/- Parts of the proof: walks of functions and plain laws. -/
import Derived.Test.YtgmdpppljkmabaaGreatQ0
import Derived.Test.YtgmdpppljkmabaaGreatQ1
import Derived.Deep.AppendLies
import Derived.Deep.RegionHeld3
set_option maxRecDepth 100000
set_option maxHeartbeats 16000000
namespace Go.Proofs.YtgmdpppljkmabaaGreat
open Go Go.RowKit
theorem II:(Tryz.prog.info? 81).map (fun i=>(i.zero,i.size,i.bytes))=some (some (.slice none 0 0),1,24):=by kernel_rfl
theorem C7:(Tryz.prog.info? 83).map (fun i=>(i.zero,i.size,i.bytes))=some (some (.agg #[.int .i64 0,.int .i64 0]),2,16):=by kernel_rfl
theorem wP (z:Value) (n:Nat):madeCells #[z] (n*1)=Array.replicate n z:=by
 apply Array.ext'
 rw[toList_madeCells_one];simp
theorem C8 (n:Nat) (hn:n<=1000000) (W:World):(Instr.makeSlice 24 (.int .i64 (n:Int)) (.int .i64 (n:Int))).run Tryz.prog W=.ok (.slice (some ⟨W.heap.size,0,none⟩) n n) (W.alloc (.cells (Array.replicate n (Value.slice none 0 0)) 81)):=by
 obtain⟨i0,hi,il,dV,d8⟩:=info_parts II
 have hr:=run_make (P:=Tryz.prog) W 24 81 i0 (.slice none 0 0) Tryz.underlying24 hi il .i64 .i64 n n (by omega) (Int.le_refl _) (by rw[d8];omega) (by omega)
 rw[dV]at hr;simp only[Int.toNat_natCast]at hr;rw[show(Value.slice none 0 0).cells=#[Value.slice none 0 0]from rfl,wP]at hr
 exact hr
theorem t_ (n:Nat) (hn:n<=1000000) (W:World):(Instr.makeSlice 25 (.int .i64 (n:Int)) (.int .i64 (n:Int))).run Tryz.prog W=.ok (.slice (some ⟨W.heap.size,0,none⟩) n n) (W.alloc (.cells (Array.replicate n (Value.int .i64 0)) 3)):=by
 obtain⟨i0,hi,il,dV,d8⟩:=info_parts kZ
 have hr:=run_make (P:=Tryz.prog) W 25 3 i0 (.int .i64 0) Tryz.underlying25 hi il .i64 .i64 n n (by omega) (Int.le_refl _) (by rw[d8];omega) (by omega)
 rw[dV]at hr;simp only[Int.toNat_natCast]at hr;rw[show(Value.int IntKind.i64 0).cells=#[Value.int .i64 0]from rfl,wP]at hr
 exact hr
def dW (n:Nat):ak:={ ends:=List.replicate n [],ids:=[],aea:=List.replicate n 0 }
theorem wQ (w:World) (base:Nat):eO w base (.slice none 0 0) [] []:=⟨World.ownsRow_nil w base _ _,rfl⟩
theorem j7 (w:World) (base:Nat):k9 w base (.slice none 0 0) [] []:=⟨bH w base,rfl⟩
theorem C9 (w:World) (n:Nat) (hn:n<=1000000):k9 (w.alloc (.cells (Array.replicate n (Value.int .i64 0)) 3)) w.heap.size (.slice (some ⟨w.heap.size,0,none⟩) n n) (List.replicate n 0) [w.heap.size]:=by
 have:=gU w (List.replicate n 0) (by simp[maxLen];omega)
 simp only[List.length_replicate,List.map_replicate,List.toArray_replicate]at this;exact⟨this,rfl⟩
theorem wR (w:World) (n:Nat) (hn:n<=1000000):wI (w.alloc (.cells (Array.replicate n (Value.slice none 0 0)) 81)) w.heap.size (.slice (some ⟨w.heap.size,0,none⟩) n n) (List.replicate n []) [w.heap.size]:=
 by have:=ca.made (R:=eO) (e:=81) n (by simp[maxLen];omega) wQ w;rw[List.toArray_replicate]at this;exact this
theorem FC (w:World) (B:Obj) (n:Nat) (hn:n<=1000000):
  az (((w.alloc B).alloc (.cells (Array.replicate n (Value.slice none 0 0)) 81)).alloc (.cells (Array.replicate n (Value.int .i64 0)) 3)) w.heap.size
   (.slice (some ⟨w.heap.size+1,0,none⟩) n n) (.slice none 0 0) (.slice (some ⟨w.heap.size+1+1,0,none⟩) n n) (dW n) [w.heap.size+1,w.heap.size+1+1]:=by
 have h1:=wR (w.alloc B) n hn;have h2:=C9 ((w.alloc B).alloc (.cells (Array.replicate n (Value.slice none 0 0)) 81)) n hn;simp only[World.size_alloc]at h1 h2;exact⟨[w.heap.size+1],[],[w.heap.size+1+1],lV.mono (lV.keep h1 (am _ _)) (by omega),j7 _ _,iy.mono h2 (by omega),rfl,by simp⟩
theorem C_ (w:World) (B:Obj) (n:Nat) (hn:n<=1000000):
  az (((w.alloc B).alloc (.cells (Array.replicate n (Value.int .i64 0)) 3)).alloc (.cells (Array.replicate n (Value.slice none 0 0)) 81)) w.heap.size
   (.slice (some ⟨w.heap.size+1+1,0,none⟩) n n) (.slice none 0 0) (.slice (some ⟨w.heap.size+1,0,none⟩) n n) (dW n) [w.heap.size+1+1,w.heap.size+1]:=by
 have h1:=C9 (w.alloc B) n hn;have h2:=wR ((w.alloc B).alloc (.cells (Array.replicate n (Value.int .i64 0)) 3)) n hn;simp only[World.size_alloc]at h1 h2;exact⟨[w.heap.size+1+1],[],[w.heap.size+1],lV.mono h2 (by omega),j7 _ _,iy.mono (iy.keep h1 (am _ _)) (by omega),rfl,by simp⟩
theorem MA (w:World) (a b c:Obj):Below w.heap.size w (((w.alloc a).alloc b).alloc c):=(((Below.refl _ _).alloc (Nat.le_refl _) _).alloc (by simp) _).alloc (by simp;omega) _
theorem az.drew {w:World} {base:Nat} {ve vi vn:Value} {n:ak} {S:List Nat} (h:az w base ve vi vn n S):az w.drew base ve vi vn n S:=h.aeb fun _ _=>rfl
def qZ (w:World) (n:ak) (e:Ending) (w':World):Prop:=∃ve vi vn S,e=.returned (.agg #[ve,vi,vn])/\az w' w.heap.size ve vi vn n S/\Below w.heap.size w w'
theorem az.aef {w:World} {base g c n:Nat} {vi vn:Value} {N:ak} {S:List Nat} (h:az w base (.slice (some ⟨g,0,none⟩) n c) vi vn N S) {k:Nat} {x:List (Int×Int)} (hx:N.ends[k]?=some x):
  ∃u T,w.cell? ⟨g,k,none⟩=some u/\w.frozen? ⟨g,k,none⟩=false/\eO w base u x T/\base<=g/\g<w.heap.size/\g∈S:=by
 obtain⟨S1,S2,S3,h1,_,_,h4,_⟩:=h;obtain⟨u,T,a,b,c,_,_,d⟩:=ca.at_ h1 hx
 exact⟨u,T,a,b,c,(lV.range h1 g d).1,(lV.range h1 g d).2,by rw[h4];exact List.mem_append_left _ d⟩
def bD (w:World) (b:Nat) (x y z:Value):Prop:=∃r,w.heap[b]?=some (.cells #[x,y,z] r)
theorem bD.cells {w:World} {b:Nat} {x y z:Value} (h:bD w b x y z):w.cell? ⟨b,0,none⟩=some x/\w.cell? ⟨b,1,none⟩=some y/\w.cell? ⟨b,2,none⟩=some z/\w.frozen? ⟨b,0,none⟩=false/\w.frozen? ⟨b,1,none⟩=false/\w.frozen? ⟨b,2,none⟩=false:=by
 obtain⟨r,h⟩:=h;simp[World.cell?,World.frozen?,h]
theorem bD.lt {w:World} {b:Nat} {x y z:Value} (h:bD w b x y z):b<w.heap.size:=by
 obtain⟨r,h⟩:=h;exact(Array.getElem?_eq_some_iff.1 h).1
theorem bD.below {w w':World} {B b:Nat} {x y z:Value} (h:bD w b x y z) (hb:Below B w w') (hB:b<B):bD w' b x y z:=by
 obtain⟨r,h⟩:=h;exact⟨r,(hb.block b hB).trans h⟩
theorem bD.set {w:World} {b:Nat} {x y z u:Value} {a:Addr} (h:bD w b x y z) (ha:a.block≠b):bD (w.setCell a u) b x y z:=by
 obtain⟨r,h⟩:=h;exact⟨r,(Below.heap_setCell w a u b (Ne.symm ha)).trans h⟩
theorem bD.alloc {w:World} {b:Nat} {x y z:Value} (h:bD w b x y z) (o:Obj):bD (w.alloc o) b x y z:=h.below (am w o) h.lt
theorem bD.new (w:World) (x y z:Value) (t:TypeId):bD (w.alloc (.cells #[x,y,z] t)) w.heap.size x y z:=⟨t,by show(w.heap.push _)[w.heap.size]?=_;rw[Array.getElem?_push_size]⟩
def gK (n:Nat):List Int:=(List.range n).map Int.ofNat
theorem fM (n:Nat):(gK n).length=n:=by simp[gK]
theorem MB {n k:Nat} (h:k<n):(gK n)[k]?=some (k:Int):=by simp[gK,h]
theorem JP (n:Nat):gK (n+1)=gK n++[(n:Int)]:=by simp[gK,List.range_succ]
theorem qz (n:Nat) (hn:n<=1000000) (w:World):Calls Tryz.prog 101 #[.int .i64 n] w fun e w'=>∃u,e=.returned u/\Own w' w.heap.size u (gK n)/\Below w.heap.size w w':=by
 go_enter Tryz.func101,Tryz.ntmps101
 go_wp2_with (at_make;refine jp _ rfl _ _ rfl _ _ n rfl rfl rfl rfl (by omega) ?_;intro w1 dT ay dV)
 go_loopw [9] (fun i wr=>∃k:Nat,k<=n/\i=.int .i64 k/\Own wr w.heap.size (.slice (some ⟨w.heap.size,0,none⟩) n n) ((gK n).take k++List.replicate (n-k) 0)/\Below w.heap.size w wr) (fun i _=>n-(intOf i).toNat)
 case atStart=>exact⟨0,Nat.zero_le _,rfl,by simpa using dT,ay⟩
 case round=>
  obtain⟨k,hk,rfl,ho,hb⟩:=hrel;clear dT ay dV;have Ho:=zh ho;have Hb:=zh hb
  by_cases hlt:k<n
  ·have hf:=ho.free k
   obtain⟨y,hy⟩:=aM ((gK n).take k++List.replicate (n-k) 0) k (by simp[fM];omega)
   have ks:=ho.cell hy;clear hy ho hb;go_wp2;go_roundw
   case rel=>
    refine⟨k+1,by omega,by go_num,?_,Hb.out.setCell (Nat.le_refl _) _⟩
    have:=Ho.out.set (k:=k) (k:Int)
    have e:=Ml 0 (gK n) k (k:Int) (MB hlt);rw[fM]at e
    rwa [e]at this
   case measure=>simp[intOf];omega
  ·go_wp2;go_ret;refine⟨_,rfl,?_,Hb.out⟩
   have:=Ho.out
   rwa [jo (gK n) (by rw[fM];exact hlt),show n-k=0 by omega,List.replicate_zero,List.append_nil]at this
theorem lZ {w:World} {ops:Array Oper} {rest:List Oper} {o:Oper} {a:Act} {Q:Exit->Act->World->Prop} (iY:o.guard=none) (s x:Operand)
  (ho:o.op=.call { callee:=.builtin .append,args:=#[s,x],argTypes:=#[25,25] }) {base:Nat} {v:Value} {xs:List Int} (hs:a.eval s=v) (h:Own w base v xs) (b:Nat) (y:Int)
  (hx:a.eval x=.slice (some ⟨b,0,none⟩) 1 1) (hc:w.cell? ⟨b,0,none⟩=some (.int .i64 y)) (hl:xs.length+1<=17592186044416) (ld:base<=w.heap.size)
  (k:∀g cap w',Own w' base (.slice (some ⟨g,0,none⟩) (xs.length+1) cap) (xs++[y])->w.grownBy w' v.ownBlock->(v.ownBlock=some g\/g=w.heap.size)->g<w'.heap.size->wpList Tryz.prog ops Q rest (a.put o.dst (.slice (some ⟨g,0,none⟩) (xs.length+1) cap)) w'):wpList Tryz.prog ops Q (o::rest) a w:=by
 obtain⟨i0,hi,il,dV,d8⟩:=info_parts kZ
 refine wpList_append_lies w iY s x 25 ho base 3 i0 (.int .i64 0) 1 8 Tryz.underlying25 hi il dV d8 rfl (by decide) v xs.length (xs.map (Value.int .i64)) hs h ⟨b,0,none⟩ 1 1 [.int .i64 y] hx rfl
  (by intro j u hj;match j,hj with | 0,hj=>(simp at hj;subst hj;simpa[Addr.add]using hc) | j+1,hj=>simp at hj) (by simp[Value.oneCell']) (by omega) (by unfold maxLen;omega) (by omega) ld w.heap.size rfl ?_
 intro g cap w' h1 h2 h3 h4;refine k g cap w' ?_ h2 h3 h4;unfold Own;simpa using h1
theorem ca.grow {β:Type} {R:World->Nat->Value->β->List Nat->Prop} {e:TypeId} {w:World} {base g c n:Nat} {xs:List β} {S:List Nat} (L:fL R) (h:ca e R w base (.slice (some ⟨g,0,none⟩) n c) xs S) {k:Nat} {x:β} (hx:xs[k]?=some x):
  ∃u T,w.cell? ⟨g,k,none⟩=some u/\R w base u x T/\(∀j∈T,j∈S)/\g∉T/\(∀(u':Value) (x':β) (T':List Nat) (w':World),R w' base u' x' T'->bg T w w'->(∀j∈T',j∈T\/w.heap.size<=j)->∃S',ca e R (w'.setCell ⟨g,k,none⟩ u') base (.slice (some ⟨g,0,none⟩) n c) (xs.set k x') S'/\∀j∈S',j∈S\/w.heap.size<=j):=by
 have hS:=(k8 e L).range h;obtain⟨vs,Ss,h1,h2,h3,h4,h5⟩:=h;have hk:k<xs.length:=an hx;have hn:=f7 h1;subst hn;have hvl:vs.length=xs.length:=by simpa using h1.1
 obtain⟨u,hu⟩:=aM vs k (by omega);obtain⟨T,hT⟩:=aM Ss k (by omega);have wH:=h5;rw[h4,List.nodup_append]at wH
 have LJ:g∈S:=by rw[h4];simp[Value.ownBlock]
 have Xy:g∉Ss.flatten:=fun hg=>wH.2.2 g (by simp[Value.ownBlock]) g hg rfl
 have T7:∀j∈T,j∈S:=fun j hj=>by rw[h4];exact List.mem_append_right _ (List.mem_flatten.2 ⟨T,List.mem_of_getElem? hT,hj⟩)
 have Mp:g∉T:=fun hg=>Xy (List.mem_flatten.2 ⟨T,List.mem_of_getElem? hT,hg⟩)
 refine⟨u,T,by rw[h1.cellAt (cap:=c) k (by omega)];exact hu,h3 k u x T hu hx hT,T7,Mp,fun u' x' T' w' hR ho tf=>?_⟩
 have abC:=(hS g LJ).2
 have XH:g∉T':=fun hg=>by
  rcases tf g hg with h | h
  ·exact Mp h
  ·omega
 have MC:w'.ownsRow base e 1 (.slice (some ⟨g,0,none⟩) xs.length c) xs.length vs:=aK h1 (fun j hj=>by
  simp[Value.ownBlock]at hj
  subst hj
  exact ho.block _ abC Mp)
 have jd:∀j,j≠g->(w'.setCell ⟨g,k,none⟩ u').heap[j]?=w'.heap[j]?:=fun j hj=>Below.heap_setCell w' _ _ j hj
 refine⟨(Value.slice (some ⟨g,0,none⟩) xs.length c).ownBlock.toList++(Ss.set k T').flatten,⟨vs.set k u',Ss.set k T',?_,by simp[h2],?_,rfl,?_⟩,?_⟩
 ·have:=(MC.stored k u').1
  rw[List.length_set];exact this
 ·intro j u2 x2 T2 vI oQ MD
  by_cases nV:k=j
  ·subst nV;rw[List.getElem?_set_self (by omega)]at vI oQ MD
   cases vI;cases oQ;cases MD
   exact L.aeb hR (fun i hi=>jd i (fun e=>XH (e ▸ hi)))
  ·rw[List.getElem?_set_ne nV]at vI oQ MD;have h0:=h3 j u2 x2 T2 vI oQ MD;refine L.aeb h0 (fun i hi=>(jd i (fun e=>Xy ?_)).trans (ho.block i (L.range h0 i hi).2 (nt wH.2.1 (Ne.symm nV) MD hT hi)))
   subst e;exact List.mem_flatten.2 ⟨T2,List.mem_of_getElem? MD,hi⟩
 ·rw[List.nodup_append];refine⟨wH.1,rU wH.2.1 (L.nodup hR) (fun i j U kF hU hj hjT=>?_),fun a ha b hb te=>?_⟩
  ·rcases tf j hjT with h | h
   ·exact nt wH.2.1 kF hU hT hj h
   ·have:=(hS j (by rw[h4];exact List.mem_append_right _ (List.mem_flatten.2 ⟨U,List.mem_of_getElem? hU,hj⟩))).2
    omega
  ·subst te;simp[Value.ownBlock]at ha
   subst ha;rcases kv hb with hb | hb
   ·exact Xy hb
   ·exact XH hb
 ·intro j hj;rcases List.mem_append.1 hj with hj | hj
  ·left;rw[h4];exact List.mem_append_left _ hj
  ·rcases kv hj with hj | hj
   ·left;rw[h4];exact List.mem_append_right _ hj
   ·rcases tf j hj with h | h
    ·exact .inl (T7 j h)
    ·exact .inr h
theorem az.ael {w:World} {base g c n:Nat} {vi vn:Value} {N:ak} {S:List Nat} (h:az w base (.slice (some ⟨g,0,none⟩) n c) vi vn N S) {k:Nat} {x:List (Int×Int)} (hx:N.ends[k]?=some x):
  ∃u T,w.cell? ⟨g,k,none⟩=some u/\w.frozen? ⟨g,k,none⟩=false/\eO w base u x T/\(∀j∈T,j∈S)/\g∉T/\g∈S/\(∀(u':Value) (x':List (Int×Int)) (T':List Nat) (w':World),eO w' base u' x' T'->bg T w w'->(∀j∈T',j∈T\/w.heap.size<=j) ->
   ∃S',az (w'.setCell ⟨g,k,none⟩ u') base (.slice (some ⟨g,0,none⟩) n c) vi vn { N with ends:=N.ends.set k x' } S'/\∀j∈S',j∈S\/w.heap.size<=j):=by
 have vJ:=h.range;obtain⟨S1,S2,S3,h1,h2,h3,h4,h5⟩:=h;obtain⟨_,_,_,hf,_,_,_,iH⟩:=ca.at_ h1 hx;obtain⟨u,T,hu,hR,T7,Mp,sa⟩:=ca.grow ip h1 hx
 have abD:∀j∈T,j∈S:=fun j hj=>by rw[h4];exact List.mem_append_left _ (T7 j hj)
 have LJ:g∈S:=by rw[h4];exact List.mem_append_left _ iH
 refine⟨u,T,hu,hf,hR,abD,Mp,LJ,fun u' x' T' w' hR' ho tf=>?_⟩
 obtain⟨WH,o1,hs⟩:=sa u' x' T' w' hR' ho tf;rw[h4,List.nodup_append]at h5;obtain⟨n1,n2,n3⟩:=h5;have dl:bg (g::T) w (w'.setCell ⟨g,k,none⟩ u'):=(ho.mono (fun j hj=>List.mem_cons_of_mem _ hj)).setCell (.inl (by simp)) _
 have d:∀j∈S2++S3,j∉g::T:=fun j hj hg'=>by
  rcases List.mem_cons.1 hg' with rfl | hg'
  ·exact n3 _ iH _ hj rfl
  ·exact n3 _ (T7 j hg') _ hj rfl
 refine⟨WH++(S2++S3),⟨WH,S2,S3,o1,iy.only h2 dl (fun j hj=>d j (List.mem_append_left _ hj)),iy.only h3 dl (fun j hj=>d j (List.mem_append_right _ hj)),rfl,?_⟩,?_⟩
 ·rw[List.nodup_append];refine⟨lV.nodup o1,n2,fun a ha b hb te=>?_⟩
  subst te;rcases hs a ha with h | h
  ·exact n3 a h a hb rfl
  ·have:=(vJ a (by rw[h4];exact List.mem_append_right _ hb)).2
   omega
 ·intro j hj;rcases List.mem_append.1 hj with hj | hj
  ·rcases hs j hj with h | h
   ·exact .inl (by rw[h4];exact List.mem_append_left _ h)
   ·exact .inr h
  ·exact .inl (by rw[h4];exact List.mem_append_right _ hj)
theorem FD (w:World) (base:Nat):az w base (.slice none 0 0) (.slice none 0 0) (.slice none 0 0) ⟨[],[],[]⟩ []:=
 ⟨[],[],[],⟨[],[],World.ownsRow_nil w base _ _,rfl,fun k u x T h=>by simp at h,rfl,by simp⟩,j7 _ _,j7 _ _,rfl,by simp⟩
theorem bf {w w':World} (hb:Below w.heap.size w w') {a:Addr} {u:Value} (h:w.cell? a=some u) (hf:w.frozen? a=false):w'.frozen? a=false:=(hb.frozen (World.block_lt_of_cell? w _ h)).trans hf
theorem bg.fz {S:List Nat} {a b:World} (h:bg S a b) {p:Addr} {u:Value} (hp:p.block∉S) (hc:a.cell? p=some u) (hf:a.frozen? p=false):b.frozen? p=false:=
 (World.frozen?_of_block (h.block p.block (World.block_lt_of_cell? a _ hc) hp)).trans hf
end Go.Proofs.YtgmdpppljkmabaaGreat
