/- Parts of the proof: walks of functions and plain laws. -/
import Derived.Test.YtgjggeapebbcbaaGreatP0
import Derived.Test.YtgjggeapebbcbaaGreatP1
import Derived.Test.YtgjggeapebbcbaaGreatP9
import Derived.Test.YtgjggeapebbcbaaGreatP14
import Derived.Test.YtgjggeapebbcbaaGreatP12
import Derived.Test.YtgjggeapebbcbaaGreatP5
import Derived.Test.YtgjggeapebbcbaaGreatP6
import Derived.Test.YtgjggeapebbcbaaGreatP8
import Derived.Test.YtgjggeapebbcbaaGreatP7
set_option maxRecDepth 100000
set_option maxHeartbeats 16000000
namespace Go.Proofs.YtgjggeapebbcbaaGreat
open Go Go.RowKit
def j7 (n:Nat) (l:List Int):List Bool:=(List.range n).map fun (v:Nat)=>l.contains (v:Int)
theorem CJ {n:Nat} {l:List Int} {x:Nat} (hx:x<n):(j7 n l).set x true=j7 n (l++[(x:Int)]):=by
 refine List.ext_getElem? fun j=>?_
 unfold j7
 by_cases hj:j<n
 ·rw[List.getElem?_set,jo hj,jo hj]
  by_cases e:x=j
  ·subst e;rw[if_pos rfl,if_pos (by simpa using hx)];simp
  ·rw[if_neg e]
   have:(l++[(x:Int)]).contains (j:Int)=l.contains (j:Int):=by
    rw[Bool.eq_iff_iff,List.contains_iff_mem,List.contains_iff_mem,List.mem_append,List.mem_singleton];constructor
    ·rintro(h | h)
     ·exact h
     ·omega
    ·exact .inl
   rw[this]
 ·rw[List.getElem?_eq_none (by simp;omega),List.getElem?_eq_none (by simp;omega)]
theorem CK {n:Nat} {l:List Int} {x:Nat} (hx:x<n):(j7 n l)[x]?=some (l.contains (x:Int)):=by unfold j7;rw[jo hx]
def iV (w:World) (base g n:Nat) (xs:List Bool):Prop:=w.ownsRow base 4 1 (.slice (some ⟨g,0,none⟩) n n) n (xs.map Value.bool)
theorem iV.cell {w:World} {base g n:Nat} {xs:List Bool} {k:Nat} {x:Bool} (h:iV w base g n xs) (hk:xs[k]?=some x) (hn:k<n):w.cell? ⟨g,k,none⟩=some (.bool x):=by
 rw[World.ownsRow.cellAt h k (by omega)];simp[hk]
theorem iV.set {w:World} {base g n:Nat} {xs:List Bool} (k:Nat) (x:Bool) (h:iV w base g n xs):iV (w.setCell ⟨g,k,none⟩ (.bool x)) base g n (xs.set k x):=by
 have:=(World.ownsRow.stored h k (.bool x)).1
 unfold iV;rw[List.map_set];exact this
theorem iV.free {w:World} {base g n:Nat} {xs:List Bool} (h:iV w base g n xs) (k:Nat):w.frozen? ⟨g,k,none⟩=false:=by
 rcases h.2 with⟨h',_⟩ | ⟨g',ya,cur,h',_,hg,_⟩
 ·simp at h'
 ·injection h' with a b c
  injection a with a
  injection a with a
  subst a;exact frozen_of_row w g k cur _ hg
theorem wY:(Tryz.prog.info? 4).map (fun i=>(i.zero,i.size,i.bytes))=some (some (.bool false),1,1):=by kernel_rfl
section
variable {ops : Array Oper} {rest : List Oper} {o : Oper} {a : Act} {Q : Exit → Act → World → Prop}
theorem zg (w:World) (hg:o.guard=none) (l c:Operand) (yb:o.op=Op.makeSlice 106 l c) (L C:Int) (n:Nat) (hl:a.eval l=.int .i64 L) (hc:a.eval c=.int .i64 C) (hL:L=(n:Int)) (hC:C=(n:Int)) (hn:n<=17592186044416)
  (hK:∀w',iV w' w.heap.size w.heap.size n (List.replicate n false)->Below w.heap.size w w'->wpList Tryz.prog ops Q rest (a.put o.dst (.slice (some ⟨w.heap.size,0,none⟩) n n)) w'):wpList Tryz.prog ops Q (o::rest) a w:=by
 obtain⟨i0,hi,eS,cj,cX⟩:=info_parts wY
 refine wpList_make_full w hg l c 106 yb w.heap.size 4 i0 (.bool false) 1 Tryz.underlying106 hi eS cj .i64 .i64 L C n hl hc hL hC (by rw[cX];omega) (by unfold maxLen;omega) (Nat.le_refl _) ?_
 intro w' ho rt;refine hK w' ?_ (mL rt);unfold iV;rw[List.map_replicate];rw[show(Value.bool false).cells=#[Value.bool false]from rfl,toList_madeCells_one]at ho
 simpa using ho
end
theorem CL (n:Nat):j7 n []=List.replicate n false:=by
 unfold j7;rw[List.eq_replicate_iff];refine⟨by simp,fun b hb=>?_⟩
 obtain⟨v,-,rfl⟩:=List.mem_map.1 hb;rfl
theorem wZ (vo:Value) (os:List Int) (n:Nat) (w:World) (ho:aG w vo os) (hl:os.length=n) (hn:n<=1000) (hr:∀x∈os,0<=x/\x<n) (hd:∀(k:Nat) (x:Int),os[k]?=some x->x∉os.take k):
  Calls Tryz.prog 37 #[vo,.int .i64 n] w fun e w'=>e=.returned (.bool true)/\Below w.heap.size w w':=by
 have HO:=zh ho;obtain⟨AO,cO,rfl,-,vK,-⟩:=ho;unfold maxLen at vK;have Hl:=zh hl;have Hr:=zh hr;have Hd:=zh hd;have aX:aa w w:=ab _;have m1:IntKind.i64.wrap ((n:Int)-1)=(n:Int)-1:=aR _ (by omega) (by omega);rw[hl];clear hl hr hd
 go_enter Tryz.func37,Tryz.ntmps37
 go_wp2_with (at_make;refine zg _ rfl _ _ rfl _ _ n rfl rfl rfl rfl (by omega) ?_;intro w1 gu aJ)
 obtain⟨g,hg⟩:∃g,g=w.heap.size:=⟨_,rfl⟩
 have Dk:Hid (iV w1 w.heap.size w.heap.size n (j7 n [])):=by show iV _ _ _ _ _;rw[CL];exact gu
 have fL:=zh (show aa w w1 from aJ);clear gu aJ aX
 go_loopw [16] (fun i wr=>∃k:Nat,k<=n/\i=.int .i64 k/\iV wr w.heap.size w.heap.size n (j7 n (os.take k))/\aa w wr) (fun i _=>n-(intOf i).toNat)
 case atStart=>exact⟨0,Nat.zero_le _,rfl,by simpa using Dk.out,fL.out⟩
 case round=>
  obtain⟨k,hk,rfl,xK,dz⟩:=hrel;have A0:=zh xK;have fQ:=zh dz;clear xK
  by_cases aH:k<n
  ·have m3:IntKind.i64.wrap ((k:Int)+1)=(k:Int)+1:=aR _ (by omega) (by omega)
   obtain⟨x0,hx⟩:=ax os k (by rw[Hl.out];exact aH)
   obtain⟨x1,x2⟩:=Hr.out x0 (List.mem_of_getElem? hx);obtain⟨x,rfl⟩:=Int.eq_ofNat_of_zero_le x1;have Di:x<n:=by omega
   obtain⟨_,_,eO,-,-,hA⟩:=HO.out;cases eO;obtain⟨b,off,rfl,bW⟩:=hA k _ hx;have d0:=dz.cell bW;have kL:=Hd.out k _ hx
   have lf:(os.take k).contains (x:Int)=false:=by rw[Bool.eq_false_iff];exact fun h=>kL (List.contains_iff_mem.1 h)
   have d1:=A0.out.cell (CK Di) Di;rw[lf]at d1;have f1:=A0.out.free x;have dY:=cC (x:Int) 0 ((n:Int)-1) wr;rw[show dW 0 ((n:Int)-1) (x:Int)=true from aC.2 ⟨by omega,by omega⟩]at dY
   have vw:=zh dY
   have qM:Hid (j7 n (os.take (k+1))=(j7 n (os.take k)).set x true):=by show _=_;rw[aK hx,CJ Di]
   clear hx x1 x2 hA bW kL lf dY dz;go_wp2_with fail;refine vw.out.mono ?_;rintro e w2 ⟨rfl,rfl⟩;go_wp2;go_roundw
   case rel=>exact⟨k+1,by omega,by first | rfl | go_num,by rw[qM.out];exact A0.out.set x true,Below.setCell fQ.out (Nat.le_refl _) _⟩
   case measure=>simp[intOf];omega
  ·go_wp2;go_ret;exact⟨rfl,fQ.out⟩
theorem w_ (vo:Value) (os:List Int) (n:Nat) (w:World) (ho:aG w vo os) (hl:os.length=n) (hn:n<=1000) (hr:∀x∈os,0<=x/\x<n) (hd:∀(k:Nat) (x:Int),os[k]?=some x->x∉os.take k):
  Calls Tryz.prog 39 #[vo,.int .i64 n] w fun e w'=>e=.returned (.bool true)/\w=w':=by
 have HO:=zh ho;obtain⟨AO,cO,rfl,nR,vK,-⟩:=ho;unfold maxLen at vK;have Hl:=zh hl;have Hr:=zh hr;have Hd:=zh hd;have m1:IntKind.i64.wrap ((n:Int)-1)=(n:Int)-1:=aR _ (by omega) (by omega);rw[hl]at nR ⊢;clear hl hr hd
 go_enter Tryz.func39,Tryz.ntmps39
 go_wp2
 go_loopw [9] (fun i wr=>∃k:Nat,k<=n/\i=.int .i64 k/\wr=w) (fun i _=>n-(intOf i).toNat)
 case atStart=>exact⟨0,Nat.zero_le _,rfl,rfl⟩
 case round=>
  obtain⟨k,hk,rfl,Rz⟩:=hrel;subst Rz
  by_cases aH:k<n
  ·have m3:IntKind.i64.wrap ((k:Int)+1)=(k:Int)+1:=aR _ (by omega) (by omega)
   obtain⟨x,hx⟩:=ax os k (by rw[Hl.out];exact aH)
   obtain⟨x1,x2⟩:=Hr.out x (List.mem_of_getElem? hx);obtain⟨_,_,eO,-,-,hA⟩:=HO.out;cases eO;obtain⟨b,off,rfl,bW⟩:=hA k _ hx;have kL:=Hd.out k _ hx;have dY:=ip x 0 ((n:Int)-1) wr;rw[show dW 0 ((n:Int)-1) x=true from aC.2 ⟨by omega,by omega⟩]at dY
   have vw:=zh dY
   have NM:=HO.out.take k (by rw[Hl.out];exact hk)
   have Iz:=gB _ (os.take k) x wr NM
   rw[show f8 (os.take k) x=false from by unfold f8;rw[Bool.eq_false_iff];exact fun h=>kL (List.contains_iff_mem.1 h)]at Iz
   have RA:=zh Iz;have Tj:k<=cO:=by omega
   clear hx x1 x2 hA kL dY NM Iz;go_wp2_with fail;refine vw.out.mono ?_;rintro e w2 ⟨rfl,rfl⟩;go_wp2_with fail;refine RA.out.mono ?_;rintro e w2 ⟨rfl,rfl⟩;go_wp2;go_roundw
   case rel=>exact⟨k+1,by omega,by first | rfl | go_num,by first | rfl | trivial⟩
   case measure=>simp[intOf];omega
  ·go_wp2;go_ret;exact⟨rfl,rfl⟩
theorem bz (k:Nat):(aF k).length=k:=by simp[aF]
theorem gZ {k v:Nat} (h:v<k):(aF k)[v]?=some ((k-1-v:Nat):Int):=by unfold aF;rw[jo h]
theorem nA {n k:Nat} {x:Int} (h:(aF n)[k]?=some x):x∉(aF n).take k:=by
 have hk:k<n:=by have:=ai h;rwa [bz]at this
 rw[gZ hk]at h;intro hm;obtain⟨j,hj⟩:=List.getElem?_of_mem hm;have vq:=ai hj;rw[List.length_take,bz]at vq;rw[List.getElem?_take_of_lt (by omega),gZ (by omega)]at hj;have h1:=Option.some.inj h;have h2:=Option.some.inj hj;omega
theorem x6 (n:am) (K:Nat):∀k,k<=K->(∀y∈((aF K).take k).foldl (bR n) [],((K-k:Nat):Int)<=y)/\(((aF K).take k).foldl (bR n) []).Pairwise (fun a b=>b<a):=by
 intro k
 induction k with
 | zero=>intro _;exact⟨fun y hy=>by simp at hy,by simp⟩
 | succ k ih=>
  intro hk;obtain⟨h1,h2⟩:=ih (by omega);rw[aK (gZ (show k<K by omega)),List.foldl_append]
  show(∀y∈bR n _ _,_)/\(bR n _ _).Pairwise _
  unfold bR
  split
  ·exact⟨fun y hy=>by have:=h1 y hy;omega,h2⟩
  ·refine⟨fun y hy=>?_,?_⟩
   ·rcases List.mem_append.1 hy with hy | hy
    ·have:=h1 y hy;omega
    ·rw[List.mem_singleton]at hy;omega
   ·rw[List.pairwise_append];refine⟨h2,by simp,fun a ha b hb=>?_⟩
    rw[List.mem_singleton]at hb
    have:=h1 a ha
    omega
theorem zi (n:am) (K:Nat):db (yV n (aF K))=(yV n (aF K)).reverse:=by
 have h:=(x6 n K K (Nat.le_refl _)).2
 rw[List.take_of_length_le (by rw[bz];exact Nat.le_refl _)]at h
 refine eM ?_ (List.reverse_perm _).symm;rw[List.pairwise_reverse];exact h.imp fun h=>by omega
theorem xc (v:Value) (l:List Int) (x:Int) (w:World) (h:aG w v l) (Ln:∀y∈l,x<y) (hl:l.length<=1000000) (My:l=[]->v=.slice none 0 0):
  Calls Tryz.prog 86 #[v,.int .i64 x] w fun e w'=>∃u,e=.returned u/\Own w' w.heap.size u (x::l)/\Below w.heap.size w w':=by
 have ho:=ka w [] (by simp[maxLen]);simp only[List.map_nil,List.length_nil]at ho;have Ho:=zh ho;clear ho
 cases zx:l with
 | nil=>
  subst zx;obtain rfl:=My rfl
  clear h Ln
  go_enter Tryz.func86,Tryz.ntmps86
  go_wp2
  go_loopw [5] (fun i wr=>i=.int .i64 0/\wr=w) (fun _ _=>0)
  case atStart=>exact⟨rfl,rfl⟩
  case round=>
   obtain⟨rfl,rfl⟩:=hrel;have bu:aa wr (wr.alloc (Obj.cells #[] 3)):=ae _ (ab _);have Dk:=zh (Ho.out.since (ae (.cells #[.int .i64 x] 3) (ab _)));have iu:=zh (ae (.cells #[.int .i64 x] 3) bu);clear bu
   go_wp2_with (at_builtin;first | (refine kn rfl _ _ rfl rfl cy none 0 rfl ?_) | (refine kg (w0:=wr) rfl _ _ rfl rfl Dk.out (wr.heap.size+1) x rfl (by simp[go_sem]) (by simp) iu.out ?_;intro g cc w2 cy g_))
   have lv:=zh cy;have g7:=zh g_;clear cy g_;go_wp2;go_ret
   exact⟨_,rfl,by have:=lv.out;simpa using this,g7.out⟩
 | cons y0 l0=>
  have Nf:l[0]?=some y0:=by rw[zx];rfl
  have z8:=Ln y0 (by rw[zx];simp)
  have HI:=zh h;obtain⟨A,c,rfl,er,vK,hA⟩:=h;obtain⟨b,off,rfl,xM⟩:=hA 0 y0 Nf;rw[Nat.add_zero]at xM;unfold maxLen at vK;have O3:0<l.length:=ai Nf;have IW:decide (y0<x)=false:=decide_eq_false (by omega)
  have Y0:(y0==x)=false:=by rw[beq_eq_false_iff_ne];omega
  rw[<- zx];clear hA Nf zx Ln My
  go_enter Tryz.func86,Tryz.ntmps86
  go_wp2
  go_loopw [5] (fun i wr=>i=.int .i64 0/\wr=w) (fun _ _=>0)
  case atStart=>exact⟨rfl,rfl⟩
  case round=>
   obtain⟨rfl,rfl⟩:=hrel;have bu:aa wr (wr.alloc (Obj.cells #[] 3)):=ae _ (ab _)
   have ja:Hid ([x].length+l.length<=17592186044416):=by show _<=_;simp;omega
   go_wp2_with (at_builtin;first | (refine kn rfl _ _ rfl rfl Ho.out _ _ rfl ?_) | (refine kg (w0:=wr) rfl _ _ rfl rfl (Ho.out.since (ae _ (ab _))) (wr.heap.size+1) x rfl (by simp[go_sem]) (by simp) (ae _ bu) ?_;intro g cc w2 cy dS) | (refine fd (base:=wr.heap.size) rfl _ _ rfl rfl cy rfl (HI.out.aab dS.below) ja.out dS.below.size ?_;intro v4 w4 T4 lh rI RB))
   have Hv:=zh lh;have vF:=zh (aL.since dS rI (fun q hq=>(World.ownsRow.lt cy q (Option.mem_toList.1 hq)).1))
   obtain⟨V4,m4,c4,rfl⟩:=dF.one lh;clear lh cy dS rI RB;go_wp2;go_ret;exact⟨_,rfl,Hv.out.1,vF.out⟩
theorem zj (ve vi vn:Value) (n:am) (v:Nat) (w:World) (h:aI w ve vi vn n) (hn:aw n=true) (hv:v<n.ends.length):
  Calls Tryz.prog 84 #[.agg #[ve,vi,vn],.int .i64 v] w fun e w'=>e=.returned (.bool (vS n v))/\Below w.heap.size w w':=by
 obtain⟨r1,r2,-⟩:=lU hn hv
 obtain⟨w0,A,c,A2,c2,A3,c3,rfl,rfl,rfl,er,hm,et,fG,HA,bM,aY,H,e8,fh,fi⟩:=zB h;clear h
 obtain⟨es,ba⟩:∃es,es=(bJ n v).map (·.1):=⟨_,rfl⟩
 have Hr:Hid (f8 es (v:Int)=vS n v):=by
  show _=_
  rw[ba]
  unfold f8 vS
  rw[Bool.eq_iff_iff,List.contains_iff_mem,List.mem_map,List.any_eq_true];simp only[beq_iff_eq];rfl
 have IA:=kN _ _ _ n v (bJ n v) w0 H.out r1 (by omega);rw[<- ba]at IA;have rc:=zh IA;have aX:aa w0 w0:=ab _;clear r1 r2 ba IA
 go_enter Tryz.func84,Tryz.ntmps84
 go_upto_region 1 with(fail);rw[<- bM.out];go_wp2_with fail;refine rc.out.mono ?_;rintro e w1 ⟨u1,rfl,gu,aJ⟩;have fL:=zh (show aa w0 w1 from aJ);have hh:=gB u1 _ (v:Int) w1 gu.ints;rw[Hr.out]at hh;have Hh:=zh hh;obtain⟨A1,c1,rfl,-,-,-⟩:=gu.ints;clear gu aJ hh aX;go_wp2_with fail;refine Hh.out.mono ?_;rintro e w2 ⟨rfl,rfl⟩;go_wp2;go_ret;exact⟨rfl,aa.after aY.out fL.out⟩
theorem tX (ve vi vn vs:Value) (n:am) (v:Nat) (s:List Int) (w:World) (h:aI w ve vi vn n) (hs:aG w vs s) (hn:aw n=true) (hv:v<n.ends.length):
  Calls Tryz.prog 85 #[.agg #[ve,vi,vn],.int .i64 v,vs] w fun e w'=>e=.returned (.bool (!nearIn n v s))/\Below w.heap.size w w':=by
 obtain⟨r1,r2,-⟩:=lU hn hv;have HS:=zh hs;obtain⟨AS',cS,rfl,-,-,-⟩:=hs
 obtain⟨w0,A,c,A2,c2,A3,c3,rfl,rfl,rfl,er,hm,et,fG,HA,bM,aY,H,e8,fh,fi⟩:=zB h;clear h
 obtain⟨es,ba⟩:∃es,es=(bJ n v).map (·.1):=⟨_,rfl⟩
 have Hr:Hid (nearIn n v s=es.any fun x=>f8 s x):=by show _=_;rw[ba,List.any_map];rfl
 have rF:es.length<=6:=by rw[ba,List.length_map];exact r2
 have IA:=kN _ _ _ n v (bJ n v) w0 H.out r1 (by omega);rw[<- ba]at IA;have rc:=zh IA;have aX:aa w0 w0:=ab _;clear r1 r2 ba IA
 go_enter Tryz.func85,Tryz.ntmps85
 go_upto_region 1 with(fail);rw[<- bM.out];go_wp2_with fail;refine rc.out.mono ?_;rintro e w1 ⟨u1,rfl,gu,aJ⟩;have fL:=zh (show aa w0 w1 from aJ);have DS:=zh gu.ints;have Y1:=zh (HS.out.aab (aa.after aY.out aJ));obtain⟨A1,c1,rfl,-,vK,-⟩:=gu.ints;unfold maxLen at vK;clear gu aJ aX;go_wp2
 go_loopw [13] (fun i wr=>∃k:Nat,k<=es.length/\i=.int .i64 k/\(es.take k).any (fun x=>f8 s x)=false/\wr=w1) (fun i _=>es.length-(intOf i).toNat)
 case atStart=>exact⟨0,Nat.zero_le _,rfl,rfl,rfl⟩
 case round=>
  obtain⟨k,hk,rfl,od,Rz⟩:=hrel;subst Rz;have lk:=zh od;clear od
  by_cases aH:k<es.length
  ·have m3:IntKind.i64.wrap ((k:Int)+1)=(k:Int)+1:=aR _ (by omega) (by omega);obtain⟨x,hx⟩:=ax es k aH;obtain⟨_,_,eO,-,-,hA⟩:=DS.out;cases eO;obtain⟨b,off,rfl,bW⟩:=hA k _ hx;obtain⟨z,hz⟩:∃z,f8 s x=z:=⟨_,rfl⟩
   have hh:=gB _ s x wr Y1.out;rw[hz]at hh;have Hh:=zh hh;have Hx:=zh hx;have Hz:=zh hz;clear hx hA hh hz;go_wp2_with fail;refine Hh.out.mono ?_;rintro e w2 ⟨rfl,rfl⟩;cases z
   ·go_wp2;go_roundw
    case rel=>exact⟨k+1,by omega,by first | rfl | go_num,ra Hx.out lk.out Hz.out,by first | rfl | trivial⟩
    case measure=>simp[intOf];omega
   ·have Hf:Hid ((!nearIn n v s)=false):=by show _=_;rw[Hr.out,List.any_eq_true.2 ⟨x,List.mem_of_getElem? Hx.out,Hz.out⟩];rfl
    go_wp2;go_ret;exact⟨az Hf.out,aa.after aY.out fL.out⟩
  ·have Hf:Hid ((!nearIn n v s)=true):=by show _=_;have h9:=lk.out;rw[List.take_of_length_le (by omega)]at h9;rw[Hr.out,h9];rfl
   go_wp2;go_ret;exact⟨cB Hf.out,aa.after aY.out fL.out⟩
theorem CM (n:am) (v:Nat) (s:List Int):nearIn n v s.reverse=nearIn n v s:=by
 unfold nearIn;refine congrArg (fun f=>List.any _ f) (funext fun e=>?_)
 rw[Bool.eq_iff_iff,List.contains_iff_mem,List.contains_iff_mem,List.mem_reverse]
theorem xd (ve vi vn vo:Value) (n:am) (w:World) (h:aI w ve vi vn n) (hn:aw n=true) (ho:aG w vo (aF n.ends.length)):
  Calls Tryz.prog 40 #[.agg #[ve,vi,vn],vo] w fun e w'=>∃u,e=.returned u/\Own w' w.heap.size u (db (yV n (aF n.ends.length)))/\Below w.heap.size w w':=by
 have vG:=dj hn;have HO:=zh ho;obtain⟨AP,cP,rfl,-,FI,-⟩:=ho;rw[bz];unfold maxLen at FI
 obtain⟨w0,A,c,A2,c2,A3,c3,rfl,rfl,rfl,er,hm,et,fG,HA,bM,aY,H,e8,fh,fi⟩:=zB h;clear h
 have Hn:=zh hn;have EB:=zh (HO.out.aab aY.out);have aX:aa w0 w0:=ab _;clear hn
 go_enter Tryz.func40,Tryz.ntmps40
 go_upto_region 1 with(fail);rw[<- bM.out];go_wp2
 go_loopw [5,10] (fun u i wr=>∃(k:Nat) (s:List Int),k<=n.ends.length/\i=.int .i64 k/\s=(((aF n.ends.length).take k).foldl (bR n) []).reverse/\Own wr w0.heap.size u s/\(s=[]->u=.slice none 0 0)/\aa w0 wr) (fun _ i _=>n.ends.length-(intOf i).toNat)
 case atStart=>exact⟨0,[],Nat.zero_le _,rfl,by simp,fT _ w0.heap.size,fun _=>rfl,aX⟩
 case round=>
  obtain⟨k,s,hk,rfl,fe,ho,My,dz⟩:=hrel;have Ho:=zh ho;have mH:=zh fe;have RC:=zh My
  have Xo:s.length<=k:=by rw[fe,List.length_reverse];exact xR n k _
  have Y2:Hid (∀y∈s,((n.ends.length-k:Nat):Int)<=y):=fun y hy=>(x6 n n.ends.length k hk).1 y (by rw[fe,List.mem_reverse]at hy;exact hy)
  obtain⟨Bu,du,rfl,Uh,mX,-⟩:=id ho.ints;unfold maxLen at mX;clear ho fe aX My
  by_cases aH:k<n.ends.length
  ·have hx:=gZ aH;obtain⟨v,hv⟩:∃v,v=n.ends.length-1-k:=⟨_,rfl⟩
   rw[<- hv]at hx;have Fp:v<n.ends.length:=by omega
   obtain⟨_,_,eO,-,-,hA⟩:=EB.out
   injection eO with e1 e2 e3
   subst e1;obtain⟨b,off,rfl,bW⟩:=hA k _ hx;have d0:=dz.cell bW;have m3:IntKind.i64.wrap ((k:Int)+1)=(k:Int)+1:=aR _ (by omega) (by omega);obtain⟨z0,eS⟩:∃z,vS n v=z:=⟨_,rfl⟩
   obtain⟨z,hz⟩:∃z,nearIn n v s=z:=⟨_,rfl⟩
   have rc:Hid ((((aF n.ends.length).take (k+1)).foldl (bR n) []).reverse=if (z0||z)=true then s else (v:Int)::s):=by
    show _=_
    rw[aK hx,List.foldl_append];show(bR n _ (v:Int)).reverse=_
    have Y3:((aF n.ends.length).take k).foldl (bR n) []=s.reverse:=by rw[mH.out,List.reverse_reverse]
    rw[Y3]
    have fY:bR n s.reverse (v:Int)=if (z0||z)=true then s.reverse else s.reverse++[(v:Int)]:=by
     rw[<- eS,<- hz,<- CM n v s];rfl
    rw[fY]
    split
    ·rw[List.reverse_reverse]
    ·rw[List.reverse_append,List.reverse_reverse];rfl
   have y5:=zh (show ∀W,aa w0 W->Calls Tryz.prog 84 #[.agg #[.slice A n.ends.length c,.slice A2 n.ids.length c2,.slice A3 n.aaa.length c3],.int .i64 v] W fun e w'=>e=.returned (.bool z0)/\Below W.heap.size W w' from fun W hW=>by rw[<- eS];exact zj _ _ _ n v W (H.out.aab hW.below) Hn.out Fp)
   have xE:=zh (show ∀W,aa wr W->Calls Tryz.prog 85 #[.agg #[.slice A n.ends.length c,.slice A2 n.ids.length c2,.slice A3 n.aaa.length c3],.int .i64 v,.slice Bu s.length du] W fun e w'=>e=.returned (.bool (!z))/\Below W.heap.size W w' from fun W hW=>by rw[<- hz];exact tX _ _ _ _ n v s W (H.out.aab (dz.after hW).below) (Ho.out.ints.aab hW.below) Hn.out Fp)
   have Y4:Hid (∀y∈s,(v:Int)<y):=fun y hy=>by have:=Y2.out y hy;omega
   have zz:aa wr wr:=ab _;have tx:=ak e8 dz;have tz:=ak fh dz;have tA:=ak fi dz;have fQ:=zh dz;obtain⟨wo,rfl⟩:∃z,z=wr:=⟨_,rfl⟩
   clear hx hv hA bW e2 e3 eS hz dz;go_wp2_with fail;refine(y5.out wo fQ.out).mono ?_;rintro e w2 ⟨rfl,hb2⟩;have dS:aa wo w2:=hb2;clear d0 hb2;cases z0
   ·have j5:Hid (aa wo w2):=dS;go_wp2_with fail;refine(xE.out w2 j5.out).mono ?_;rintro e w3 ⟨rfl,aZ⟩;have g_:aa wo w3:=j5.out.after (show aa w2 w3 from aZ);have kQ:=zh g_;clear dS aZ zz;cases z
    ·go_wp2_with fail;refine(xc _ s (v:Int) w3 (Ho.out.ints.aab kQ.out.below) Y4.out (by omega) RC.out).mono ?_;rintro e w4 ⟨u4,rfl,lh,my⟩;have Hv:=zh (lh.mono (fQ.out.after kQ.out).below.size);have vF:=zh (fQ.out.after (kQ.out.after (show aa w3 w4 from my)));obtain⟨A4,c4,rfl,-,-,-⟩:=id lh.ints;clear lh my g_ tx tz tA;go_wp2;go_roundw
     case rel=>exact⟨k+1,(v:Int)::s,by omega,by first | rfl | go_num,rc.out.symm,Hv.out,fun h=>by simp at h,vF.out⟩
     case measure=>simp[intOf];omega
    ·clear g_ tx tz tA;go_wp2;go_roundw
     case rel=>exact⟨k+1,s,by omega,by first | rfl | go_num,rc.out.symm,Ho.out.since kQ.out,RC.out,fQ.out.after kQ.out⟩
     case measure=>simp[intOf];omega
   ·have g7:=zh dS;clear dS tx tz tA zz;go_wp2;go_roundw
    case rel=>exact⟨k+1,s,by omega,by first | rfl | go_num,rc.out.symm,Ho.out.since g7.out,RC.out,fQ.out.after g7.out⟩
    case measure=>simp[intOf];omega
  ·have Hr:Hid (db (yV n (aF n.ends.length))=s):=by
    show _=_
    rw[zi,mH.out];unfold yV
    rw[List.take_of_length_le (by rw[bz];omega)]
   have fQ:=zh dz;clear dz;go_wp2;go_ret
   exact⟨_,rfl,by rw[Hr.out];exact Ho.out.mono aY.out.size,aa.after aY.out fQ.out⟩
theorem tY (ve vi vn vo:Value) (n:am) (w:World) (h:aI w ve vi vn n) (hn:aw n=true) (qh:n.ids.length<=17592186044416) (ho:aG w vo (aF n.ends.length)):
  Calls Tryz.prog 10 #[.agg #[ve,vi,vn],vo] w fun e w'=>∃u,e=.returned (.tuple #[u,.bool true])/\Own w' w.heap.size u (db (yV n (aF n.ends.length)))/\Below w.heap.size w w':=by
 have vG:=dj hn;have HO:=zh ho;obtain⟨AP,cP,rfl,-,FI,-⟩:=ho;unfold maxLen at FI
 obtain⟨w0,A,c,A2,c2,A3,c3,rfl,rfl,rfl,er,hm,et,fG,HA,bM,aY,H,e8,fh,fi⟩:=zB h;clear h
 have Hn:=zh hn;have EB:=zh (show ∀W,aa w0 W->aG W (.slice AP (aF n.ends.length).length cP) (aF n.ends.length)from fun W hW=>(HO.out.aab aY.out).aab hW.below)
 obtain⟨dl,Mz⟩:∃z,z=(aF n.ends.length).length:=⟨_,rfl⟩
 rw[<- Mz]at EB ⊢;have aX:aa w0 w0:=ab _;clear hn Mz
 go_enter Tryz.func10,Tryz.ntmps10
 go_upto_region 1 with(fail);rw[<- bM.out];go_wp2_with fail;refine(dK _ _ _ n w0 H.out qh).mono ?_;rw[Hn.out];rintro e w1 ⟨rfl,aJ⟩;have bu:aa w0 w1:=aJ;clear aJ aX;go_wp2_with fail;refine(wZ _ (aF n.ends.length) n.ends.length w1 (EB.out w1 bu) (bz _) (by omega) (fun x hx=>jp hx) (fun k x hx=>nA hx)).mono ?_
 rintro e w2 ⟨rfl,hb2⟩;have dS:aa w0 w2:=bu.after (show aa w1 w2 from hb2);clear hb2 bu;go_wp2_with fail
 refine(vW _ _ _ _ n w2 (H.out.aab dS.below) (aF n.ends.length) Hn.out (EB.out w2 dS) (fun x hx=>jp hx) (by rw[bz];omega)).mono ?_
 rintro e w3 ⟨u,rfl,fU,aZ⟩;have qe:=zh (fU.mono (Nat.le_trans aY.out.size dS.below.size));have kQ:=zh (dS.after (show aa w2 w3 from aZ));obtain⟨A4,c4,rfl,-,-,-⟩:=id fU.ints;clear fU aZ dS;go_wp2
 go_ret2
 exact⟨_,rfl,qe.out,aa.after aY.out kQ.out⟩
theorem tZ (ve vi vn vo:Value) (n:am) (w:World) (h:aI w ve vi vn n) (hn:aw n=true) (ho:aG w vo (aF n.ends.length)):
  Calls Tryz.prog 11 #[.agg #[ve,vi,vn],vo] w fun e w'=>∃u,e=.returned (.tuple #[u,.bool true])/\Own w' w.heap.size u (db (yV n (aF n.ends.length)))/\Below w.heap.size w w':=by
 have vG:=dj hn;have HO:=zh ho;obtain⟨AP,cP,rfl,-,FI,-⟩:=ho;unfold maxLen at FI
 obtain⟨w0,A,c,A2,c2,A3,c3,rfl,rfl,rfl,er,hm,et,fG,HA,bM,aY,H,e8,fh,fi⟩:=zB h;clear h
 have Hn:=zh hn;have EB:=zh (show ∀W,aa w0 W->aG W (.slice AP (aF n.ends.length).length cP) (aF n.ends.length)from fun W hW=>(HO.out.aab aY.out).aab hW.below)
 obtain⟨dl,Mz⟩:∃z,z=(aF n.ends.length).length:=⟨_,rfl⟩
 rw[<- Mz]at EB ⊢;have aX:aa w0 w0:=ab _;clear hn Mz
 go_enter Tryz.func11,Tryz.ntmps11
 go_upto_region 1 with(fail);rw[<- bM.out];go_wp2_with fail;refine(oG _ _ _ n w0 H.out).mono ?_;rw[Hn.out];rintro e w1 ⟨rfl,aJ⟩;have bu:aa w0 w1:=aJ;clear aJ aX;go_wp2_with fail;refine(w_ _ (aF n.ends.length) n.ends.length w1 (EB.out w1 bu) (bz _) (by omega) (fun x hx=>jp hx) (fun k x hx=>nA hx)).mono ?_
 rintro e w2 ⟨rfl,rfl⟩;go_wp2_with fail;refine(xd _ _ _ _ n w1 (H.out.aab bu.below) Hn.out (EB.out w1 bu)).mono ?_;rintro e w3 ⟨u,rfl,fU,aZ⟩;have qe:=zh (fU.mono (Nat.le_trans aY.out.size bu.below.size));have kQ:=zh (bu.after (show aa w1 w3 from aZ));obtain⟨A4,c4,rfl,-,-,-⟩:=id fU.ints;clear fU aZ bu;go_wp2
 go_ret2
 exact⟨_,rfl,qe.out,aa.after aY.out kQ.out⟩
theorem t_ (b c:Nat) (x:Int) (N:Nat) (w:World) (ta:N<=1000000) (hc:w.cell? ⟨b,0,none⟩=some (.int .i64 x)):
  Calls Tryz.prog 74 #[.slice (some ⟨b,0,none⟩) 1 c,.int .i64 N] w fun e w'=>∃u,e=.returned u/\Own w' w.heap.size u (List.replicate N x)/\Below w.heap.size w w':=by
 rcases Nat.eq_zero_or_pos N with rfl | h
 ·exact m_ b c x w hc
 ·exact jR b c x N w h ta hc
theorem jr (a b:Int) (d:Nat) (w:World) (hd:1<=d/\d<=4):
  Calls Tryz.prog 43 #[.int .i64 a,.int .i64 b,.int .i64 d] w fun e w'=>∃u,e=.returned u/\Own w' w.heap.size u (ct a b d)/\Below w.heap.size w w':=by
 have m1:IntKind.i64.wrap ((d:Int)-1)=((d-1:Nat):Int):=by rw[aR _ (by omega) (by omega)];omega
 obtain⟨k,hk⟩:∃k,k=d-1:=⟨_,rfl⟩
 rw[<- hk]at m1;have yr:k<=3:=by omega
 have Hk:Hid (ct a b d=[a]++List.replicate k b):=by show _=_;rw[hk];rfl
 obtain⟨w0,au⟩:∃z,z=(w.alloc (.cells #[.int .i64 a] 3)).alloc (.cells #[.int .i64 b] 3):=⟨_,rfl⟩
 have aX:aa w w0:=by rw[au];exact ae _ (ae _ (ab _))
 have Y5:Hid (Own w0 w.heap.size (.slice (some ⟨w.heap.size,0,none⟩) 1 1) [a]):=by
  show Own _ _ _ _
  have ho:=ka w [a] (by simp[maxLen]);rw[au];exact Own.since ho (ae _ (ab _))
 have xM:w0.cell? ⟨w.heap.size+1,0,none⟩=some (.int .i64 b):=by rw[au];simp
 have y5:=zh xM;have bM:=zh au;have mJ:=zh aX;clear hk au aX xM
 go_enter Tryz.func43,Tryz.ntmps43
 go_wp2_with fail;rw[<- bM.out];refine(t_ (w.heap.size+1) 1 b k w0 (by omega) y5.out).mono ?_;rintro e w1 ⟨u1,rfl,gu,aJ⟩;obtain⟨A1,c1,rfl,-,-,-⟩:=id gu.ints;have Ho:=zh (Y5.out.since (show aa w0 w1 from aJ));have HI:=zh gu.ints;have iu:=zh (mJ.out.after (show aa w0 w1 from aJ))
 have ja:Hid ([a].length+(List.replicate k b).length<=17592186044416):=by show _<=_;simp;omega
 rw[List.length_replicate]at HI ⊢;clear gu aJ
 go_wp2_with (at_builtin;refine fd (base:=w.heap.size) rfl _ _ rfl rfl Ho.out rfl HI.out ja.out iu.out.below.size ?_;intro v4 w4 T4 lh rI RB)
 have Hv:=zh lh;have vF:=zh (aL.since iu.out rI (fun q hq=>(World.ownsRow.lt Ho.out q (Option.mem_toList.1 hq)).1))
 obtain⟨V4,m4,c4,rfl⟩:=dF.one lh;clear lh rI RB;go_wp2;go_ret
 exact⟨_,rfl,by rw[Hk.out];exact Hv.out.1,vF.out⟩
theorem jx (pa pb:Value) (p:aN) (w:World) (h:el w pa pb p) (dR:eA p=true):
  Calls Tryz.prog 42 #[.agg #[.int .i64 p.labels,.int .i64 p.degree,pa,pb]] w fun e w'=>e=.returned (.tuple #[.agg #[.int .i64 p.labels,.int .i64 p.degree,pa,pb],.bool true])/\Below w.heap.size w w':=by
 obtain⟨w0,au⟩:∃w0,w0=(w).alloc (.cells #[.int .i64 p.labels,.int .i64 p.degree,pa,pb] 40):=⟨_,rfl⟩
 have bO:Below w.heap.size w w0:=by rw[au];exact((Below.refl _ _).alloc (by simp) _)
 have dV:=h.aab bO;have HP:=zh dV;obtain⟨P0,gL,rfl,lJ,fw,cH⟩:=id dV.1;unfold maxLen at fw;have lK:=zh cH;clear cH;obtain⟨P1,g8,rfl,lL,fx,cJ⟩:=id dV.2;unfold maxLen at fx;have lM:=zh cJ;clear cJ;clear dV h
 have e8:∀W,aa w0 W->W.cell? ⟨w.heap.size,0,none⟩=some (.int .i64 p.labels):=ad (by rw[au];simp)
 have fh:∀W,aa w0 W->W.cell? ⟨w.heap.size,1,none⟩=some (.int .i64 p.degree):=ad (by rw[au];simp)
 have fi:∀W,aa w0 W->W.cell? ⟨w.heap.size,2,none⟩=some (.slice P0 p.nodes.length gL):=ad (by rw[au];simp)
 have pT:∀W,aa w0 W->W.cell? ⟨w.heap.size,3,none⟩=some (.slice P1 p.aad.length g8):=ad (by rw[au];simp)
 have aY:=zh bO;have bM:=zh au;clear bO au;obtain⟨wa,f7⟩:∃wa,wa=w0.alloc (.cells #[.int .i64 0,.int .i64 0,.slice none 0 0,.slice none 0 0] 40):=⟨_,rfl⟩
 have gO:aa w0 wa:=by rw[f7];exact ae _ (ab _)
 have jB:w0.heap.size=w.heap.size+1:=by rw[bM.out];simp
 have uD:Hid (∀X,aa wa X->X.heap[w.heap.size+1]?=some (.cells #[.int .i64 0,.int .i64 0,.slice none 0 0,.slice none 0 0] 40 (0,0))):=fun X hX=>by
  have h1:wa.heap[w.heap.size+1]?=some (.cells #[.int .i64 0,.int .i64 0,.slice none 0 0,.slice none 0 0] 40 (0,0)):=by
   rw[f7,<- jB];show(w0.heap.push _)[w0.heap.size]?=_
   rw[Array.getElem?_push_size]
  rw[hX.below.block _ (by rw[f7,<- jB];simp)]
  exact h1
 have ma:=zh (show ∀X,aa wa X->el X (.slice P0 p.nodes.length gL) (.slice P1 p.aad.length g8) p from fun X hX=>HP.out.aab (gO.after hX))
 have AX:=ak e8 gO;have AY:=ak fh gO;have AZ:=ak fi gO;have Vc:=ak pT gO;have tj:=zh f7;have fL:Hid (Below w.heap.size w wa):=Below.trans aY.out (gO.below.mono aY.out.size);have Qg:=zh dR;clear f7 gO jB e8 fh fi pT dR
 go_enter Tryz.func42,Tryz.ntmps42
 go_upto_region 1 with(fail);rw[<- bM.out,<- tj.out];have hs:aa wa wa:=ab _;go_wp2_with fail;refine(iw _ _ p wa (ma.out wa hs)).mono ?_;rw[Qg.out];rintro e w1 ⟨rfl,aJ⟩;have bu:aa wa w1:=aJ;have hR:=uD.out w1 bu;have d0:w1.cell? ⟨w.heap.size+1,0,none⟩=some (.int .i64 0):=by simp[World.cell?,hR]
 have d1:w1.cell? ⟨w.heap.size+1,1,none⟩=some (.int .i64 0):=by simp[World.cell?,hR]
 have d2:w1.cell? ⟨w.heap.size+1,2,none⟩=some (.slice none 0 0):=by simp[World.cell?,hR]
 have d3:w1.cell? ⟨w.heap.size+1,3,none⟩=some (.slice none 0 0):=by simp[World.cell?,hR]
 have f0:=frozen_of_row w1 _ 0 _ _ hR;have f1:=frozen_of_row w1 _ 1 _ _ hR;have f2:=frozen_of_row w1 _ 2 _ _ hR;have f3:=frozen_of_row w1 _ 3 _ _ hR;have r0:=AX w1 bu;have r1:=AY w1 bu;have r2:=AZ w1 bu;have r3:=Vc w1 bu;have Hk:Hid (Below w.heap.size w w1):=Below.trans fL.out (bu.below.mono fL.out.size);clear hR aJ bu hs AX AY AZ Vc;go_wp2;refine bodyPost_ret (v:=.tuple #[.agg #[.int .i64 p.labels,.int .i64 p.degree,.slice P0 p.nodes.length gL,.slice P1 p.aad.length g8],.bool true]) (by simp[results,Tryz.results42,go_sem, *]) rfl ?_;exact⟨rfl,(((Hk.out.setCell (by simp) _).setCell (by simp) _).setCell (by simp) _).setCell (by simp) _⟩
theorem nB (d:Nat) (w:World) (hd:1<=d/\d<=4):Calls Tryz.prog 41 #[.int .i64 d] w fun e w'=>e=.returned (.bool true)/\w=w':=by
 have dY:=cC (d:Int) 1 4 w;rw[show dW 1 4 (d:Int)=true from aC.2 ⟨by omega,by omega⟩]at dY
 have vw:=zh dY;clear dY
 go_enter Tryz.func41,Tryz.ntmps41
 go_wp2_with fail;refine vw.out.mono ?_;rintro e w2 ⟨rfl,rfl⟩;go_wp2;go_ret;exact⟨rfl,rfl⟩
theorem rm {w:World} {b:Nat} {u v:Value} {xs ys:List Int} (h0:w.cell? ⟨b,0,none⟩=some u) (h1:w.cell? ⟨b,1,none⟩=some v) (hx:aG w u xs) (hy:aG w v ys):bw w (.slice (some ⟨b,0,none⟩) 2 2) [xs,ys]:=by
 refine⟨_,2,rfl,Nat.le_refl _,by unfold maxLen;omega,fun k z hk=>⟨b,0,?_⟩⟩
 match k,hk with
 | 0,hk=>simp at hk;subst hk;exact⟨u,rfl,h0,hx⟩
 | 1,hk=>simp at hk;subst hk;exact⟨v,rfl,h1,hy⟩
 | k+2,hk=>simp at hk
theorem uc {w:World} {b:Nat} {u v t:Value} {xs ys zs:List Int} (h0:w.cell? ⟨b,0,none⟩=some u) (h1:w.cell? ⟨b,1,none⟩=some v) (h2:w.cell? ⟨b,2,none⟩=some t) (hx:aG w u xs) (hy:aG w v ys) (hz:aG w t zs):bw w (.slice (some ⟨b,0,none⟩) 3 3) [xs,ys,zs]:=by
 refine⟨_,3,rfl,Nat.le_refl _,by unfold maxLen;omega,fun k r hk=>⟨b,0,?_⟩⟩
 match k,hk with
 | 0,hk=>simp at hk;subst hk;exact⟨u,rfl,h0,hx⟩
 | 1,hk=>simp at hk;subst hk;exact⟨v,rfl,h1,hy⟩
 | 2,hk=>simp at hk;subst hk;exact⟨t,rfl,h2,hz⟩
 | k+3,hk=>simp at hk
theorem ud (w:World) (x y z:Value) (t:TypeId):(w.alloc (.cells #[x,y,z] t)).cell? ⟨w.heap.size,0,none⟩=some x/\(w.alloc (.cells #[x,y,z] t)).cell? ⟨w.heap.size,1,none⟩=some y/\(w.alloc (.cells #[x,y,z] t)).cell? ⟨w.heap.size,2,none⟩=some z:=by
 exact⟨by simp,by simp,by simp⟩
def uh (w2:World) (u1 u2:Value) (x1 x2 y1 y2 z1 z2:Int):World:=((((w2.alloc (.cells #[u1,u2] 25)).alloc (.cells #[.int .i64 x1,.int .i64 x2] 3)).alloc (.cells #[.int .i64 y1,.int .i64 y2] 3)).alloc (.cells #[.int .i64 z1,.int .i64 z2] 3)).alloc (.cells #[.slice (some ⟨w2.heap.size+1,0,none⟩) 2 2,.slice (some ⟨w2.heap.size+1+1,0,none⟩) 2 2,.slice (some ⟨w2.heap.size+1+1+1,0,none⟩) 2 2] 25)
theorem ro (w2:World) (u1 u2:Value) (x1 x2 y1 y2 z1 z2:Int):aa w2 (uh w2 u1 u2 x1 x2 y1 y2 z1 z2)/\(uh w2 u1 u2 x1 x2 y1 y2 z1 z2).heap.size=w2.heap.size+1+1+1+1+1/\∀W:World,(∀j,w2.heap.size<=j->j<w2.heap.size+1+1+1+1+1->W.heap[j]?=(uh w2 u1 u2 x1 x2 y1 y2 z1 z2).heap[j]?) ->
  W.cell? ⟨w2.heap.size,0,none⟩=some u1/\W.cell? ⟨w2.heap.size,1,none⟩=some u2/\bw W (.slice (some ⟨w2.heap.size+1+1+1+1,0,none⟩) 3 3) [[x1,x2],[y1,y2],[z1,z2]]:=by
 unfold uh;obtain⟨a1,h1⟩:∃z,z=w2.alloc (.cells #[u1,u2] 25):=⟨_,rfl⟩
 obtain⟨a2,h2⟩:∃z,z=a1.alloc (.cells #[.int .i64 x1,.int .i64 x2] 3):=⟨_,rfl⟩
 obtain⟨a3,h3⟩:∃z,z=a2.alloc (.cells #[.int .i64 y1,.int .i64 y2] 3):=⟨_,rfl⟩
 obtain⟨a4,h4⟩:∃z,z=a3.alloc (.cells #[.int .i64 z1,.int .i64 z2] 3):=⟨_,rfl⟩
 obtain⟨a5,h5⟩:∃z,z=a4.alloc (.cells #[.slice (some ⟨w2.heap.size+1,0,none⟩) 2 2,.slice (some ⟨w2.heap.size+1+1,0,none⟩) 2 2,.slice (some ⟨w2.heap.size+1+1+1,0,none⟩) 2 2] 25):=⟨_,rfl⟩
 rw[<- h1,<- h2,<- h3,<- h4,<- h5]
 have s1:a1.heap.size=w2.heap.size+1:=by rw[h1];simp
 have s2:a2.heap.size=w2.heap.size+1+1:=by rw[h2,<- s1];simp
 have s3:a3.heap.size=w2.heap.size+1+1+1:=by rw[h3,<- s2];simp
 have s4:a4.heap.size=w2.heap.size+1+1+1+1:=by rw[h4,<- s3];simp
 have s5:a5.heap.size=w2.heap.size+1+1+1+1+1:=by rw[h5,<- s4];simp
 have k1:aa w2 a1:=by rw[h1];exact ae _ (ab _)
 have k2:aa a1 a2:=by rw[h2];exact ae _ (ab _)
 have k3:aa a2 a3:=by rw[h3];exact ae _ (ab _)
 have k4:aa a3 a4:=by rw[h4];exact ae _ (ab _)
 have k5:aa a4 a5:=by rw[h5];exact ae _ (ab _)
 have c1:=eP w2 u1 u2 25;rw[<- h1]at c1;have i2:=eP a1 (.int .i64 x1) (.int .i64 x2) 3;rw[<- h2,s1]at i2;have i3:=eP a2 (.int .i64 y1) (.int .i64 y2) 3;rw[<- h3,s2]at i3;have i4:=eP a3 (.int .i64 z1) (.int .i64 z2) 3;rw[<- h4,s3]at i4;obtain⟨c5,c6,c7⟩:=ud a4 (.slice (some ⟨w2.heap.size+1,0,none⟩) 2 2) (.slice (some ⟨w2.heap.size+1+1,0,none⟩) 2 2) (.slice (some ⟨w2.heap.size+1+1+1,0,none⟩) 2 2) 25;rw[<- h5,s4]at c5 c6 c7;have RD:aa a2 a5:=(k3.after k4).after k5;have RE:aa a1 a5:=k2.after RD;have Vd:aa a3 a5:=k4.after k5;refine⟨k1.after RE,s5,fun W hW=>?_⟩
 have tr:∀(j k:Nat) (v:Value),w2.heap.size<=j->j<w2.heap.size+1+1+1+1+1->a5.cell? ⟨j,k,none⟩=some v->W.cell? ⟨j,k,none⟩=some v:=fun j k v q1 q2 q3=>(World.cell?_of_block (a:=⟨j,k,none⟩) (hW j q1 q2)).trans q3
 exact⟨tr _ _ _ (by omega) (by omega) (bc RE.below c1.1),tr _ _ _ (by omega) (by omega) (bc RE.below c1.2),uc (tr _ _ _ (by omega) (by omega) c5) (tr _ _ _ (by omega) (by omega) c6) (tr _ _ _ (by omega) (by omega) c7)
  (ko (tr _ _ _ (by omega) (by omega) (bc RD.below i2.1)) (tr _ _ _ (by omega) (by omega) (bc RD.below i2.2)))
  (ko (tr _ _ _ (by omega) (by omega) (bc Vd.below i3.1)) (tr _ _ _ (by omega) (by omega) (bc Vd.below i3.2)))
  (ko (tr _ _ _ (by omega) (by omega) (bc k5.below i4.1)) (tr _ _ _ (by omega) (by omega) (bc k5.below i4.2)))⟩
theorem qt (d:Nat) (w:World) (hd:1<=d/\d<=4):
  Calls Tryz.prog 14 #[.int .i64 d] w fun e w'=>∃pa pb,e=.returned (.tuple #[.agg #[.int .i64 (lj d).labels,.int .i64 (lj d).degree,pa,pb],.bool true])/\el w' pa pb (lj d)/\Below w.heap.size w w':=by
 obtain⟨w0,au⟩:∃z,z=w.alloc (.cells #[.int .i64 0,.int .i64 0,.slice none 0 0,.slice none 0 0] 40):=⟨_,rfl⟩
 have aX:aa w w0:=by rw[au];exact ae _ (ab _)
 have uD:Hid (∀X,aa w0 X->X.heap[w.heap.size]?=some (.cells #[.int .i64 0,.int .i64 0,.slice none 0 0,.slice none 0 0] 40 (0,0))):=fun X hX=>by
  have h1:w0.heap[w.heap.size]?=some (.cells #[.int .i64 0,.int .i64 0,.slice none 0 0,.slice none 0 0] 40 (0,0)):=by
   rw[au];show(w.heap.push _)[w.heap.size]?=_
   rw[Array.getElem?_push_size]
  rw[hX.below.block _ (by rw[au];simp)]
  exact h1
 have bM:=zh au;have mJ:=zh aX;have RF:=zh (nB d w0 hd);clear au aX
 go_enter Tryz.func14,Tryz.ntmps14
 go_upto_region 1 with(fail);rw[<- bM.out];go_wp2_with fail;refine RF.out.mono ?_;rintro e Y6 ⟨rfl,rfl⟩;go_wp2_with fail;refine(jr 0 1 d w0 hd).mono ?_;rintro e w1 ⟨u1,rfl,gu,aJ⟩;obtain⟨A1,c1,rfl,-,-,-⟩:=id gu.ints;have iu:=zh (show aa w0 w1 from aJ);have DS:=zh gu;clear gu aJ;go_wp2_with fail;refine(jr 2 2 d w1 hd).mono ?_;rintro e w2 ⟨u2,rfl,cy,hb2⟩;obtain⟨A2,c2,rfl,-,-,-⟩:=id cy.ints;have g7:=zh (iu.out.after (show aa w1 w2 from hb2));have CN:=zh (DS.out.since hb2);have DT:=zh (cy.mono iu.out.below.size);clear cy hb2;obtain⟨n1,jz⟩:∃z,z=(ct 0 1 d).length:=⟨_,rfl⟩
 obtain⟨n2,lW⟩:∃z,z=(ct 2 2 d).length:=⟨_,rfl⟩
 rw[<- jz]at CN ⊢;rw[<- lW]at DT ⊢;obtain⟨f1,f2,f3⟩:=ro w2 (.slice A1 n1 c1) (.slice A2 n2 c2) 0 0 1 1 1 2;obtain⟨w3,h_⟩:∃z,z=uh w2 (.slice A1 n1 c1) (.slice A2 n2 c2) 0 0 1 1 1 2:=⟨_,rfl⟩
 rw[<- h_]at f1 f2 f3;have g_:aa w2 w3:=f1;have RG:w0.heap.size<=w2.heap.size:=g7.out.below.size
 have CO:Hid (∀W:World,(∀j,w0.heap.size<=j->j<w3.heap.size->W.heap[j]?=w3.heap[j]?)->el W (.slice (some ⟨w2.heap.size,0,none⟩) 2 2) (.slice (some ⟨w2.heap.size+1+1+1+1,0,none⟩) 3 3) (lj d)):=fun W hW=>by
  obtain⟨g1,g2,g3⟩:=f3 W (fun j q1 q2=>hW j (by omega) (by omega))
  have o1:=CN.out.since g_;have o2:=DT.out.since g_;refine⟨rm g1 g2 (Own.ints (aB o1 fun j hj=>?_)) (Own.ints (aB o2 fun j hj=>?_)),g3⟩
  ·obtain⟨q1,q2⟩:=World.ownsRow.lt o1 j (by simpa using hj);exact hW j q1 q2
  ·obtain⟨q1,q2⟩:=World.ownsRow.lt o2 j (by simpa using hj);exact hW j q1 q2
 have uj:=CO.out w3 (fun _ _ _=>rfl)
 clear f1 f2 f3;unfold uh at h_;have Y7:=zh uj;have yP:=zh h_;have kQ:=zh (g7.out.after g_);have MA:=zh (jx _ _ (lj d) w3 uj (vR hd));have Im:(lj d).labels=3:=rfl;have MB:(lj d).degree=(d:Int):=rfl;rw[Im,MB]at MA;clear h_ g_ uj Im MB jz lW;go_wp2_with fail;rw[<- yP.out];refine MA.out.mono ?_;rintro e w4 ⟨rfl,my⟩;have Ax:=kQ.out.after (show aa w3 w4 from my);have IB:=zh (show aa w3 w4 from my);have hR:=uD.out w4 Ax;have d0:w4.cell? ⟨w.heap.size,0,none⟩=some (.int .i64 0):=by simp[World.cell?,hR]
 have d1:w4.cell? ⟨w.heap.size,1,none⟩=some (.int .i64 0):=by simp[World.cell?,hR]
 have d2:w4.cell? ⟨w.heap.size,2,none⟩=some (.slice none 0 0):=by simp[World.cell?,hR]
 have d3:w4.cell? ⟨w.heap.size,3,none⟩=some (.slice none 0 0):=by simp[World.cell?,hR]
 have f0:=frozen_of_row w4 _ 0 _ _ hR;have f1:=frozen_of_row w4 _ 1 _ _ hR;have f2:=frozen_of_row w4 _ 2 _ _ hR;have f3:=frozen_of_row w4 _ 3 _ _ hR;have Hk:Hid (Below w.heap.size w w4):=aa.after mJ.out.below Ax;clear hR my Ax;go_wp2;refine bodyPost_ret (v:=.tuple #[.agg #[.int .i64 3,.int .i64 d,.slice (some ⟨w2.heap.size,0,none⟩) 2 2,.slice (some ⟨w2.heap.size+1+1+1+1,0,none⟩) 3 3],.bool true]) (by simp[results,Tryz.results14,go_sem, *]) rfl ?_;refine⟨_,_,rfl,?_,(((Hk.out.setCell (by simp) _).setCell (by simp) _).setCell (by simp) _).setCell (by simp) _⟩;refine CO.out _ (fun j q1 q2=>?_)
 have q3:w.heap.size<w0.heap.size:=by rw[bM.out];simp
 rw[Below.heap_setCell _ _ _ j (by simp;omega),Below.heap_setCell _ _ _ j (by simp;omega),Below.heap_setCell _ _ _ j (by simp;omega),Below.heap_setCell _ _ _ j (by simp;omega)];exact IB.out.below.block j q2
theorem pK (d:Nat) (w:World) (hd:1<=d/\d<=4):
  Calls Tryz.prog 15 #[.int .i64 d] w fun e w'=>∃pa pb,e=.returned (.tuple #[.agg #[.int .i64 (uH d).labels,.int .i64 (uH d).degree,pa,pb],.bool true])/\el w' pa pb (uH d)/\Below w.heap.size w w':=by
 obtain⟨w0,au⟩:∃z,z=w.alloc (.cells #[.int .i64 0,.int .i64 0,.slice none 0 0,.slice none 0 0] 40):=⟨_,rfl⟩
 have aX:aa w w0:=by rw[au];exact ae _ (ab _)
 have uD:Hid (∀X,aa w0 X->X.heap[w.heap.size]?=some (.cells #[.int .i64 0,.int .i64 0,.slice none 0 0,.slice none 0 0] 40 (0,0))):=fun X hX=>by
  have h1:w0.heap[w.heap.size]?=some (.cells #[.int .i64 0,.int .i64 0,.slice none 0 0,.slice none 0 0] 40 (0,0)):=by
   rw[au];show(w.heap.push _)[w.heap.size]?=_
   rw[Array.getElem?_push_size]
  rw[hX.below.block _ (by rw[au];simp)]
  exact h1
 have bM:=zh au;have mJ:=zh aX;have RF:=zh (nB d w0 hd);clear au aX
 go_enter Tryz.func15,Tryz.ntmps15
 go_upto_region 1 with(fail);rw[<- bM.out];go_wp2_with fail;refine RF.out.mono ?_;rintro e Y6 ⟨rfl,rfl⟩;go_wp2_with fail;refine(jr 0 0 d w0 hd).mono ?_;rintro e w1 ⟨u1,rfl,gu,aJ⟩;obtain⟨A1,c1,rfl,-,-,-⟩:=id gu.ints;have iu:=zh (show aa w0 w1 from aJ);have DS:=zh gu;clear gu aJ;go_wp2_with fail;refine(jr 1 2 d w1 hd).mono ?_;rintro e w2 ⟨u2,rfl,cy,hb2⟩;obtain⟨A2,c2,rfl,-,-,-⟩:=id cy.ints;have g7:=zh (iu.out.after (show aa w1 w2 from hb2));have CN:=zh (DS.out.since hb2);have DT:=zh (cy.mono iu.out.below.size);clear cy hb2;obtain⟨n1,jz⟩:∃z,z=(ct 0 0 d).length:=⟨_,rfl⟩
 obtain⟨n2,lW⟩:∃z,z=(ct 1 2 d).length:=⟨_,rfl⟩
 rw[<- jz]at CN ⊢;rw[<- lW]at DT ⊢;obtain⟨f1,f2,f3⟩:=ro w2 (.slice A1 n1 c1) (.slice A2 n2 c2) 0 1 0 2 2 2;obtain⟨w3,h_⟩:∃z,z=uh w2 (.slice A1 n1 c1) (.slice A2 n2 c2) 0 1 0 2 2 2:=⟨_,rfl⟩
 rw[<- h_]at f1 f2 f3;have g_:aa w2 w3:=f1;have RG:w0.heap.size<=w2.heap.size:=g7.out.below.size
 have CO:Hid (∀W:World,(∀j,w0.heap.size<=j->j<w3.heap.size->W.heap[j]?=w3.heap[j]?)->el W (.slice (some ⟨w2.heap.size,0,none⟩) 2 2) (.slice (some ⟨w2.heap.size+1+1+1+1,0,none⟩) 3 3) (uH d)):=fun W hW=>by
  obtain⟨g1,g2,g3⟩:=f3 W (fun j q1 q2=>hW j (by omega) (by omega))
  have o1:=CN.out.since g_;have o2:=DT.out.since g_;refine⟨rm g1 g2 (Own.ints (aB o1 fun j hj=>?_)) (Own.ints (aB o2 fun j hj=>?_)),g3⟩
  ·obtain⟨q1,q2⟩:=World.ownsRow.lt o1 j (by simpa using hj);exact hW j q1 q2
  ·obtain⟨q1,q2⟩:=World.ownsRow.lt o2 j (by simpa using hj);exact hW j q1 q2
 have uj:=CO.out w3 (fun _ _ _=>rfl)
 clear f1 f2 f3;unfold uh at h_;have Y7:=zh uj;have yP:=zh h_;have kQ:=zh (g7.out.after g_);have MA:=zh (jx _ _ (uH d) w3 uj (BB hd));have Im:(uH d).labels=3:=rfl;have MB:(uH d).degree=(d:Int):=rfl;rw[Im,MB]at MA;clear h_ g_ uj Im MB jz lW;go_wp2_with fail;rw[<- yP.out];refine MA.out.mono ?_;rintro e w4 ⟨rfl,my⟩;have Ax:=kQ.out.after (show aa w3 w4 from my);have IB:=zh (show aa w3 w4 from my);have hR:=uD.out w4 Ax;have d0:w4.cell? ⟨w.heap.size,0,none⟩=some (.int .i64 0):=by simp[World.cell?,hR]
 have d1:w4.cell? ⟨w.heap.size,1,none⟩=some (.int .i64 0):=by simp[World.cell?,hR]
 have d2:w4.cell? ⟨w.heap.size,2,none⟩=some (.slice none 0 0):=by simp[World.cell?,hR]
 have d3:w4.cell? ⟨w.heap.size,3,none⟩=some (.slice none 0 0):=by simp[World.cell?,hR]
 have f0:=frozen_of_row w4 _ 0 _ _ hR;have f1:=frozen_of_row w4 _ 1 _ _ hR;have f2:=frozen_of_row w4 _ 2 _ _ hR;have f3:=frozen_of_row w4 _ 3 _ _ hR;have Hk:Hid (Below w.heap.size w w4):=aa.after mJ.out.below Ax;clear hR my Ax;go_wp2;refine bodyPost_ret (v:=.tuple #[.agg #[.int .i64 3,.int .i64 d,.slice (some ⟨w2.heap.size,0,none⟩) 2 2,.slice (some ⟨w2.heap.size+1+1+1+1,0,none⟩) 3 3],.bool true]) (by simp[results,Tryz.results15,go_sem, *]) rfl ?_;refine⟨_,_,rfl,?_,(((Hk.out.setCell (by simp) _).setCell (by simp) _).setCell (by simp) _).setCell (by simp) _⟩;refine CO.out _ (fun j q1 q2=>?_)
 have q3:w.heap.size<w0.heap.size:=by rw[bM.out];simp
 rw[Below.heap_setCell _ _ _ j (by simp;omega),Below.heap_setCell _ _ _ j (by simp;omega),Below.heap_setCell _ _ _ j (by simp;omega),Below.heap_setCell _ _ _ j (by simp;omega)];exact IB.out.below.block j q2
theorem uk (v:Value) (xs:List Int) (x:Int) (w:World) (h:aG w v xs):Calls Tryz.prog 12 #[v,.int .i64 x] w fun e w'=>e=.returned (.bool (xs.contains x))/\w=w':=by
 obtain⟨A,c,rfl,er,hm,hA⟩:=h;unfold maxLen at hm;have HA:=zh hA;clear hA
 go_enter Tryz.func12,Tryz.ntmps12
 go_wp2
 go_loop [9] (fun i=>∃k:Nat,k<=xs.length/\i=.int .i64 k/\(xs.take k).contains x=false) (fun i=>xs.length-(intOf i).toNat)
 case atStart=>exact⟨0,Nat.zero_le _,rfl,rfl⟩
 case round=>
  obtain⟨k,hk,rfl,kL⟩:=hrel;have qH:=zh kL;clear kL
  by_cases aH:k<xs.length
  ·have m3:IntKind.i64.wrap ((k:Int)+1)=(k:Int)+1:=aR _ (by omega) (by omega);obtain⟨y,hy⟩:=ax xs k aH;obtain⟨b,off,rfl,hc⟩:=HA.out k y hy;have Hy:=zh hy;clear hy
   by_cases e:y=x
   ·have g1:(y==x)=true:=by simp[e]
    have Hr:Hid (xs.contains x=true):=by show _=_;rw[List.contains_iff_mem,<- e];exact List.mem_of_getElem? Hy.out
    clear e;go_wp2;go_ret;exact⟨cB (by simpa using Hr.out),rfl⟩
   ·have g1:(y==x)=false:=by rw[beq_eq_false_iff_ne];exact e
    have Hn:Hid ((xs.take (k+1)).contains x=false):=by
     show _=_
     rw[aK Hy.out,Bool.eq_false_iff];intro h;rw[List.contains_iff_mem]at h;rcases List.mem_append.1 h with h | h
     ·have h8:=qH.out;rw[List.contains_iff_mem.2 h]at h8;cases h8
     ·rw[List.mem_singleton]at h;exact e h.symm
    clear e;go_wp2
    go_round
    case rel=>exact⟨k+1,by omega,by go_num,Hn.out⟩
    case measure=>simp[intOf];omega
  ·have Hr:Hid (xs.contains x=false):=by show _=_;have h9:=qH.out;rwa [List.take_of_length_le (by omega)]at h9
   go_wp2;go_ret;exact⟨az (by simpa using Hr.out),rfl⟩
structure mK (B:Nat) (W:World) (u v:Value) (xs ys:List Int):Prop where
 a:Own W B u xs
 b:Own W B v ys
 ne:∀j,u.ownBlock=some j->v.ownBlock≠some j
theorem mK.left {B:Nat} {W w':World} {u v:Value} {xs ys:List Int} {g cap:Nat} {x:Int} (h:mK B W u v xs ys) (ho:Own w' B (.slice (some ⟨g,0,none⟩) (xs.length+1) cap) (xs++[x])) (hg:W.grownBy w' u.ownBlock) (hl:u.ownBlock=some g\/g=W.heap.size):
  mK B w' (.slice (some ⟨g,0,none⟩) (xs.length+1) cap) v (xs++[x]) ys:=by
 refine⟨ho,aB h.b fun j hj=>?_,fun j hj hk=>?_⟩
 ·have nP:v.ownBlock=some j:=by simpa using hj
  exact hg.block j (World.ownsRow.lt h.b j nP).2 (fun e=>h.ne j e.symm nP)
 ·have e:g=j:=by simpa[Value.ownBlock]using hj
  subst e;rcases hl with hl | hl
  ·exact h.ne g hl hk
  ·have:=(World.ownsRow.lt h.b g hk).2;omega
theorem mK.swap {B:Nat} {W:World} {u v:Value} {xs ys:List Int} (h:mK B W u v xs ys):mK B W v u ys xs:=⟨h.b,h.a,fun j h1 h2=>h.ne j h2 h1⟩
theorem mK.since {B:Nat} {W w':World} {u v:Value} {xs ys:List Int} (h:mK B W u v xs ys) (hs:aa W w'):mK B w' u v xs ys:=⟨h.a.since hs,h.b.since hs,h.ne⟩
theorem pL {w:World} {ops:Array Oper} {rest:List Oper} {o:Oper} {a:Act} {Q:Exit->Act->World->Prop} (gA:o.guard=none) (s x:Operand)
  (ho:o.op=.call { callee:=.builtin .append,args:=#[s,x],argTypes:=#[33,33] }) {base:Nat} {v u:Value} {uz:List (List Int)} {S:List Nat} {xs:List Int} (hs:a.eval s=v) (h:dU w base v uz S)
  (b:Nat) (hx:a.eval x=.slice (some ⟨b,0,none⟩) 1 1) (hc:w.cell? ⟨b,0,none⟩=some u) (hu:Own w base u xs) (hd:∀j,u.ownBlock=some j->j∉S) (hl:uz.length+1<=4000000) (I2:base<=w.heap.size)
  (k:∀g cap w' S',dU w' base (.slice (some ⟨g,0,none⟩) (uz.length+1) cap) (uz++[xs]) S'->w.grownBy w' v.ownBlock->(∀j∈S',j∈S\/u.ownBlock=some j\/j=w.heap.size)->Below base w w'->wpList Tryz.prog ops Q rest (a.put o.dst (.slice (some ⟨g,0,none⟩) (uz.length+1) cap)) w'):wpList Tryz.prog ops Q (o::rest) a w:=by
 obtain⟨i0,hi,eS,cj,cX⟩:=info_parts DK;have Y8:=bA.range h;have Pf:=h;obtain⟨vs,Ss,r1,r2,r3,r4,r5⟩:=h;obtain⟨A,m,c,rfl⟩:=dF.one (S:=u.ownBlock.toList) ⟨hu,rfl⟩
 refine wpList_append_lies w gA s x 33 ho base 25 i0 _ 1 24 Tryz.underlying33 hi eS cj cX rfl (by decide) v uz.length vs hs r1 ⟨b,0,none⟩ 1 1 [.slice A m c] hx rfl
  (by intro j u hj;match j,hj with | 0,hj=>(simp at hj;subst hj;simpa[Addr.add]using hc) | j+1,hj=>simp at hj) (by simp[Value.oneCell']) (by omega) (by unfold maxLen;omega) (by omega) I2 w.heap.size rfl ?_
 intro g cap w' q1 q2 q3 q4;obtain⟨S',o1,o2⟩:=aM.snoc dF Pf (T:=(Value.slice A m c).ownBlock.toList) ⟨hu,rfl⟩ (fun j hj=>hd j (by simpa using hj)) vs Ss r1 r2 r3 r4 r5 q1 q2 q3
 exact k g cap w' S' o1 q2 (fun j hj=>by rcases o2 j hj with h | h | h <;> simp_all) (Below.grown (Below.refl base w |>.mono (Nat.le_refl _)) q2 I2 (fun q hq=>(Y8 q (by rw[r4,hq];simp)).1))
structure pM (B:Nat) (W:World) (u v:Value) (xs ys:List (List Int)):Prop where
 ex:∃S T,dU W B u xs S/\dU W B v ys T/\∀j∈S,j∉T
theorem pM.swap {B:Nat} {W:World} {u v:Value} {xs ys:List (List Int)} (h:pM B W u v xs ys):pM B W v u ys xs:=by
 obtain⟨S,T,h1,h2,h3⟩:=h.ex;exact⟨T,S,h2,h1,fun j hj hk=>h3 j hk hj⟩
theorem lc {W:World} {B:Nat} {u:Value} {xs:List (List Int)} {S:List Nat} (h:dU W B u xs S) {j:Nat} (hj:u.ownBlock=some j):j∈S:=by
 obtain⟨vs,Ss,r1,r2,r3,r4,r5⟩:=h
 rw[r4,hj];simp
theorem pM.left {B:Nat} {W w':World} {u v u':Value} {xs ys Ve:List (List Int)} {S T S':List Nat} {r:Value} (h1:dU W B u xs S) (h2:dU W B v ys T) (h3:∀j∈S,j∉T)
  (ho:dU w' B u' Ve S') (hg:W.grownBy w' u.ownBlock) (hS:∀j∈S',j∈S\/r.ownBlock=some j\/j=W.heap.size) (hr:∀j,r.ownBlock=some j->j∉T):pM B w' u' v Ve ys:=by
 refine⟨S',T,ho,bA.aac h2 (fun j hj=>hg.block j (bA.range h2 j hj).2 (fun e=>h3 j (lc h1 e.symm) hj)),fun j hj hk=>?_⟩
 rcases hS j hj with h | h | h
 ·exact h3 j h hk
 ·exact hr j h hk
 ·have:=(bA.range h2 j hk).2;omega
theorem zk {p:aN} {n:am} (hp:eA p=true) (hn:aw n=true) {most:Int} (hm:0<=most/\most<=200000):jS p n (dc n) most=true:=by
 have hl:=(jj hp).1;unfold jS;rw[hp,hn,aC.2 hm,Bool.and_true,Bool.true_and,Bool.true_and,xJ];obtain⟨h1,h2⟩:=jn n;rw[Bool.and_eq_true,Bool.and_eq_true];refine⟨decide_eq_true h1,?_,?_⟩
 ·unfold eX;rw[List.all_eq_true];intro v _;exact decide_eq_true (h2 v)
 ·unfold tg;rw[List.all_eq_true];intro v hv;unfold jb;rw[List.all_eq_true];intro x hx;obtain⟨i,hi⟩:=List.getElem?_of_mem hx;have h3:bZ (dc n) v i:=ai hi;have h4:=q9 h3;unfold aE at h4;rw[ag hi]at h4;rw[h4];exact aC.2 ⟨by omega,by omega⟩
theorem CP {d:Nat} (hd:1<=d/\d<=4):rA (lj d)<=1048576/\rA (uH d)<=1048576:=by
 obtain rfl | rfl | rfl | rfl:d=1\/d=2\/d=3\/d=4:=by omega
 all_goals exact⟨by decide +kernel,by decide +kernel⟩
theorem CQ {n:am} (hn:aw n=true) (hl:kU n) {d:Nat} (hd:1<=d/\d<=4):
  (av (lj d) n (dc n) 2000=1\/av (lj d) n (dc n) 2000=3)/\(av (lj d) n (dc n) 2000=1->eo (lj d) n (aD (lj d) n (dc n) 2000)=true/\jF (lj d) n (aD (lj d) n (dc n) 2000)=true):=by
 obtain⟨h1,h2⟩:=BE hn hl hd;have hp:=vR hd;unfold eo at h1;rw[Bool.and_eq_true]at h1;refine⟨DW (BA hp hn h1.2 h2) (zk hp hn (by omega)),fun h=>?_⟩
 exact Bz hp hn (jn n) (By h).2
theorem g4 {w:World} {ops:Array Oper} {rest:List Oper} {o:Oper} {a:Act} {Q:Exit->Act->World->Prop} (gA:o.guard=none) (s x:Operand)
  (ho:o.op=.call { callee:=.builtin .append,args:=#[s,x],argTypes:=#[25,25] }) {B:Nat} {u v:Value} {xs ys:List Int} (hs:a.eval s=u) (h:mK B w u v xs ys) (b:Nat) (y:Int)
  (hx:a.eval x=.slice (some ⟨b,0,none⟩) 1 1) (hc:w.cell? ⟨b,0,none⟩=some (.int .i64 y)) (hl:xs.length+1<=17592186044416) {w0:World} (lf:aa w0 w) (hB:B=w0.heap.size) {p:Addr} {z:Value} (hp:w.cell? p=some z) (Ni:∀j,u.ownBlock=some j->p.block≠j)
  (k:∀g cap w',mK B w' (.slice (some ⟨g,0,none⟩) (xs.length+1) cap) v (xs++[y]) ys->aa w0 w'->w'.cell? p=some z->wpList Tryz.prog ops Q rest (a.put o.dst (.slice (some ⟨g,0,none⟩) (xs.length+1) cap)) w'):wpList Tryz.prog ops Q (o::rest) a w:=by
 subst hB;refine rx gA s x ho hs h.a b y hx hc hl lf.size ?_;intro g cap w' h1 h2 h3 h4;refine k g cap w' (h.left h1 h2 h3) (Below.grown lf h2 lf.size (fun j hj=>(World.ownsRow.lt h.a j hj).1)) ?_
 exact(World.cell?_of_block (h2.block p.block (World.block_lt_of_cell? w _ hp) (fun e=>Ni p.block e.symm rfl))).trans hp
theorem xe (pa pb:Value) (p:aN) (vl:Value) (xs:List Int) (w:World) (h:el w pa pb p) (hl:aG w vl xs) (hs:eW p.nodes) (qc:p.nodes.length<=1048576) (hx:xs.length<=1000):
  Calls Tryz.prog 92 #[.agg #[.int .i64 p.labels,.int .i64 p.degree,pa,pb],vl] w fun e w'=>e=.returned (.bool (p.nodes.contains (db xs)))/\Below w.heap.size w w':=by
 obtain⟨w0,au⟩:∃w0,w0=(w).alloc (.cells #[.int .i64 p.labels,.int .i64 p.degree,pa,pb] 40):=⟨_,rfl⟩
 have bO:Below w.heap.size w w0:=by rw[au];exact((Below.refl _ _).alloc (by simp) _)
 have dV:=h.aab bO;have HP:=zh dV;obtain⟨P0,gL,rfl,lJ,fw,cH⟩:=id dV.1;unfold maxLen at fw;have lK:=zh cH;clear cH;obtain⟨P1,g8,rfl,lL,fx,cJ⟩:=id dV.2;unfold maxLen at fx;have lM:=zh cJ;clear cJ;clear dV h
 have e8:∀W,aa w0 W->W.cell? ⟨w.heap.size,0,none⟩=some (.int .i64 p.labels):=ad (by rw[au];simp)
 have fh:∀W,aa w0 W->W.cell? ⟨w.heap.size,1,none⟩=some (.int .i64 p.degree):=ad (by rw[au];simp)
 have fi:∀W,aa w0 W->W.cell? ⟨w.heap.size,2,none⟩=some (.slice P0 p.nodes.length gL):=ad (by rw[au];simp)
 have pT:∀W,aa w0 W->W.cell? ⟨w.heap.size,3,none⟩=some (.slice P1 p.aad.length g8):=ad (by rw[au];simp)
 have aY:=zh bO;have bM:=zh au;clear bO au;have Hs:=zh hs;have HL:=zh (hl.aab aY.out);obtain⟨AL,cL,rfl,-,-,-⟩:=hl;have Ap:=zh (show ∀X,aa w0 X->bw X (.slice P0 p.nodes.length gL) p.nodes from fun X hX=>(HP.out.aab hX).1)
 clear hs
 go_enter Tryz.func92,Tryz.ntmps92
 go_upto_region 1 with(fail);rw[<- bM.out];have aX:aa w0 w0:=ab _;go_wp2_with fail;obtain⟨r,hr⟩:∃r,p.nodes.contains (db xs)=r:=⟨_,rfl⟩
 have Hr:=zh hr;clear hr;refine(oV _ _ p.nodes xs _ (Ap.out _ aX) HL.out Hs.out qc hx).mono ?_;rw[Hr.out];rintro e w1 ⟨rfl,aJ⟩;have HS:=zh (aa.trans aX aJ);clear aJ aX;go_wp2;go_ret;exact⟨b7 Hr.out.symm,aa.after aY.out HS.out⟩
theorem qu (pa pb:Value) (p:aN) (vl:Value) (xs:List Int) (w:World) (h:el w pa pb p) (hl:aG w vl xs) (jC:1<=p.labels/\p.labels<=8):
  Calls Tryz.prog 91 #[.agg #[.int .i64 p.labels,.int .i64 p.degree,pa,pb],vl] w fun e w'=>e=.returned (.bool (jb xs 0 (p.labels-1)))/\Below w.heap.size w w':=by
 obtain⟨w0,au⟩:∃w0,w0=(w).alloc (.cells #[.int .i64 p.labels,.int .i64 p.degree,pa,pb] 40):=⟨_,rfl⟩
 have bO:Below w.heap.size w w0:=by rw[au];exact((Below.refl _ _).alloc (by simp) _)
 have dV:=h.aab bO;have HP:=zh dV;obtain⟨P0,gL,rfl,lJ,fw,cH⟩:=id dV.1;unfold maxLen at fw;have lK:=zh cH;clear cH;obtain⟨P1,g8,rfl,lL,fx,cJ⟩:=id dV.2;unfold maxLen at fx;have lM:=zh cJ;clear cJ;clear dV h
 have e8:∀W,aa w0 W->W.cell? ⟨w.heap.size,0,none⟩=some (.int .i64 p.labels):=ad (by rw[au];simp)
 have fh:∀W,aa w0 W->W.cell? ⟨w.heap.size,1,none⟩=some (.int .i64 p.degree):=ad (by rw[au];simp)
 have fi:∀W,aa w0 W->W.cell? ⟨w.heap.size,2,none⟩=some (.slice P0 p.nodes.length gL):=ad (by rw[au];simp)
 have pT:∀W,aa w0 W->W.cell? ⟨w.heap.size,3,none⟩=some (.slice P1 p.aad.length g8):=ad (by rw[au];simp)
 have aY:=zh bO;have bM:=zh au;clear bO au;have HL:=zh (hl.aab aY.out);obtain⟨AL,cL,rfl,-,-,-⟩:=hl;have PK:IntKind.i64.wrap (p.labels-1)=p.labels-1:=aR _ (by omega) (by omega)
 go_enter Tryz.func91,Tryz.ntmps91
 go_upto_region 1 with(fail);rw[<- bM.out];have aX:aa w0 w0:=ab _;go_wp2_with fail;refine(e_ _ xs _ _ _ HL.out).mono ?_;rintro e w1 ⟨rfl,aJ⟩;have HS:=zh (aa.trans aX aJ);clear aJ aX;go_wp2;go_ret;exact⟨rfl,aa.after aY.out HS.out⟩
theorem xf:∀args w,(callFunc 90 args).run Tryz.prog w=.ok (.enter 90 args) w:=enters_of Tryz.func90 (by kernel_rfl) rfl
theorem EC (u:Value) (row:List Int) (bp:Nat) (pa pb:Value) (p:aN) (w:World) (h:aG w u row) (hp:el w pa pb p) (jC:1<=p.labels/\p.labels<=8)
  (xM:w.cell? ⟨bp,0,none⟩=some (.int .i64 p.labels)) (bS:w.cell? ⟨bp,1,none⟩=some (.int .i64 p.degree)) (ke:w.cell? ⟨bp,2,none⟩=some pa) (sA:w.cell? ⟨bp,3,none⟩=some pb):
  Calls Tryz.prog 90 #[u,.pointer (some ⟨bp,0,none⟩)] w fun e w'=>e=.returned (.bool (!jb row 0 (p.labels-1)))/\Below w.heap.size w w':=by
 have H:=zh h;have HP:=zh hp;obtain⟨A,c,rfl,-,-,-⟩:=h;obtain⟨⟨P0,z0,rfl,-,-,-⟩,⟨P1,z1,rfl,-,-,-⟩⟩:=hp
 go_enter Tryz.func90,Tryz.ntmps90
 go_wp2_with fail;refine(qu _ _ p _ row _ HP.out H.out jC).mono ?_;rintro e w1 ⟨rfl,hb⟩;go_wp2;go_ret;exact⟨rfl,hb⟩
theorem pN (pa pb ve vi vn vl:Value) (p:aN) (n:am) (l:List (List Int)) (w:World) (hp:el w pa pb p) (h:aI w ve vi vn n) (hl:bw w vl l) (jC:1<=p.labels/\p.labels<=8):
  Calls Tryz.prog 45 #[.agg #[.int .i64 p.labels,.int .i64 p.degree,pa,pb],.agg #[ve,vi,vn],vl] w fun e w'=>e=.returned (.bool (di p n l))/\Below w.heap.size w w':=by
 obtain⟨w0,au⟩:∃w0,w0=((w).alloc (.cells #[.int .i64 p.labels,.int .i64 p.degree,pa,pb] 40)).alloc (.cells #[ve,vi,vn] 27):=⟨_,rfl⟩
 have bO:Below w.heap.size w w0:=by rw[au];exact(((Below.refl _ _).alloc (by simp <;> omega) _).alloc (by simp <;> omega) _)
 have H:=zh (h.aab bO);obtain⟨h1,h2,h3⟩:=h.aab bO;obtain⟨A,c,rfl,er,hm,hA⟩:=h1;obtain⟨A2,c2,rfl,_,et,_⟩:=h2;obtain⟨A3,c3,rfl,_,fG,_⟩:=h3;unfold maxLen at hm et fG;have dV:=hp.aab bO;have HP:=zh dV;obtain⟨P0,gL,rfl,lJ,fw,cH⟩:=id dV.1;unfold maxLen at fw;have lK:=zh cH;clear cH;obtain⟨P1,g8,rfl,lL,fx,cJ⟩:=id dV.2;unfold maxLen at fx;have lM:=zh cJ;clear cJ;clear dV hp
 have e8:∀W,aa w0 W->W.cell? ⟨w.heap.size,0,none⟩=some (.int .i64 p.labels):=ad (by rw[au];simp)
 have fh:∀W,aa w0 W->W.cell? ⟨w.heap.size,1,none⟩=some (.int .i64 p.degree):=ad (by rw[au];simp)
 have fi:∀W,aa w0 W->W.cell? ⟨w.heap.size,2,none⟩=some (.slice P0 p.nodes.length gL):=ad (by rw[au];simp)
 have pT:∀W,aa w0 W->W.cell? ⟨w.heap.size,3,none⟩=some (.slice P1 p.aad.length g8):=ad (by rw[au];simp)
 have vj:∀W,aa w0 W->W.cell? ⟨w.heap.size+1,0,none⟩=some (.slice A n.ends.length c):=ad (by rw[au];simp)
 have C7:∀W,aa w0 W->W.cell? ⟨w.heap.size+1,1,none⟩=some (.slice A2 n.ids.length c2):=ad (by rw[au];simp)
 have C8:∀W,aa w0 W->W.cell? ⟨w.heap.size+1,2,none⟩=some (.slice A3 n.aaa.length c3):=ad (by rw[au];simp)
 have aY:=zh bO;have bM:=zh au;have HA:=zh hA;clear hA h;clear bO au;have HL:=zh (show ∀X,aa w0 X->bw X vl l from fun X hX=>(hl.aab aY.out).aab hX.below)
 have qi:=zh (show ∀X,aa w0 X->aI X (.slice A n.ends.length c) (.slice A2 n.ids.length c2) (.slice A3 n.aaa.length c3) n from fun X hX=>H.out.aab hX.below)
 have ma:=zh (show ∀X,aa w0 X->el X (.slice P0 p.nodes.length gL) (.slice P1 p.aad.length g8) p from fun X hX=>HP.out.aab hX)
 obtain⟨AL,cL,rfl,-,-,-⟩:=hl;have Db:=zh (And.intro e8 (And.intro fh (And.intro fi pT)))
 go_enter Tryz.func45,Tryz.ntmps45
 go_upto_region 1 with(fail);rw[<- bM.out];have hs:aa w0 w0:=ab _;go_wp2_with fail;refine(nh _ _ _ _ n l _ (qi.out _ hs) (HL.out _ hs)).mono ?_;rintro e W ⟨rfl,hb⟩;have hW:aa w0 W:=hs.trans hb;have HW:=zh hW;clear hb hs hW e8 fh fi pT vj C7 C8;cases dy:gc n l
 ·have Hr:Hid (di p n l=false):=by show _=_;unfold di;rw[dy];rfl
  clear dy;go_wp2;go_ret;exact⟨az Hr.out,aa.after aY.out HW.out⟩
 ·have Hr:Hid (di p n l=xN p l):=by show _=_;unfold di;rw[dy];rfl
  clear dy;go_wp2_with fail;refine(fy _ l 90 #[.pointer (some ⟨w.heap.size,0,none⟩)] (fun c => !jb c 0 (p.labels-1)) _ (HL.out _ HW.out) xf (fun c hc u X hX hu=>EC u c _ _ _ p X hu (ma.out X (HW.out.after hX)) jC (Db.out.1 X (HW.out.after hX)) (Db.out.2.1 X (HW.out.after hX)) (Db.out.2.2.1 X (HW.out.after hX)) (Db.out.2.2.2 X (HW.out.after hX)))).mono ?_
  rintro e W2 ⟨rfl,hb⟩;have sK:=zh (HW.out.trans hb);clear hb;go_wp2;go_ret
  exact⟨b7 (by rw[Hr.out];rfl),aa.after aY.out sK.out⟩
end Go.Proofs.YtgjggeapebbcbaaGreat
