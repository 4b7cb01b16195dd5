/- Parts of the proof: walks of functions and plain laws. -/
import Derived.Test.YtnioemnkfojmkaaGreatP0
import Derived.Test.YtnioemnkfojmkaaGreatP2
import Derived.Test.YtnioemnkfojmkaaGreatP1
import Derived.Lib.SliceRun
import Derived.Laws.EntriesVeiled
set_option maxRecDepth 100000
set_option maxHeartbeats 16000000
namespace Go.Proofs.YtnioemnkfojmkaaGreat
open Go Go.RowKit
def iC (dl:List (List (Int×Int))) (v i:Int):Int×Int:=(dl.getD v.toNat []).getD i.toNat (0,0)
theorem yS {n:aw} (h:aW n=true) {v i:Int} (hp:dq n.ends v i=true):
  dq n.ends (iC n.ends v i).1 (iC n.ends v i).2=true/\iC n.ends (iC n.ends v i).1 (iC n.ends v i).2=(v,i):=by
 unfold dq at hp;rw[Bool.and_eq_true]at hp;obtain⟨p1,p2⟩:=hp;obtain⟨p3,p4⟩:=aL.1 p1;obtain⟨k,rfl⟩:=Int.eq_ofNat_of_zero_le p3;have hk:k<n.ends.length:=by omega
 obtain⟨es,ca⟩:=ay n.ends k hk;rw[Int.toNat_natCast,ak ca]at p2;obtain⟨p5,p6⟩:=aL.1 p2;obtain⟨j,rfl⟩:=Int.eq_ofNat_of_zero_le p5;have hj:j<es.length:=by omega
 obtain⟨⟨y1,y2⟩,hy⟩:=ay es j hj;have e:iC n.ends (k:Int) (j:Int)=(y1,y2):=by simp[iC,ca,hy]
 rw[e];unfold aW at h;rw[Bool.and_eq_true,List.all_eq_true]at h
 have:=h.2 k (List.mem_range.2 hk)
 rw[ak ca]at this;unfold gA at this;rw[Bool.and_eq_true,List.all_eq_true]at this
 have:=this.2 j (List.mem_range.2 hj)
 rw[ak hy]at this;unfold kc at this;rw[Bool.and_eq_true]at this;exact⟨this.1,by simpa[yL,iC]using this.2⟩
theorem pm {n:aw} (h:aW n=true):1<=n.ends.length/\n.ends.length<=40:=by
 unfold aW at h;simp only[Bool.and_eq_true]at h
 have:=aL.1 h.1.1.1
 omega
theorem Ea {dl:List (List (Int×Int))} {v i:Int} (hp:dq dl v i=true):0<=v/\v<dl.length:=by
 unfold dq at hp;rw[Bool.and_eq_true]at hp
 have:=aL.1 hp.1
 omega
theorem Own.since {w w':World} {base:Nat} {v:Value} {xs:List Int} (h:Own w base v xs) (hs:aa w w'):Own w' base v xs:=h.ac2 hs
theorem po {w w0:World} {ops:Array Oper} {rest:List Oper} {o:Oper} {a:Act} {Q:Exit->Act->World->Prop} (iz:o.guard=none) (s x:Operand)
  (ho:o.op=.call { callee:=.builtin .append,args:=#[s,x],argTypes:=#[28,28] }) {v:Value} {xs:List Int} (hs:a.eval s=v) (h:Own w w0.heap.size v xs) (b:Nat) (y:Int)
  (hx:a.eval x=.slice (some ⟨b,0,none⟩) 1 1) (hc:w.cell? ⟨b,0,none⟩=some (.int .i64 y)) (hl:xs.length+1<=17592186044416) (pO:aa w0 w)
  (k:∀g cap w',Own w' w0.heap.size (.slice (some ⟨g,0,none⟩) (xs.length+1) cap) (xs++[y])->aa w0 w'->wpList Tryz.prog ops Q rest (a.put o.dst (.slice (some ⟨g,0,none⟩) (xs.length+1) cap)) w'):wpList Tryz.prog ops Q (o::rest) a w:=by
 refine rs iz s x ho hs h b y hx hc hl pO.size ?_;intro g cap w' h1 h2 h3 h4;exact k g cap w' h1 (Below.grown pO h2 pO.size (fun j hj=>(World.ownsRow.lt h j hj).1))
theorem kd {w:World} {v:Value} {dl:List (List (Int×Int))} {k:Nat} {es:List (Int×Int)} (h:no w v dl) (ca:dl[k]?=some es):
  ∃(b off c:Nat) (u:Value),v=.slice (some ⟨b,off,none⟩) dl.length c/\k<dl.length/\w.cell? ⟨b,off+k,none⟩=some u/\zL w u es:=by
 obtain⟨A,c,rfl,f_,hm,hA⟩:=h;obtain⟨b,off,u,rfl,hc,aD⟩:=hA k es ca;exact⟨b,off,c,u,rfl,al ca,hc,aD⟩
theorem Eb (ve vi vn:Value) (n:aw) (k:Nat) (es:List (Int×Int)) (w:World) (h:aU w ve vi vn n) (ca:n.ends[k]?=some es) (uG:es.length<=1000000):
  Calls Tryz.prog 168 #[.agg #[ve,vi,vn],.int .i64 k] w fun e w'=>∃u,e=.returned u/\Own w' w.heap.size u (es.map (·.1))/\Below w.heap.size w w':=by
 obtain⟨w0,A,c,A2,c2,A3,c3,rfl,rfl,rfl,f_,hm,fq,fF,HA,cS,bQ,H,gP,ig,ii⟩:=zB h;clear h
 obtain⟨b,off,c',u,hA,hk,dG,aD⟩:=kd H.out.es ca;cases hA;obtain⟨A1,z1,rfl,dP,eO,nN⟩:=aD;unfold maxLen at eO;have r1:=ab dG;have NF:=zh nN;clear dG nN ca
 go_enter Tryz.func168,Tryz.ntmps168
 go_upto_region 1 with(fail);rw[<- cS.out];have bu:aa w0 w0:=ad _;go_wp2
 go_loopw [5,14] (fun u i wr=>∃j:Nat,j<=es.length/\i=.int .i64 j/\Own wr w0.heap.size u ((es.take j).map (·.1))/\aa w0 wr) (fun _ i _=>es.length-(intOf i).toNat)
 case atStart=>exact⟨0,Nat.zero_le _,rfl,by simpa using iP w0 w0.heap.size,bu⟩
 case round=>
  obtain⟨j,hj,rfl,ho,hs⟩:=hrel;have Ho:=zh ho;clear bu ho
  by_cases aH:j<es.length
  ·obtain⟨⟨x1,x2⟩,hx⟩:=ay es j aH;obtain⟨b1,D5,rfl,yN,kq⟩:=NF.out j _ hx;have t1:=ab yN;have t2:=ab kq;have Hx:=zh hx;clear hx yN kq
   have dQ:((es.take j).map (·.1)).length+1<=17592186044416:=by simp;omega
   have lM:=zh dQ;clear dQ
   go_wp2_with (at_builtin;refine po rfl _ _ rfl rfl (Ho.out.since (ae _ (ae _ (ad _)))) (wr.heap.size+1) x1 rfl (by simp[go_sem]) lM.out (ae _ (ae _ hs)) ?_;intro g cc w2 dW dZ)
   have E2:Hid (((es.take j).map (·.1)).length=j):=by show _=_;simp;omega
   have e1:(es.take j).map (·.1)++[x1]=(es.take (j+1)).map (·.1):=by rw[bX Hx.out];simp
   rw[e1]at dW;have nW:=zh dW;have gn:=zh dZ;clear dW dZ hs e1;go_wp2;go_roundw
   case rel=>exact⟨j+1,by omega,by go_num,by first | exact nW.out | (have:=nW.out;rw[E2.out]at this;exact this),gn.out⟩
   case measure=>simp[intOf];omega
  ·obtain rfl:j=es.length:=by omega
   go_wp2;go_ret
   exact⟨_,rfl,by have:=Ho.out;rw[List.take_length]at this;exact this.mono bQ.out.size,aa.after bQ.out hs⟩
theorem H5 {n:aw} (h:aW n=true) {k:Nat} {es:List (Int×Int)} (ca:n.ends[k]?=some es):es.length<=6/\∀e∈es,0<=e.1/\e.1<n.ends.length:=by
 have hk:=al ca;have h':=h;unfold aW at h;rw[Bool.and_eq_true,List.all_eq_true]at h
 have:=h.2 k (List.mem_range.2 hk)
 rw[ak ca]at this;unfold gA at this;rw[Bool.and_eq_true,List.all_eq_true]at this;refine⟨by simpa using this.1,fun e he=>?_⟩
 obtain⟨j,hj⟩:=List.getElem?_of_mem he
 have:=this.2 j (List.mem_range.2 (al hj))
 rw[ak hj]at this;unfold kc at this;rw[Bool.and_eq_true]at this;exact Ea this.1
theorem B5 {w:World} {ops:Array Oper} {rest:List Oper} {o:Oper} {a:Act} {Q:Exit->Act->World->Prop} (iz:o.guard=none) (s x:Operand)
  (ho:o.op=.call { callee:=.builtin .append,args:=#[s,x],argTypes:=#[28,28] }) {base:Nat} {v:Value} {xs:List Int} (hs:a.eval s=v) (h:Own w base v xs) (b off c:Nat) (ys:List Int)
  (hx:a.eval x=.slice (some ⟨b,off,none⟩) ys.length c) (hc:∀j y,ys[j]?=some y->w.cell? ⟨b,off+j,none⟩=some (.int .i64 y)) (hy:0<ys.length) (hl:xs.length+ys.length<=17592186044416) (iB:base<=w.heap.size)
  (k:∀g cap w',Own w' base (.slice (some ⟨g,0,none⟩) (xs.length+ys.length) cap) (xs++ys)->w.grownBy w' v.ownBlock->(v.ownBlock=some g\/g=w.heap.size)->g<w'.heap.size->wpList Tryz.prog ops Q rest (a.put o.dst (.slice (some ⟨g,0,none⟩) (xs.length+ys.length) cap)) w'):wpList Tryz.prog ops Q (o::rest) a w:=by
 obtain⟨i0,hi,eu,dP,eO⟩:=info_parts l8
 refine wpList_append_lies w iz s x 28 ho base 3 i0 (.int .i64 0) 1 8 Tryz.underlying28 hi eu dP eO rfl (by decide) v xs.length (xs.map (Value.int .i64)) hs h ⟨b,off,none⟩ ys.length c (ys.map (Value.int .i64)) hx (by simp)
  (by
   intro j u hj;rw[List.getElem?_map]at hj
   cases hyj:ys[j]? with
   | none=>rw[hyj]at hj;simp at hj
   | some y=>
    rw[hyj]at hj;simp at hj
    subst hj;rw[Go.Addr.add_lit]
    exact hc j y hyj) (by simp[Value.oneCell']) hy (by unfold maxLen;omega) (by omega) iB w.heap.size rfl ?_
 intro g cap w' h1 h2 h3 h4;refine k g cap w' ?_ h2 h3 h4;unfold Own;simpa using h1
theorem H7 (v:Value) (xs:List Int) (w:World) (h:bO w v xs) (h0':0<xs.length) (hl:xs.length<=17592186044416):
  Calls Tryz.prog 101 #[v] w fun e w'=>∃u,e=.returned u/\Own w' w.heap.size u xs/\Below w.heap.size w w':=by
 obtain⟨A,c,rfl,f_,hm,hA⟩:=h;unfold maxLen at hm;have ho:=dv w [] (by simp[maxLen]);simp only[List.map_nil,List.length_nil]at ho;obtain⟨y0,Jl⟩:=ay xs 0 (by omega);obtain⟨b,off,rfl,_⟩:=hA 0 y0 Jl
 have HA:Hid (∀j y,xs[j]?=some y->w.cell? ⟨b,off+j,none⟩=some (.int .i64 y)):=fun j y hj=>by
  obtain⟨b',md,e,hc⟩:=hA j y hj;cases e;exact hc
 have Ho:=zh ho;clear hA Jl ho
 go_enter Tryz.func101,Tryz.ntmps101
 go_wp2_with (at_builtin;refine B5 rfl _ _ rfl rfl Ho.out b off c xs rfl (fun j y hj=>bc (ao _ _) (HA.out j y hj)) h0' (by simpa using hl) (by simp) ?_;intro g cc w2 dW Ec _ _)
 simp only[List.length_nil,Nat.zero_add,List.nil_append]at dW ⊢
 have nW:=zh dW;have kP:Hid (Below w.heap.size w w2):=(ao w _).grown Ec (by simp) (fun j hj=>(World.ownsRow.lt Ho.out j hj).1)
 clear dW Ec;go_wp2;go_ret;exact⟨_,rfl,nW.out,kP.out⟩
theorem jr {n:aw} (h:gO n<=1048576):n.ids.length<=17592186044416:=by unfold gO at h;omega
def jL (ls:List Int) (lo hi:Int):Bool:=ls.all (fT lo hi)
theorem ru (v:Value) (xs:List Int) (lo hi:Int) (w:World) (h:bO w v xs):
  Calls Tryz.prog 87 #[v,.int .i64 lo,.int .i64 hi] w fun e w'=>e=.returned (.bool (jL xs lo hi))/\w=w':=yI v xs lo hi w h
theorem iD (v:Value) (xs:List Int) (lo hi:Int) (w:World) (h:bO w v xs):
  Calls Tryz.prog 83 #[v,.int .i64 lo,.int .i64 hi] w fun e w'=>e=.returned (.bool (jL xs lo hi))/\Below w.heap.size w w':=qd v xs lo hi w h
structure az where
 labels:Int
 degree:Int
 nodes:List (List Int)
 ac3:List (List Int)
def du (xs:List Int):List Int:=xs.mergeSort fun x y=>decide (x<=y)
def ed:List Int->List Int->Int
 | [],[]=>0
 | [],_::_ => -1
 | _::_,[]=>1
 | a::x,b::y=>if a<b then -1 else if b<a then 1 else ed x y
theorem sJ (x:List Int):ed x x=0:=by
 induction x with
 | nil=>rfl
 | cons a x ih=>simp[ed,ih]
theorem NQ {x y:List Int} (h:ed x y=0):x=y:=by
 induction x generalizing y with
 | nil=>cases y with
  | nil=>rfl
  | cons b y=>simp[ed]at h
 | cons a x ih=>cases y with
  | nil=>simp[ed]at h
  | cons b y=>
   simp only[ed]at h
   split at h
   ·omega
   ·split at h
    ·omega
    ·rw[ih h,show a=b by omega]
theorem lN {x y z:List Int} (h:ed x y<0) (k:ed y z<0):ed x z<0:=by
 induction x generalizing y z with
 | nil=>cases z with
  | nil=>cases y with
   | nil=>simp[ed]at k
   | cons=>simp[ed]at k
  | cons=>simp[ed]
 | cons a x ih=>
  cases y with
  | nil=>simp[ed]at h
  | cons b y=>
   cases z with
   | nil=>simp[ed]at k
   | cons c z=>
    simp only[ed]at h k ⊢
    split at h
    ·split at k
     ·rw[if_pos (by omega)];omega
     ·split at k
      ·omega
      ·rw[if_pos (by omega)];omega
    ·split at h
     ·omega
     ·split at k
      ·rw[if_pos (by omega)];omega
      ·split at k
       ·omega
       ·rw[if_neg (by omega),if_neg (by omega)];exact ih h k
theorem mh {x y:List Int} (k:Nat) (h:x.take k=y.take k) (hx:k<=x.length) (hy:k<=y.length):ed x y=ed (x.drop k) (y.drop k):=by
 induction k generalizing x y with
 | zero=>simp
 | succ k ih=>
  cases x with
  | nil=>simp at hx
  | cons a x=>cases y with
   | nil=>simp at hy
   | cons b y=>
    simp only[List.take_succ_cons,List.cons.injEq]at h;simp only[ed,List.drop_succ_cons];rw[if_neg (by omega),if_neg (by omega)];exact ih h.2 (by simpa using hx) (by simpa using hy)
theorem yT {x y:List Int} (k:Nat) {a b:Int} (h:x.take k=y.take k) (hx:x[k]?=some a) (hy:y[k]?=some b) (qe:a≠b):ed x y=if a<b then -1 else 1:=by
 have h1:=(List.getElem?_eq_some_iff.1 hx);have h2:=(List.getElem?_eq_some_iff.1 hy);obtain⟨l1,e1⟩:=h1;obtain⟨l2,e2⟩:=h2;rw[mh k h (by omega) (by omega),List.drop_eq_getElem_cons l1,List.drop_eq_getElem_cons l2,e1,e2];simp only[ed]
 split
 ·rfl
 ·rw[if_pos (by omega)]
def dR (l:List (List Int)):Prop:=∀(i j:Nat) (x y:List Int),i<j->l[i]?=some x->l[j]?=some y->ed x y<0
theorem x_ {l:List (List Int)} (h:∀(i:Nat) (x y:List Int),l[i]?=some x->l[i+1]?=some y->ed x y<0):dR l:=by
 intro i j x y NJ hx hy
 induction j generalizing y with
 | zero=>omega
 | succ j ih=>
  rcases Nat.lt_or_ge i j with h1 | h1
  ·obtain⟨z,hz⟩:∃z,l[j]?=some z:=by
    have:=(List.getElem?_eq_some_iff.1 hy).1
    exact⟨l[j]'(by omega),List.getElem?_eq_getElem (by omega)⟩
   exact lN (ih z h1 hz) (h j z y hz hy)
  ·obtain rfl:i=j:=by omega
   exact h i x y hx hy
theorem JS {l:List (List Int)} {t:List Int} {i:Nat} (hs:dR l) (h1:∀k x,k<i->l[k]?=some x->ed x t<0) (h2:∀k x,i<=k->l[k]?=some x->¬ed x t<0):
  (match l[i]? with | some x=>ed x t==0 | none=>false)=l.contains t:=by
 have ts:l.contains t=true↔∃k:Nat,l[k]?=some t:=by
  rw[List.contains_iff_mem,List.mem_iff_getElem?]
 cases hx:l[i]? with
 | none=>
  symm
  rw[Bool.eq_false_iff];intro hc;obtain⟨k,hk⟩:=ts.1 hc;have e1:l.length<=i:=List.getElem?_eq_none_iff.1 hx;have e2:=(List.getElem?_eq_some_iff.1 hk).1
  have:=h1 k t (by omega) hk
  rw[sJ]at this;omega
 | some x=>
  by_cases h0:ed x t=0
  ·have:=NQ h0
   subst this;simp only[h0,beq_self_eq_true];exact(ts.2 ⟨i,hx⟩).symm
  ·have hf:(ed x t==0)=false:=by simpa using h0
   simp only[hf]
   symm
   rw[Bool.eq_false_iff];intro hc;obtain⟨k,hk⟩:=ts.1 hc;rcases Nat.lt_trichotomy k i with h | h | h
   ·have:=h1 k t h hk
    rw[sJ]at this;omega
   ·subst h;rw[hx]at hk;cases hk;exact h0 (sJ _)
   ·have:=hs i k x t h hx hk
    exact h2 i x (Nat.le_refl _) hx this
def kr (c:List Int):Bool:=(List.range (c.length-1)).all fun i=>decide (c.getD i 0<=c.getD (i+1) 0)
def B6 (size labels:Int) (c:List Int):Bool:=((c.length:Int)==size)&&(kr c&&jL c 0 (labels-1))
def iR (l:List (List Int)) (size labels:Int) (i:Nat):Bool:=B6 size labels (l.getD i [])&&(i==0||decide (ed (l.getD (i-1) []) (l.getD i [])<0))
def vG (l:List (List Int)) (size labels:Int):Bool:=(List.range l.length).all (iR l size labels)
theorem vH {l:List (List Int)} {size labels:Int}:vG l size labels=true↔∀i,i<l.length->iR l size labels i=true:=by simp[vG,List.all_eq_true]
theorem lA {l:List (List Int)} {size labels:Int} {i:Nat} (hi:i<l.length) (h:iR l size labels i=false):vG l size labels=false:=by
 rw[Bool.eq_false_iff];intro hc;rw[vH.1 hc i hi]at h;cases h
theorem n_ {l:List (List Int)} {size labels:Int} (h:vG l size labels=true):dR l:=by
 apply x_
 intro i x y hx hy;have h1:=(List.getElem?_eq_some_iff.1 hy).1;have h2:=vH.1 h (i+1) h1;unfold iR at h2;simp only[Bool.and_eq_true,Bool.or_eq_true,Nat.add_sub_cancel,zDd,hx,hy,Option.getD_some,decide_eq_true_eq]at h2;rcases h2.2 with h3 | h3
 ·simp at h3
 ·exact h3
theorem JT {l:List (List Int)} {size labels:Int} (h:vG l size labels=true) {i:Nat} {c:List Int} (hc:l[i]?=some c):B6 size labels c=true:=by
 have h1:=(List.getElem?_eq_some_iff.1 hc).1;have h2:=vH.1 h i h1;unfold iR at h2;simp only[Bool.and_eq_true,zDd,hc,Option.getD_some]at h2;exact h2.1
def dF (p:az):Bool:=fT 1 8 p.labels&&(fT 1 4 p.degree&&(vG p.nodes p.degree p.labels&&vG p.ac3 2 p.labels))
def et (c:List Int):List Int->Bool
 | []=>true
 | a::l=>match c.dropWhile (fun x=>decide (x<a)) with
  | []=>false
  | x::r=>(x==a)&&et r l
theorem yU {c l:List Int} {k:Nat} {x a:Int} (hx:c[k]?=some x) (h:x<a):et (c.drop k) (a::l)=et (c.drop (k+1)) (a::l):=by
 obtain⟨h1,h2⟩:=List.getElem?_eq_some_iff.1 hx;rw[List.drop_eq_getElem_cons h1,h2];simp[et,h]
theorem B7 {c l:List Int} {k:Nat} {a:Int} (hx:c[k]?=some a):et (c.drop k) (a::l)=et (c.drop (k+1)) l:=by
 obtain⟨h1,h2⟩:=List.getElem?_eq_some_iff.1 hx;rw[List.drop_eq_getElem_cons h1,h2];simp[et]
theorem B8 {c l:List Int} {k:Nat} {a:Int} (h:c.length<=k):et (c.drop k) (a::l)=false:=by
 rw[List.drop_eq_nil_iff.2 h];simp[et]
theorem yV {c l:List Int} {k:Nat} {x a:Int} (hx:c[k]?=some x) (h:¬x<a) (hn:x≠a):et (c.drop k) (a::l)=false:=by
 obtain⟨h1,h2⟩:=List.getElem?_eq_some_iff.1 hx;rw[List.drop_eq_getElem_cons h1,h2];simp[et,h,hn]
def dK (row:List Int):List Int:=row.filter fun a=>decide (0<=a)
def dL (p:az) (row:List Int):Bool:=!((row.length:Int)==p.degree)||p.nodes.any fun c=>et c (du (dK row))
def edgeB (p:az) (a b:Int):Bool:=p.ac3.contains [min a b,max a b]
theorem H8 {xs:List Int} {a:Int}:a∈du xs↔a∈xs:=by unfold du;exact List.mem_mergeSort
theorem fP (xs:List Int):(du xs).Pairwise (· <= ·):=by
 have:=List.pairwise_mergeSort (le:=fun x y:Int=>decide (x<=y)) (by intro _ _ _;simp;omega) (by intro _ _;simp;omega) xs
 exact this.imp (by simp)
theorem iq (xs:List Int):(du xs).Perm xs:=List.mergeSort_perm _ _
theorem oa {xs ys:List Int} (h:xs.Perm ys) (h1:xs.Pairwise (· <= ·)) (h2:ys.Pairwise (· <= ·)):xs=ys:=
 List.Perm.eq_of_pairwise (fun _ _ _ _ h1 h2=>Int.le_antisymm h1 h2) h1 h2 h
theorem B9 (xs:List Int) (q:Int->Bool):du (xs.filter q)=(du xs).filter q:=
 oa ((iq _).trans ((iq xs).symm.filter q)) (fP _) ((fP xs).filter q)
theorem H9 (a b:Int):du [a,b]=[min a b,max a b]:=by
 apply oa
 ·refine(iq _).trans ?_;rcases Int.le_total a b with h | h
  ·rw[Int.min_eq_left h,Int.max_eq_right h]
  ·rw[Int.min_eq_right h,Int.max_eq_left h];exact List.Perm.swap _ _ _
 ·exact fP _
 ·simp;omega
def cF (l:List (List Int)) (e:Int×Int):Int:=(l.getD e.1.toNat []).getD e.2.toNat 0
def fc (p:az) (ends:List (List (Int×Int))) (l:List (List Int)) (e:Int×Int):Bool:=
 let f:=(ends.getD e.1.toNat []).getD e.2.toNat (0,0)
 decide (cF l e<0)||(decide (cF l f<0)||edgeB p (cF l e) (cF l f))
def g_ (p:az) (ends:List (List (Int×Int))) (l:List (List Int)) (v:Nat):Bool:=
 dL p (l.getD v [])&&(List.range (l.getD v []).length).all fun i=>fc p ends l ((v:Int),(i:Int))
def dS (p:az) (ends:List (List (Int×Int))) (l:List (List Int)):Bool:=(List.range l.length).all (g_ p ends l)
def yW (v:Nat) (row:List Int):List (Int×Int):=((List.range row.length).filter fun i=>decide (row.getD i 0<0)).map fun i=>((v:Int),((i:Nat):Int))
def gQ (l:List (List Int)) (k:Nat):List (Int×Int):=(List.range k).flatMap fun v=>yW v (l.getD v [])
def fB (l:List (List Int)):List (Int×Int):=gQ l l.length
def fQ (v:Nat) (row:List Int) (k:Nat):List (Int×Int):=((List.range k).filter fun i=>decide (row.getD i 0<0)).map fun i=>((v:Int),((i:Nat):Int))
theorem qv (l:List (List Int)) (k:Nat):gQ l (k+1)=gQ l k++yW k (l.getD k []):=by simp[gQ,List.range_succ]
theorem tx (v:Nat) (row:List Int) (k:Nat):fQ v row (k+1)=fQ v row k++(if row.getD k 0<0 then [((v:Int),(k:Int))] else []):=by
 unfold fQ;rw[List.range_succ,List.filter_append,List.map_append];congr 1
 by_cases h:row.getD k 0<0
 ·rw[if_pos h,List.filter_cons_of_pos (by simpa using h)];rfl
 ·rw[if_neg h,List.filter_cons_of_neg (by simpa using h)];rfl
def dA (l:List (List Int)) (e:Int×Int) (x:Int):List (List Int):=l.set e.1.toNat ((l.getD e.1.toNat []).set e.2.toNat x)
abbrev FX:=Int×List (List Int)×Int×Int
def ft (p:az) (ends:List (List (Int×Int))) (ah:List (Int×Int)) (most:Int):Nat->List (List Int)->Int->Int->FX
 | 0,l,aO,st=>(0,l,aO,st)
 | f+1,l,aO,st=>
  if aO<0 then (2,l,aO,st)
  else if aO=ah.length then (1,l,aO,st)
  else
   let e:=ah.getD aO.toNat (0,0)
   if cF l e=p.labels-1 then ft p ends ah most f (dA l e (-1)) (aO-1) st
   else if st=most then (3,l,aO,st)
   else
    let l':=dA l e (cF l e+1)
    if dL p (l'.getD e.1.toNat [])&&fc p ends l' e then ft p ends ah most f l' (aO+1) (st+1)
    else ft p ends ah most f l' aO (st+1)
def bW {σ:Type} (nx:σ->List (List Int)->Bool×σ) (p:az) (ends:List (List (Int×Int))) (ah:List (Int×Int)) (most:Int):Nat->σ->List (List Int)->Int->Int->σ×FX
 | 0,s,l,aO,st=>(s,0,l,aO,st)
 | f+1,s,l,aO,st=>
  if aO<0 then (s,2,l,aO,st)
  else if aO=ah.length then
   if (nx s l).1 then bW nx p ends ah most f (nx s l).2 l (aO-1) st else ((nx s l).2,1,l,aO,st)
  else
   let e:=ah.getD aO.toNat (0,0)
   if cF l e=p.labels-1 then bW nx p ends ah most f s (dA l e (-1)) (aO-1) st
   else if st=most then (s,3,l,aO,st)
   else
    let l':=dA l e (cF l e+1)
    if dL p (l'.getD e.1.toNat [])&&fc p ends l' e then bW nx p ends ah most f s l' (aO+1) (st+1)
    else bW nx p ends ah most f s l' aO (st+1)
def ap (most aO st:Int):Nat:=(2*(most-st)+aO+2).toNat
theorem H_ (p:az) (ends:List (List (Int×Int))) (ah:List (Int×Int)) (most:Int) (f g:Nat) (l:List (List Int)) (aO st:Int) (ct:st<=most) (hp : -1<=aO) (hf:ap most aO st<=f) (hg:ap most aO st<=g):ft p ends ah most f l aO st=ft p ends ah most g l aO st:=by
 unfold ap at hf hg
 induction f generalizing g l aO st with
 | zero=>omega
 | succ f ih=>
  cases g with
  | zero=>omega
  | succ g=>
   simp only[ft]
   by_cases h1:aO<0
   ·rw[if_pos h1,if_pos h1]
   ·rw[if_neg h1,if_neg h1]
    by_cases h2:aO=ah.length
    ·rw[if_pos h2,if_pos h2]
    ·rw[if_neg h2,if_neg h2]
     by_cases h3:cF l (ah.getD aO.toNat (0,0))=p.labels-1
     ·rw[if_pos h3,if_pos h3];exact ih g _ _ _ ct (by omega) (by omega) (by omega)
     ·rw[if_neg h3,if_neg h3]
      by_cases h4:st=most
      ·rw[if_pos h4,if_pos h4]
      ·rw[if_neg h4,if_neg h4,ih g _ (aO+1) (st+1) (by omega) (by omega) (by omega) (by omega),ih g _ aO (st+1) (by omega) (by omega) (by omega) (by omega)]
theorem mG {σ:Type} (nx:σ->List (List Int)->Bool×σ) (p:az) (ends:List (List (Int×Int))) (ah:List (Int×Int)) (most:Int) (f g:Nat) (s:σ) (l:List (List Int)) (aO st:Int) (ct:st<=most) (hp : -1<=aO) (hf:ap most aO st<=f) (hg:ap most aO st<=g):bW nx p ends ah most f s l aO st=bW nx p ends ah most g s l aO st:=by
 unfold ap at hf hg
 induction f generalizing g s l aO st with
 | zero=>omega
 | succ f ih=>
  cases g with
  | zero=>omega
  | succ g=>
   simp only[bW]
   by_cases h1:aO<0
   ·rw[if_pos h1,if_pos h1]
   ·rw[if_neg h1,if_neg h1]
    by_cases h2:aO=ah.length
    ·rw[if_pos h2,if_pos h2,ih g _ _ (aO-1) st ct (by omega) (by omega) (by omega)]
    ·rw[if_neg h2,if_neg h2]
     by_cases h3:cF l (ah.getD aO.toNat (0,0))=p.labels-1
     ·rw[if_pos h3,if_pos h3];exact ih g _ _ _ _ ct (by omega) (by omega) (by omega)
     ·rw[if_neg h3,if_neg h3]
      by_cases h4:st=most
      ·rw[if_pos h4,if_pos h4]
      ·rw[if_neg h4,if_neg h4,ih g _ _ (aO+1) (st+1) (by omega) (by omega) (by omega) (by omega),ih g _ _ aO (st+1) (by omega) (by omega) (by omega) (by omega)]
theorem mi (p:az) (ends:List (List (Int×Int))) (ah:List (Int×Int)) (most:Int) (f:Nat) (l:List (List Int)) (aO st:Int) (ct:st<=most) (hp : -1<=aO) (hf:ap most aO st<=f):
  ft p ends ah most f l aO st=(if aO<0 then (2,l,aO,st)
  else if aO=ah.length then (1,l,aO,st)
  else
   let e:=ah.getD aO.toNat (0,0)
   if cF l e=p.labels-1 then ft p ends ah most f (dA l e (-1)) (aO-1) st
   else if st=most then (3,l,aO,st)
   else
    let l':=dA l e (cF l e+1)
    if dL p (l'.getD e.1.toNat [])&&fc p ends l' e then ft p ends ah most f l' (aO+1) (st+1)
    else ft p ends ah most f l' aO (st+1)):=by
 rw[H_ p ends ah most f (f+1) l aO st ct hp hf (by omega)];unfold ap at hf;simp only[ft]
theorem ir {σ:Type} (nx:σ->List (List Int)->Bool×σ) (p:az) (ends:List (List (Int×Int))) (ah:List (Int×Int)) (most:Int) (f:Nat) (s:σ) (l:List (List Int)) (aO st:Int) (ct:st<=most) (hp : -1<=aO) (hf:ap most aO st<=f):
  bW nx p ends ah most f s l aO st=(if aO<0 then (s,2,l,aO,st)
  else if aO=ah.length then
   if (nx s l).1 then bW nx p ends ah most f (nx s l).2 l (aO-1) st else ((nx s l).2,1,l,aO,st)
  else
   let e:=ah.getD aO.toNat (0,0)
   if cF l e=p.labels-1 then bW nx p ends ah most f s (dA l e (-1)) (aO-1) st
   else if st=most then (s,3,l,aO,st)
   else
    let l':=dA l e (cF l e+1)
    if dL p (l'.getD e.1.toNat [])&&fc p ends l' e then bW nx p ends ah most f s l' (aO+1) (st+1)
    else bW nx p ends ah most f s l' aO (st+1)):=by
 rw[mG nx p ends ah most f (f+1) s l aO st ct hp hf (by omega)];simp only[bW]
theorem vI (p:az) (ends:List (List (Int×Int))) (ah:List (Int×Int)) (most:Int) (f:Nat) (l:List (List Int)) (aO st:Int) (ct:st<=most) (hp : -1<=aO) (sG:aO<=ah.length) (hf:ap most aO st<=f):
  let r:=ft p ends ah most f l aO st
  r.2.2.2<=most /\ -1<=r.2.2.1/\r.2.2.1<=ah.length/\st<=r.2.2.2/\ap most r.2.2.1 r.2.2.2<=ap most aO st/\(r.1=1->r.2.2.1=ah.length)/\(r.1=1\/r.1=2\/r.1=3):=by
 unfold ap at hf ⊢
 induction f generalizing l aO st with
 | zero=>omega
 | succ f ih=>
  simp only[ft]
  by_cases h1:aO<0
  ·rw[if_pos h1];simp;omega
  ·rw[if_neg h1]
   by_cases h2:aO=ah.length
   ·rw[if_pos h2];simp;omega
   ·rw[if_neg h2]
    by_cases h3:cF l (ah.getD aO.toNat (0,0))=p.labels-1
    ·rw[if_pos h3];obtain⟨a1,a2,a3,a4,a5,a6,a7⟩:=ih (dA l (ah.getD aO.toNat (0,0)) (-1)) (aO-1) st ct (by omega) (by omega) (by omega);exact⟨a1,a2,a3,a4,by omega,a6,a7⟩
    ·rw[if_neg h3]
     by_cases h4:st=most
     ·rw[if_pos h4];simp;omega
     ·rw[if_neg h4]
      by_cases h5:(dL p ((dA l (ah.getD aO.toNat (0,0)) (cF l (ah.getD aO.toNat (0,0))+1)).getD (ah.getD aO.toNat (0,0)).1.toNat [])&&fc p ends (dA l (ah.getD aO.toNat (0,0)) (cF l (ah.getD aO.toNat (0,0))+1)) (ah.getD aO.toNat (0,0)))=true
      ·rw[if_pos h5];obtain⟨a1,a2,a3,a4,a5,a6,a7⟩:=ih (dA l (ah.getD aO.toNat (0,0)) (cF l (ah.getD aO.toNat (0,0))+1)) (aO+1) (st+1) (by omega) (by omega) (by omega) (by omega);exact⟨a1,a2,a3,by omega,by omega,a6,a7⟩
      ·rw[if_neg h5];obtain⟨a1,a2,a3,a4,a5,a6,a7⟩:=ih (dA l (ah.getD aO.toNat (0,0)) (cF l (ah.getD aO.toNat (0,0))+1)) aO (st+1) (by omega) (by omega) (by omega) (by omega);exact⟨a1,a2,a3,by omega,by omega,a6,a7⟩
theorem rv {σ:Type} (nx:σ->List (List Int)->Bool×σ) (p:az) (ends:List (List (Int×Int))) (ah:List (Int×Int)) (most:Int) (f g:Nat) (s:σ) (l:List (List Int)) (aO st:Int)
  (ct:st<=most) (hp : -1<=aO) (sG:aO<=ah.length) (hf:ap most aO st<=f) (hg:ap most aO st<=g):
  bW nx p ends ah most f s l aO st=(let r:=ft p ends ah most f l aO st
   if r.1=1 then (if (nx s r.2.1).1 then bW nx p ends ah most g (nx s r.2.1).2 r.2.1 (r.2.2.1-1) r.2.2.2 else ((nx s r.2.1).2,r)) else (s,r)):=by
 unfold ap at hf hg
 induction f generalizing l aO st with
 | zero=>omega
 | succ f ih=>
  simp only[ft,bW]
  by_cases h1:aO<0
  ·simp[h1]
  ·rw[if_neg h1,if_neg h1]
   by_cases h2:aO=ah.length
   ·rw[if_pos h2,if_pos h2];simp only[if_true];rw[mG nx p ends ah most f g _ l (aO-1) st ct (by omega) (by unfold ap;omega) (by unfold ap;omega)]
   ·rw[if_neg h2,if_neg h2]
    by_cases h3:cF l (ah.getD aO.toNat (0,0))=p.labels-1
    ·rw[if_pos h3,if_pos h3];exact ih _ _ _ ct (by omega) (by omega) (by omega) (by omega)
    ·rw[if_neg h3,if_neg h3]
     by_cases h4:st=most
     ·rw[if_pos h4,if_pos h4];simp
     ·rw[if_neg h4,if_neg h4]
      by_cases h5:(dL p ((dA l (ah.getD aO.toNat (0,0)) (cF l (ah.getD aO.toNat (0,0))+1)).getD (ah.getD aO.toNat (0,0)).1.toNat [])&&fc p ends (dA l (ah.getD aO.toNat (0,0)) (cF l (ah.getD aO.toNat (0,0))+1)) (ah.getD aO.toNat (0,0)))=true
      ·rw[if_pos h5,if_pos h5];exact ih _ (aO+1) (st+1) (by omega) (by omega) (by omega) (by omega) (by omega)
      ·rw[if_neg h5,if_neg h5];exact ih _ aO (st+1) (by omega) (by omega) (by omega) (by omega) (by omega)
theorem pp (x:Int) (w:World):Calls Tryz.prog 195 #[.int .i64 x] w fun e w'=>e=.returned (.bool false)/\w=w':=by
 go_enter Tryz.func195,Tryz.ntmps195
 go_wp2;go_ret;exact⟨rfl,rfl⟩
theorem B_ (x y:Int) (w:World):Calls Tryz.prog 175 #[.int .i64 x,.int .i64 y] w fun e w'=>e=.returned (.bool (decide (x<y)))/\w=w':=by
 go_enter Tryz.func175,Tryz.ntmps175
 go_wp2_with (go_at_call 195;refine(pp _ _).mono ?_;rintro e w' ⟨rfl,rfl⟩)
 go_ret;exact⟨rfl,rfl⟩
theorem Ia (x y:Int) (w:World):Calls Tryz.prog 175 #[.int .i64 x,.int .i64 y] w fun e w'=>e=.returned (.bool (decide (x<y)))/\Below w.heap.size w w':=(B_ x y w).mono fun _ _ ⟨h1,h2⟩=>⟨h1,h2 ▸ Below.refl _ _⟩
def Ca (x y:Int):Int:=if x<y then -1 else if y<x then 1 else 0
theorem vJ (x y:Int) (w:World):Calls Tryz.prog 176 #[.int .i64 x,.int .i64 y] w fun e w'=>e=.returned (.int .i64 (Ca x y))/\w=w':=by
 have hc:Ca x y=if x<y then -1 else if y<x then 1 else 0:=rfl;rcases Int.lt_trichotomy x y with h | h | h
 ·rw[if_pos h]at hc;rw[hc];clear hc
  go_enter Tryz.func176,Tryz.ntmps176
  go_wp2_with (go_at_call 195;refine(pp _ _).mono ?_;rintro e w' ⟨rfl,rfl⟩)
  go_ret;exact⟨rfl,rfl⟩
 ·subst h;rw[if_neg (by omega),if_neg (by omega)]at hc;rw[hc];clear hc
  go_enter Tryz.func176,Tryz.ntmps176
  go_wp2_with (go_at_call 195;refine(pp _ _).mono ?_;rintro e w' ⟨rfl,rfl⟩)
  go_ret;exact⟨rfl,rfl⟩
 ·rw[if_neg (by omega),if_pos h]at hc;rw[hc];clear hc;have h2:¬x<y:=by omega
  go_enter Tryz.func176,Tryz.ntmps176
  go_wp2_with (go_at_call 195;refine(pp _ _).mono ?_;rintro e w' ⟨rfl,rfl⟩)
  go_ret;exact⟨rfl,rfl⟩
theorem ee {w:World} {A:Option Addr} {xs:List Int} (hA:∀k x,xs[k]?=some x->∃b off,A=some ⟨b,off,none⟩/\w.cell? ⟨b,off+k,none⟩=some (.int .i64 x)) {k:Nat} (hk:k<xs.length):∃x b off,xs[k]?=some x/\A=some ⟨b,off,none⟩/\w.cell? ⟨b,off+k,none⟩=some (.int .i64 x):=by
 obtain⟨x,hx⟩:=ay xs k hk;obtain⟨b,off,h1,h2⟩:=hA k x hx;exact⟨x,b,off,hx,h1,h2⟩
theorem lB {c:List Int}:kr c=true↔∀i,i+1<c.length->c.getD i 0<=c.getD (i+1) 0:=by
 unfold kr;rw[List.all_eq_true];constructor
 ·intro h i hi
  have:=h i (List.mem_range.2 (by omega))
  simpa using this
 ·intro h i hi
  have:=List.mem_range.1 hi
  simpa using h i (by omega)
theorem vK {c:List Int} {i:Nat} {x y:Int} (hx:c[i]?=some x) (hy:c[i+1]?=some y) (h:y<x):kr c=false:=by
 rw[Bool.eq_false_iff];intro hc
 have:=lB.1 hc i (al hy)
 rw[ak hx,ak hy]at this;omega
theorem iS (v:Value) (xs:List Int) (w:World) (h:bO w v xs):
  Calls Tryz.prog 132 #[v] w fun e w'=>e=.returned (.bool (kr xs))/\Below w.heap.size w w':=by
 obtain⟨A,c,rfl,f_,hm,hA⟩:=h;unfold maxLen at hm;have HA:=zh hA;clear hA
 go_enter Tryz.func132,Tryz.ntmps132
 go_wp2
 go_loopw [3] (fun i wr=>∃k:Int,-1<=k/\k<xs.length/\i=.int .i64 k/\(∀i:Nat,k<=i->i+1<xs.length->xs.getD i 0<=xs.getD (i+1) 0)/\Below w.heap.size w wr) (fun i _=>(intOf i+1).toNat)
 case atStart=>exact⟨_,by omega,by omega,rfl,fun i h1 h2=>by omega,Below.refl _ _⟩
 case round=>
  obtain⟨k,pM,nP,rfl,bH,hb⟩:=hrel;have eV:=zh bH;have Hb:=zh hb;clear bH hb
  by_cases Ry:k>0
  ·obtain⟨m,U2⟩:=Int.eq_ofNat_of_zero_le (by omega:0<=k-1);obtain rfl:k=((m+1:Nat):Int):=by omega
   clear U2;obtain⟨x,b,off,hx,rfl,dG⟩:=ee HA.out (k:=m+1) (by omega);obtain⟨y,b',md,hy,he,lK⟩:=ee HA.out (k:=m) (by omega);cases he;have q1:=ab (bc Hb.out dG);have q2:=ab (bc Hb.out lK);have Hx:=zh hx;have Hy:=zh hy
   have dQ:(m:Int)+1<xs.length:=by have:=al hx;omega
   have tz:(m:Int)<xs.length:=by omega
   have hpm:(0:Int)<=(m:Int)+1:=by omega
   have wm:IntKind.i64.wrap (m:Int)=(m:Int):=aE _ (by omega) (by omega)
   have w1:IntKind.i64.wrap (((m+1:Nat):Int)-1)=(m:Int):=by rw[aE _ (by omega) (by omega)];omega
   clear hx hy dG lK;go_upto_region 4 with(fail);refine am 10 (aa wr) (by kernel_rfl) (by kernel_rfl) (by simp) (ag (ad _)) ?_;simp only[zT]
   iterate 9 (refine bF rfl ?_;simp only[zA])
   refine cH ?_ rfl ?_ ?_;rotate_left;(intro W hW;unfold ba;go_simp;(with_reducible refine(Ia _ _ W).mono ?_);rintro e W' ⟨rfl,aG⟩;first | (refine⟨?_,aa.trans hW aG⟩;with_reducible rfl) | (subst aG;refine⟨?_,hW⟩;with_reducible rfl))
   simp only[zA];intro W5 ke;have qw:=zh (Hb.out.trans (ke.mono Hb.out.size));clear ke q1 q2
   by_cases aH:x<y
   ·have hd:decide (x<y)=true:=by simpa using aH
    go_wp2;go_ret;exact⟨aB (vK Hy.out Hx.out aH),qw.out⟩
   ·have hd:decide (x<y)=false:=by simpa using aH
    go_wp2;go_roundw
    case rel=>
     refine⟨(m:Int),by omega,by omega,by go_num,fun i h1 h2=>?_,qw.out⟩
     rcases Int.lt_or_le (m:Int) i with h3 | h3
     ·exact eV.out i (by omega) h2
     ·obtain rfl:i=m:=by omega
      rw[ak Hy.out,ak Hx.out];omega
    case measure=>simp[intOf];omega
  ·go_wp2;go_ret;exact⟨dn (lB.2 fun i hi=>eV.out i (by omega) hi),Hb.out⟩
theorem fl (v u:Value) (xs ys:List Int) (w:World) (h:bO w v xs) (h':bO w u ys):
  Calls Tryz.prog 133 #[v,u] w fun e w'=>e=.returned (.int .i64 (ed xs ys))/\Below w.heap.size w w':=by
 obtain⟨A,c,rfl,f_,hm,hA⟩:=h;obtain⟨A2,c2,rfl,Ib,fq,FY⟩:=h';unfold maxLen at hm fq;have HA:=zh hA;have NR:=zh FY;clear hA FY
 go_enter Tryz.func133,Tryz.ntmps133
 go_wp2
 go_loop [11] (fun i=>∃k:Nat,k<=xs.length/\k<=ys.length/\i=.int .i64 k/\xs.take k=ys.take k) (fun i=>xs.length-(intOf i).toNat)
 case atStart=>exact⟨0,Nat.zero_le _,Nat.zero_le _,rfl,by simp⟩
 case round=>
  obtain⟨k,hk,nP,rfl,it⟩:=hrel;have lk:=zh it;clear it
  by_cases aH:k<xs.length
  ·obtain⟨x,b,off,hx,rfl,dG⟩:=ee HA.out aH;have Hx:=zh hx
   by_cases eD:k<ys.length
   ·obtain⟨y,b',md,hy,rfl,lK⟩:=ee NR.out eD;have Hy:=zh hy;clear hx hy
    by_cases yR:x=y
    ·subst yR;have hz:Ca x x=0:=by simp[Ca]
     go_wp2_with (go_at_call 176;refine(vJ _ _ _).mono ?_;rw[hz];rintro e w' ⟨rfl,rfl⟩)
     go_round
     case rel=>exact⟨k+1,by omega,by omega,by go_num,by rw[bX Hx.out,bX Hy.out,lk.out]⟩
     case measure=>simp[intOf];omega
    ·have hr:Hid (ed xs ys=Ca x y):=by
      show _=_
      rw[yT k lk.out Hx.out Hy.out yR];unfold Ca
      split
      ·rfl
      ·rw[if_pos (by omega)]
     obtain⟨z,hz⟩:∃z,Ca x y=z:=⟨_,rfl⟩
     have eu:z≠0:=by rw[<- hz];unfold Ca;split;omega;rw[if_pos (by omega)];omega
     have Hz:=zh hz;clear hz
     go_wp2_with (go_at_call 176;refine(vJ _ _ _).mono ?_;rw[Hz.out];rintro e w' ⟨rfl,rfl⟩)
     go_ret;exact⟨jG (by rw[hr.out,Hz.out]),Below.refl _ _⟩
   ·have hr:Hid (ed xs ys=1):=by
     show _=_
     obtain rfl:k=ys.length:=by omega
     rw[mh ys.length lk.out (by omega) (Nat.le_refl _),List.drop_eq_getElem_cons aH,List.drop_length];rfl
    clear hx;go_wp2;go_ret;exact⟨jG hr.out.symm,Below.refl _ _⟩
  ·obtain rfl:k=xs.length:=by omega
   by_cases zO:xs.length<ys.length
   ·have hr:Hid (ed xs ys = -1):=by
     show _=_
     rw[mh xs.length lk.out (Nat.le_refl _) (by omega),List.drop_eq_getElem_cons zO,List.drop_length];rfl
    go_wp2;go_ret;exact⟨jG hr.out.symm,Below.refl _ _⟩
   ·have hr:Hid (ed xs ys=0):=by
     show _=_
     rw[mh xs.length lk.out (Nat.le_refl _) (by omega),List.drop_length,List.drop_eq_nil_iff.2 (by omega)];rfl
    go_wp2;go_ret;exact⟨jG hr.out.symm,Below.refl _ _⟩
theorem zP (v u:Value) (c l:List Int) (w:World) (h:bO w v c) (h':bO w u l):
  Calls Tryz.prog 140 #[v,u] w fun e w'=>e=.returned (.bool (et c l))/\Below w.heap.size w w':=by
 obtain⟨A,z,rfl,f_,hm,hA⟩:=h;obtain⟨A2,z2,rfl,Ib,fq,FY⟩:=h';unfold maxLen at hm fq;have HA:=zh hA;have NR:=zh FY;clear hA FY
 go_enter Tryz.func140,Tryz.ntmps140
 go_wp2
 go_loop [5,10] (fun a i=>∃k j:Nat,k<=c.length/\j<=l.length/\a=.int .i64 k/\i=.int .i64 j/\et c l=et (c.drop k) (l.drop j)) (fun _ i=>l.length-(intOf i).toNat)
 case atStart=>exact⟨0,0,Nat.zero_le _,Nat.zero_le _,rfl,rfl,by simp⟩
 case round=>
  obtain⟨k,j,hk,hj,rfl,rfl,it⟩:=hrel;have lk:=zh it;clear it
  by_cases aH:j<l.length
  ·obtain⟨a,b2,rj,ha,rfl,lK⟩:=ee NR.out aH
   have Ha:Hid (l.drop j=a::l.drop (j+1)):=by
    show _=_
    obtain⟨h1,h2⟩:=List.getElem?_eq_some_iff.1 ha;rw[List.drop_eq_getElem_cons h1,h2]
   clear ha;go_upto_region 5 with(fail)
   go_loop [5] (fun p=>∃k:Nat,k<=c.length/\p=.int .i64 k/\et c l=et (c.drop k) (l.drop j)) (fun p=>c.length-(intOf p).toNat)
   case atStart=>exact⟨k,hk,rfl,lk.out⟩
   case round=>
    obtain⟨k,hk,rfl,it⟩:=hrel;have lk:=zh it;clear it
    by_cases hkc:k<c.length
    ·obtain⟨x,b,off,hx,rfl,dG⟩:=ee HA.out hkc;have Hx:=zh hx;clear hx
     by_cases DC:x<a
     ·go_wp2
      go_round
      case rel=>exact⟨k+1,by omega,by go_num,by rw[lk.out,Ha.out,yU Hx.out DC]⟩
      case measure=>simp[intOf];omega
     ·by_cases gb:x=a
      ·subst gb;go_wp2
       go_round
       case rel=>exact⟨k+1,j+1,by omega,by omega,by go_num,by go_num,by rw[lk.out,Ha.out,B7 Hx.out]⟩
       case measure=>simp[intOf];omega
      ·have aas:(x != a)=true:=by simpa using gb
       have xR:((k:Int)==(c.length:Int))=false:=by simp;omega
       go_wp2;go_ret;exact⟨aB (by rw[lk.out,Ha.out,yV Hx.out (by omega) gb]),Below.refl _ _⟩
    ·obtain rfl:k=c.length:=by omega
     go_wp2;go_ret;exact⟨aB (by rw[lk.out,Ha.out,B8 (Nat.le_refl _)]),Below.refl _ _⟩
  ·obtain rfl:j=l.length:=by omega
   go_wp2;go_ret
   exact⟨dn (by rw[lk.out,List.drop_length];cases c.drop k <;> rfl),Below.refl _ _⟩
def a_ (w:World) (v:Value) (sK:List (List Int)):Prop:=
 ∃(A:Option Addr) (c:Nat),v=.slice A sK.length c/\sK.length<=c/\c<=maxLen /\
  (∀k xs,sK[k]?=some xs->∃b off u,A=some ⟨b,off,none⟩/\w.cell? ⟨b,off+k,none⟩=some u/\bO w u xs)
theorem a_.ac2 {w w':World} {v:Value} {xs:List (List Int)} (h:a_ w v xs) (hb:Below w.heap.size w w'):a_ w' v xs:=by
 obtain⟨A,c,hv,hc,hm,hA⟩:=h;refine⟨A,c,hv,hc,hm,fun k x hk=>?_⟩
 obtain⟨b,off,u,vv,h1,h2⟩:=hA k x hk;exact⟨b,off,u,vv,bc hb h1,h2.ac2 hb⟩
def bz:World->Nat->Value->List (List Int)->List Nat->Prop:=bg 28 kR
theorem aI:ej bz:=ep _ er
theorem kR.read {w:World} {base:Nat} {v:Value} {xs:List Int} {S:List Nat} (h:kR w base v xs S):bO w v xs:=h.1.ints
theorem bz.read {w:World} {base:Nat} {v:Value} {dl:List (List Int)} {S:List Nat} (h:bz w base v dl S):a_ w v dl:=by
 obtain⟨vs,Ss,h1,h2,h3,h4,h5⟩:=h;rcases dh h1 with⟨rfl,h0⟩ | ⟨g,c,rfl,hb,hg,hc,hm⟩
 ·obtain rfl:dl=[]:=List.eq_nil_of_length_eq_zero h0
  exact⟨none,0,rfl,Nat.le_refl _,Nat.zero_le _,fun k x hk=>by simp at hk⟩
 ·have lW:vs.length=dl.length:=by simpa using h1.1
  refine⟨_,c,rfl,hc,hm,fun k x hk=>?_⟩
  have aH:=al hk;obtain⟨u,hu⟩:=ay vs k (by omega);obtain⟨T,hT⟩:=ay Ss k (by omega)
  exact⟨g,0,u,rfl,by rw[Nat.zero_add,h1.cellAt (cap:=c) _ (by omega)];exact hu,kR.read (h3 k u x T hu hk hT)⟩
def ya (dl:List (List Int)):Nat:=(dl.map List.length).sum
def oc (dl:List (List Int)):Nat:=dl.length+ya dl
theorem Ic:(Tryz.prog.info? 28).map (fun i=>(i.zero,i.size,i.bytes))=some (some (.slice none 0 0),1,24):=by kernel_rfl
section
variable {ops : Array Oper} {rest : List Oper} {o : Oper} {a : Act} {Q : Exit → Act → World → Prop}
theorem Cb (w:World) (hg:o.guard=none) (l c:Operand) (qc:o.op=Op.makeSlice 24 l c) (n:Nat) (hl:a.eval l=.int .i64 (n:Int)) (hc:a.eval c=.int .i64 (n:Int)) (hn:n<=1048576)
  (hK:∀w',bz w' w.heap.size (.slice (some ⟨w.heap.size,0,none⟩) n n) (List.replicate n []) [w.heap.size]->Below w.heap.size w w'->wpList Tryz.prog ops Q rest (a.put o.dst (.slice (some ⟨w.heap.size,0,none⟩) n n)) w'):wpList Tryz.prog ops Q (o::rest) a w:=by
 obtain⟨i0,hi,eu,dP,eO⟩:=info_parts Ic;refine wpList_plain hg fun K hK'=>?_
 have hr:=run_make (P:=Tryz.prog) w 24 28 i0 (.slice none 0 0) Tryz.underlying24 hi eu .i64 .i64 n n (by omega) (Int.le_refl _) (by rw[eO];omega) (by omega)
 rw[dP]at hr;simp only[Int.toNat_natCast]at hr;rw[show(Value.slice none 0 0).cells=#[Value.slice none 0 0]from rfl,vD]at hr
 unfold Oper.wp;simp only[execOp,qc,hl,hc,Sem.run_bind,hr,Result.andThen_ok,Sem.run_pure];refine hK' _ _ (hK _ ?_ (ao _ _))
 have:=bg.made (R:=kR) (e:=28) n (by simp[maxLen];omega) kS w
 rw[List.toArray_replicate]at this;exact this
end
def Rz (x:Int):Int:=if x>0 then 1 else if x<0 then -1 else 0
theorem Ee (x:Int) (w:World):Calls Tryz.prog 187 #[.int .i64 x] w fun e w'=>e=.returned (.int .i64 (Rz x))/\w=w':=by
 have hc:Rz x=if x>0 then 1 else if x<0 then -1 else 0:=rfl;rcases Int.lt_trichotomy x 0 with h | h | h
 ·have h2:¬x>0:=by omega
  rw[if_neg h2,if_pos h]at hc;rw[hc];clear hc
  go_enter Tryz.func187,Tryz.ntmps187
  go_wp2;go_ret;exact⟨rfl,rfl⟩
 ·subst h;rw[if_neg (by omega),if_neg (by omega)]at hc;rw[hc];clear hc
  go_enter Tryz.func187,Tryz.ntmps187
  go_wp2;go_ret;exact⟨rfl,rfl⟩
 ·have h2:¬x<0:=by omega
  rw[if_pos h]at hc;rw[hc];clear hc
  go_enter Tryz.func187,Tryz.ntmps187
  go_wp2;go_ret;exact⟨rfl,rfl⟩
theorem od (v u:Value) (xs ys:List Int) (w:World) (h:bO w v xs) (h':bO w u ys) (hl:xs.length=ys.length) (hx:∀x∈xs,-1000<=x/\x<=1000) (hy:∀y∈ys,-1000<=y/\y<=1000):
  Calls Tryz.prog 148 #[v,u] w fun e w'=>e=.returned (.int .i64 (ed xs ys))/\w=w':=by
 obtain⟨A,c,rfl,f_,hm,hA⟩:=h;obtain⟨A2,c2,rfl,Ib,fq,FY⟩:=h';unfold maxLen at hm fq;have HA:=zh hA;have NR:=zh FY;have Hl:=zh hl;have HX:=zh hx;have HY:=zh hy;clear hA FY hl hx hy
 go_enter Tryz.func148,Tryz.ntmps148
 go_wp2
 go_loop [9] (fun i=>∃k:Nat,k<=xs.length/\i=.int .i64 k/\xs.take k=ys.take k) (fun i=>xs.length-(intOf i).toNat)
 case atStart=>exact⟨0,Nat.zero_le _,rfl,by simp⟩
 case round=>
  obtain⟨k,hk,rfl,it⟩:=hrel;have lk:=zh it;clear it
  by_cases aH:k<xs.length
  ·obtain⟨x,b,off,hx,rfl,dG⟩:=ee HA.out aH;have Hx:=zh hx
   have eD:k<ys.length:=by rw[<- Hl.out];exact aH
   obtain⟨y,b',md,hy,rfl,lK⟩:=ee NR.out eD;have Hy:=zh hy;clear hx hy
   by_cases yR:x=y
   ·subst yR;go_wp2
    go_round
    case rel=>exact⟨k+1,by omega,by go_num,by rw[bX Hx.out,bX Hy.out,lk.out]⟩
    case measure=>simp[intOf];omega
   ·have hr:=zh (yT k lk.out Hx.out Hy.out yR);have dj:=HX.out x (List.mem_of_getElem? Hx.out);have U3:=HY.out y (List.mem_of_getElem? Hy.out);have w1:IntKind.i64.wrap (x-y)=x-y:=aE _ (by omega) (by omega)
    go_wp2_with (go_at_call 187;refine(Ee _ _).mono ?_;rintro e w' ⟨rfl,rfl⟩)
    go_ret;refine⟨jG ?_,rfl⟩;rw[hr.out];unfold Rz;rcases Int.lt_or_lt_of_ne yR with h | h
    ·rw[if_neg (by omega),if_pos (by omega),if_pos h]
    ·rw[if_pos (by omega),if_neg (by omega)]
  ·obtain rfl:k=xs.length:=by omega
   have hr:Hid (ed xs ys=0):=by
    show _=_
    rw[mh xs.length lk.out (Nat.le_refl _) (by have:=Hl.out;omega),List.drop_length,List.drop_eq_nil_iff.2 (by have:=Hl.out;omega)];rfl
   go_wp2;go_ret;exact⟨jG hr.out.symm,rfl⟩
theorem mH (v u:Value) (xs ys:List Int) (w:World) (h:bO w v xs) (h':bO w u ys):
  Calls Tryz.prog 167 #[v,u] w fun e w'=>e=.returned (.bool (decide (xs=ys)))/\Below w.heap.size w w':=by
 obtain⟨A,c,rfl,f_,hm,hA⟩:=h;obtain⟨A2,c2,rfl,Ib,fq,FY⟩:=h';unfold maxLen at hm fq;have HA:=zh hA;have NR:=zh FY;clear hA FY
 by_cases t_:xs.length=ys.length
 ·have yb:=zh t_;have RA:(xs.length:Int)=ys.length:=by omega
  clear t_
  go_enter Tryz.func167,Tryz.ntmps167
  go_wp2
  go_loopw [13] (fun i wr=>∃k:Nat,k<=xs.length/\i=.int .i64 k/\xs.take k=ys.take k/\Below w.heap.size w wr) (fun i _=>xs.length-(intOf i).toNat)
  case atStart=>exact⟨0,Nat.zero_le _,rfl,by simp,Below.refl _ _⟩
  case round=>
   obtain⟨k,hk,rfl,it,hb⟩:=hrel;have lk:=zh it;have Hb:=zh hb;clear it hb
   by_cases aH:k<xs.length
   ·obtain⟨x,b,off,hx,rfl,dG⟩:=ee HA.out aH;have Hx:=zh hx
    have eD:k<ys.length:=by have:=yb.out;omega
    obtain⟨y,b',md,hy,rfl,lK⟩:=ee NR.out eD;have Hy:=zh hy;have k1:=bc Hb.out dG;have k2:=bc Hb.out lK;clear hx hy dG lK
    by_cases yR:x=y
    ·subst yR;go_upto_region 6 with(fail)
     go_region
     have kP:=zh (Below.trans Hb.out (below_drewN (Below.refl w.heap.size wr) 1));go_wp2;go_roundw
     case rel=>exact⟨k+1,by omega,by go_num,by rw[bX Hx.out,bX Hy.out,lk.out],kP.out⟩
     case measure=>simp[intOf];omega
    ·go_upto_region 6 with(fail)
     go_region
     have kP:=zh (Below.trans Hb.out (below_drewN (Below.refl w.heap.size wr) 1));go_wp2;go_ret;refine⟨aB (decide_eq_false fun e=>?_),kP.out⟩
     have h1:=Hx.out;rw[e,Hy.out]at h1;exact yR (Option.some.inj h1).symm
   ·obtain rfl:k=xs.length:=by omega
    go_wp2;go_ret;refine⟨dn (decide_eq_true ?_),Hb.out⟩;have h1:=lk.out;rw[List.take_length,yb.out,List.take_length]at h1;exact h1
 ·have RA:¬(xs.length:Int)=ys.length:=by omega
  have yb:=zh t_;clear t_
  go_enter Tryz.func167,Tryz.ntmps167
  go_wp2;go_ret;exact⟨aB (decide_eq_false fun e=>yb.out (by rw[e])),Below.refl _ _⟩
theorem dT {w:World} {A:Option Addr} {c:Nat} {sK:List (List Int)} (h:a_ w (.slice A sK.length c) sK) {k:Nat} (hk:k<sK.length):∃xs b off A1 z,sK[k]?=some xs/\A=some ⟨b,off,none⟩/\w.cell? ⟨b,off+k,none⟩=some (.slice A1 xs.length z)/\xs.length<=z/\z<=9223372036854775807/\bO w (.slice A1 xs.length z) xs:=by
 obtain⟨A',c',e,_,_,hA⟩:=h;cases e;obtain⟨xs,hx⟩:=ay sK k hk;obtain⟨b,off,u,vv,h1,hr⟩:=hA k xs hx;have Jm:=hr;obtain⟨A1,z,rfl,h2,h3,nN⟩:=hr;unfold maxLen at h3;exact⟨xs,b,off,A1,z,hx,vv,h1,h2,by omega,Jm⟩
theorem vL {l:List (List Int)} {size labels:Int} {k:Nat} (h:(List.range k).all (iR l size labels)=true) (hk:iR l size labels k=true):(List.range (k+1)).all (iR l size labels)=true:=by
 rw[eX,h,hk];rfl
theorem JU {l:List (List Int)} {size labels:Int} {k:Nat} {c:List Int} (h:(List.range k).all (iR l size labels)=true) (hk:0<k) (hc:l[k-1]?=some c):B6 size labels c=true:=by
 have:=List.all_eq_true.1 h (k-1) (List.mem_range.2 (by omega))
 unfold iR at this;rw[Bool.and_eq_true,ak hc]at this;exact this.1
theorem RB {size labels:Int} {c:List Int} (h:B6 size labels c=true) (hl:labels<=1000):(c.length:Int)=size/\∀x∈c,-1000<=x/\x<=1000:=by
 unfold B6 at h;simp only[Bool.and_eq_true,beq_iff_eq]at h;refine⟨h.1,fun x hx=>?_⟩
 have:=List.all_eq_true.1 h.2.2 x hx
 rw[aL]at this;omega
theorem tA (v:Value) (l:List (List Int)) (size labels:Int) (w:World) (h:a_ w v l) (hs:1<=size/\size<=4) (hl:1<=labels/\labels<=8):
  Calls Tryz.prog 99 #[v,.int .i64 size,.int .i64 labels] w fun e w'=>e=.returned (.bool (vG l size labels))/\Below w.heap.size w w':=by
 have H:=zh h;obtain⟨A,c,rfl,f_,hm,-⟩:=h;unfold maxLen at hm;have wl:IntKind.i64.wrap (labels-1)=labels-1:=aE _ (by omega) (by omega)
 go_enter Tryz.func99,Tryz.ntmps99
 go_wp2
 go_loopw [12] (fun i wr=>∃k:Nat,k<=l.length/\i=.int .i64 k/\(List.range k).all (iR l size labels)=true/\Below w.heap.size w wr) (fun i _=>l.length-(intOf i).toNat)
 case atStart=>exact⟨0,Nat.zero_le _,rfl,rfl,Below.refl _ _⟩
 case round=>
  obtain⟨k,hk,rfl,bH,hb⟩:=hrel;have eV:=zh bH;have Hb:=zh hb;clear bH hb
  by_cases aH:k<l.length
  ·obtain⟨x,b,off,A1,z,hx,rfl,dG,dP,eO,j6⟩:=dT H.out aH
   replace dG:=bc Hb.out dG
   have Hx:=zh hx;have Hx0:=zh j6;have Bq:=zh (j6.ac2 Hb.out);obtain⟨_,_,e1,_,_,hxc⟩:=id j6;cases e1;have Hxc:=zh hxc;clear hx j6 hxc
   have FZ:Hid (iR l size labels k=(((x.length:Int)==size)&&(kr x&&jL x 0 (labels-1))&&(k==0||decide (ed (l.getD (k-1) []) x<0)))):=by show _=_;unfold iR B6;rw[ak Hx.out]
   by_cases dQ:(x.length:Int)=size
   ·cases qe:jL x 0 (labels-1)
    ·have Cc:=zh qe
     go_wp2_with (go_at_call 87;refine(ru _ x 0 (labels-1) _ Bq.out).mono ?_;rw[Cc.out];rintro e w1 ⟨rfl,rfl⟩)
     go_ret
     exact⟨aB (lA aH (by rw[FZ.out,Cc.out];simp)),Hb.out⟩
    ·have Cc:=zh qe;clear qe
     have hp:k=0\/∃y b' md A2 z2,l[k-1]?=some y/\(some ⟨b,off,none⟩:Option Addr)=some ⟨b',md,none⟩/\wr.cell? ⟨b',md+(k-1),none⟩=some (.slice A2 y.length z2)/\y.length<=z2/\z2<=9223372036854775807/\bO wr (.slice A2 y.length z2) y/\0<k:=by
      rcases Nat.eq_zero_or_pos k with h0 | h0
      ·exact .inl h0
      ·obtain⟨y,b',md,A2,z2,g1,g2,g3,g4,g5,g6⟩:=dT (H.out.ac2 Hb.out) (k:=k-1) (by omega);exact .inr ⟨y,b',md,A2,z2,g1,g2,g3,g4,g5,g6,h0⟩
     rcases hp with h0 | ⟨y,b',md,A2,z2,hy,he,lK,JV,U4,Nb,M7⟩
     case' inl=>
      have Hg:Hid ((k==0||decide (ed (l.getD (k-1) []) x<0))=true):=by show _=_;rw[h0];rfl
      have xR:¬(k:Int)>0:=by omega
      clear h0
      go_upto_region 6 with(go_at_call 87;refine(ru _ x 0 (labels-1) _ Bq.out).mono ?_;rw[Cc.out];rintro e w1 ⟨rfl,rfl⟩)
     case' inr=>
      cases he;have U5:=zh Nb;have Hpr:=zh (RB (JU eV.out M7 hy) (by omega))
      have JW:Hid (∀q∈x,-1000<=q/\q<=1000):=fun q hq=>by have:=aL.1 (List.all_eq_true.1 Cc.out q hq);omega
      have Bt:Hid (y.length=x.length):=by have:=Hpr.out.1;exact show _=_ by omega
      have wk:IntKind.i64.wrap ((k:Int)-1)=((k-1:Nat):Int):=by rw[aE _ (by omega) (by omega)];omega
      obtain⟨cv,Cd⟩:∃cv,ed y x=cv:=⟨_,rfl⟩
      have vM:=zh Cd;have Hy:=zh hy;clear hy Nb Cd
      by_cases lO:cv>=0
      ·go_wp2_with (first | (go_at_call 87;refine(ru _ x 0 (labels-1) _ Bq.out).mono ?_;rw[Cc.out];rintro e w1 ⟨rfl,rfl⟩) | (go_at_call 148;refine(od _ _ y x _ U5.out Bq.out Bt.out Hpr.out.2 JW.out).mono ?_;rw[vM.out];rintro e w1 ⟨rfl,rfl⟩))
       go_ret
       exact⟨aB (lA aH (by rw[FZ.out,ak Hy.out,vM.out];simp;omega)),Hb.out⟩
      have Hg:Hid ((k==0||decide (ed (l.getD (k-1) []) x<0))=true):=by show _=_;rw[ak Hy.out,vM.out];simp;omega
      go_upto_region 6 with(first | (go_at_call 87;refine(ru _ x 0 (labels-1) _ Bq.out).mono ?_;rw[Cc.out];rintro e w1 ⟨rfl,rfl⟩) | (go_at_call 148;refine(od _ _ y x _ U5.out Bq.out Bt.out Hpr.out.2 JW.out).mono ?_;rw[vM.out];rintro e w1 ⟨rfl,rfl⟩))
     all_goals
      have RC:=zh FZ.out;rw[Hg.out,Cc.out]at RC;clear dG
      try clear lK JV U4 wk M7
      go_wp2
      go_loopw [9] (fun i ws=>∃j:Nat,1<=j/\i=.int .i64 j/\(∀q,q+1<j->q+1<x.length->x.getD q 0<=x.getD (q+1) 0)/\Below w.heap.size w ws) (fun i _=>x.length-(intOf i).toNat)
      case atStart=>exact⟨1,Nat.le_refl _,rfl,fun q h=>by omega,Hb.out⟩
      case round=>
       obtain⟨j,tB,rfl,Ef,hb⟩:=hrel;have yX:=zh Ef;have kP:=zh hb;have Hj1:=zh tB;clear Ef hb
       by_cases yY:(j:Int)<size
       ·obtain⟨m,rfl⟩:∃m,j=m+1:=⟨j-1,by omega⟩
        obtain⟨p,bp,op,hp,rfl,lC⟩:=ee Hxc.out (k:=m) (by omega);obtain⟨q,bq,oq,hq,he,iT⟩:=ee Hxc.out (k:=m+1) (by omega);cases he;have k1:=ab (bc kP.out lC);have k2:=ab (bc kP.out iT)
        have wj:IntKind.i64.wrap (((m+1:Nat):Int)-1)=(m:Int):=by rw[aE _ (by omega) (by omega)];omega
        have wm:IntKind.i64.wrap (m:Int)=(m:Int):=aE _ (by omega) (by omega);have vN:(m:Int)<size:=by omega
        have fq:(m:Int)+1<size:=by omega
        have fF:(0:Int)<=(m:Int)+1:=by omega
        have Hp:=zh hp;have Hq:=zh hq;clear hp hq lC iT;go_upto_region 9 with(fail);refine am 10 (aa wr) (by kernel_rfl) (by kernel_rfl) (by simp) (ag (ad _)) ?_;simp only[zT]
        iterate 10 (refine bF rfl ?_;simp only[zA])
        intro W5 ke;have qw:=zh (kP.out.trans (ke.mono kP.out.size));clear ke k1 k2
        by_cases hpq:p>q
        ·go_wp2;go_ret
         exact⟨aB (lA aH (by rw[RC.out,vK Hp.out Hq.out (by omega)];simp)),qw.out⟩
        ·go_wp2;go_roundw
         case rel=>
          refine⟨m+1+1,by omega,by go_num,fun i h1 h2=>?_,qw.out⟩
          rcases Nat.lt_or_ge i m with h3 | h3
          ·exact yX.out i (by omega) h2
          ·obtain rfl:i=m:=by omega
           rw[ak Hp.out,ak Hq.out];omega
         case measure=>simp[intOf];omega
       ·have dJ:Hid (iR l size labels k=true):=by
         show _=_
         rw[RC.out,lB.2 fun i hi=>yX.out i (by omega) hi]
         simp[dQ]
        go_wp2;go_roundw
        case rel=>exact⟨k+1,by omega,by go_num,vL eV.out dJ.out,kP.out⟩
        case measure=>simp[intOf];omega
   ·have lM:=zh dQ;go_wp2;go_ret
    exact⟨aB (lA aH (by rw[FZ.out];simp[lM.out])),Hb.out⟩
  ·obtain rfl:k=l.length:=by omega
   go_wp2;go_ret;exact⟨dn eV.out,Hb.out⟩
def I1 (W:World) (b:Nat) (x:Int):Prop:=W.heap[b]?=some (.cells #[.int .i64 x] 3)
theorem I1.cells {W:World} {b:Nat} {x:Int} (h:I1 W b x):W.cell? ⟨b,0,none⟩=some (.int .i64 x)/\W.frozen? ⟨b,0,none⟩=false:=by
 unfold I1 at h;simp[World.cell?,World.frozen?,h]
theorem I1.lt {W:World} {b:Nat} {x:Int} (h:I1 W b x):b<W.heap.size:=(Array.getElem?_eq_some_iff.1 h).1
theorem I1.since {W W':World} {b:Nat} {x:Int} (h:I1 W b x) (hs:aa W W'):I1 W' b x:=(hs.below.block b h.lt).trans h
theorem I1.set {W:World} {b:Nat} {x:Int} (h:I1 W b x) (y:Int):I1 (W.setCell ⟨b,0,none⟩ (.int .i64 y)) b y:=by
 unfold I1 at *
 simp[World.setCell,Array.getElem?_modify,h]
theorem I1.new (W:World) (x:Int):I1 (W.alloc (.cells #[.int .i64 x] 3)) W.heap.size x:=by
 show(W.heap.push _)[W.heap.size]?=_
 rw[Array.getElem?_push_size]
section
variable {ops : Array Oper}
end
end Go.Proofs.YtnioemnkfojmkaaGreat
