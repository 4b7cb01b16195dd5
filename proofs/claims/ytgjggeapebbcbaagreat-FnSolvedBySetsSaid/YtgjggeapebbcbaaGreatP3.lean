/- Parts of the proof: walks of functions and plain laws. -/
import Derived.Test.YtgjggeapebbcbaaGreatP0
import Derived.Test.YtgjggeapebbcbaaGreatP1
import Derived.Test.YtgjggeapebbcbaaGreatP2
import Derived.Lib.SliceRun
import Derived.Laws.EntriesVeiled
set_option maxRecDepth 100000
set_option maxHeartbeats 16000000
namespace Go.Proofs.YtgjggeapebbcbaaGreat
open Go Go.RowKit
theorem Own.since {w w':World} {base:Nat} {v:Value} {xs:List Int} (h:Own w base v xs) (hs:aa w w'):Own w' base v xs:=h.aab hs
theorem kg {w w0:World} {ops:Array Oper} {rest:List Oper} {o:Oper} {a:Act} {Q:Exit->Act->World->Prop} (gA:o.guard=none) (s x:Operand)
  (ho:o.op=.call { callee:=.builtin .append,args:=#[s,x],argTypes:=#[25,25] }) {v:Value} {xs:List Int} (hs:a.eval s=v) (h:Own w w0.heap.size v xs) (b:Nat) (y:Int)
  (hx:a.eval x=.slice (some ⟨b,0,none⟩) 1 1) (hc:w.cell? ⟨b,0,none⟩=some (.int .i64 y)) (hl:xs.length+1<=17592186044416) (lf:aa w0 w)
  (k:∀g cap w',Own w' w0.heap.size (.slice (some ⟨g,0,none⟩) (xs.length+1) cap) (xs++[y])->aa w0 w'->wpList Tryz.prog ops Q rest (a.put o.dst (.slice (some ⟨g,0,none⟩) (xs.length+1) cap)) w'):wpList Tryz.prog ops Q (o::rest) a w:=by
 refine rx gA s x ho hs h b y hx hc hl lf.size ?_;intro g cap w' h1 h2 h3 h4;exact k g cap w' h1 (Below.grown lf h2 lf.size (fun j hj=>(World.ownsRow.lt h j hj).1))
theorem fo {w:World} {v:Value} {bX:List (List (Int×Int))} {k:Nat} {es:List (Int×Int)} (h:jt w v bX) (ba:bX[k]?=some es):
  ∃(b off c:Nat) (u:Value),v=.slice (some ⟨b,off,none⟩) bX.length c/\k<bX.length/\w.cell? ⟨b,off+k,none⟩=some u/\ol w u es:=by
 obtain⟨A,c,rfl,er,hm,hA⟩:=h;obtain⟨b,off,u,rfl,hc,bT⟩:=hA k es ba;exact⟨b,off,c,u,rfl,ai ba,hc,bT⟩
theorem kN (ve vi vn:Value) (n:am) (k:Nat) (es:List (Int×Int)) (w:World) (h:aI w ve vi vn n) (ba:n.ends[k]?=some es) (sd:es.length<=1000000):
  Calls Tryz.prog 126 #[.agg #[ve,vi,vn],.int .i64 k] w fun e w'=>∃u,e=.returned u/\Own w' w.heap.size u (es.map (·.1))/\Below w.heap.size w w':=by
 obtain⟨w0,A,c,A2,c2,A3,c3,rfl,rfl,rfl,er,hm,et,fG,HA,bM,aY,H,e8,fh,fi⟩:=zB h;clear h
 obtain⟨b,off,c',u,hA,hk,bS,bT⟩:=fo H.out.es ba;cases hA;obtain⟨A1,z1,rfl,cj,cX,gn⟩:=bT;unfold maxLen at cX;have r1:=ad bS;have yh:=zh gn;clear bS gn ba
 go_enter Tryz.func126,Tryz.ntmps126
 go_upto_region 1 with(fail);rw[<- bM.out];have aX:aa w0 w0:=ab _;go_wp2
 go_loopw [5,14] (fun u i wr=>∃j:Nat,j<=es.length/\i=.int .i64 j/\Own wr w0.heap.size u ((es.take j).map (·.1))/\aa w0 wr) (fun _ i _=>es.length-(intOf i).toNat)
 case atStart=>exact⟨0,Nat.zero_le _,rfl,by simpa using fT w0 w0.heap.size,aX⟩
 case round=>
  obtain⟨j,hj,rfl,ho,hs⟩:=hrel;have Ho:=zh ho;clear aX ho
  by_cases aH:j<es.length
  ·obtain⟨⟨x1,x2⟩,hx⟩:=ax es j aH;obtain⟨b1,sD,rfl,mO,gm⟩:=yh.out j _ hx;have t1:=ad mO;have t2:=ad gm;have Hx:=zh hx;clear hx mO gm
   have dO:((es.take j).map (·.1)).length+1<=17592186044416:=by simp;omega
   have ja:=zh dO;clear dO
   go_wp2_with (at_builtin;refine kg rfl _ _ rfl rfl (Ho.out.since (ae _ (ae _ (ab _)))) (wr.heap.size+1) x1 rfl (by simp[go_sem]) ja.out (ae _ (ae _ hs)) ?_;intro g cc w2 cy dS)
   have E2:Hid (((es.take j).map (·.1)).length=j):=by show _=_;simp;omega
   have e1:(es.take j).map (·.1)++[x1]=(es.take (j+1)).map (·.1):=by rw[aK Hx.out];simp
   rw[e1]at cy;have lv:=zh cy;have g7:=zh dS;clear cy dS hs e1;go_wp2;go_roundw
   case rel=>exact⟨j+1,by omega,by go_num,by first | exact lv.out | (have:=lv.out;rw[E2.out]at this;exact this),g7.out⟩
   case measure=>simp[intOf];omega
  ·obtain rfl:j=es.length:=by omega
   go_wp2;go_ret
   exact⟨_,rfl,by have:=Ho.out;rw[List.take_length]at this;exact this.mono aY.out.size,aa.after aY.out hs⟩
def sL (ls:List Int) (es:List (Int×Int)):List Int:=es.map fun e=>ls.getD e.1.toNat 0
def O1 (m l:Int) (xs:List Int):Bool:=
 (xs.all fun x=>x==(l+m-1)%m||x==(l+1)%m)&&(xs.countP (fun x=>x==(l+m-1)%m)==1||(xs.countP (fun x=>x==(l+m-1)%m)==0&&l==0))
theorem e9 {n:am} (h:aw n=true) {k:Nat} {es:List (Int×Int)} (ba:n.ends[k]?=some es):es.length<=6/\∀e∈es,0<=e.1/\e.1<n.ends.length:=by
 have hk:=ai ba;have h':=h;unfold aw at h;rw[Bool.and_eq_true,List.all_eq_true]at h
 have:=h.2 k (List.mem_range.2 hk)
 rw[ag ba]at this;unfold dP at this;rw[Bool.and_eq_true,List.all_eq_true]at this;refine⟨by simpa using this.1,fun e he=>?_⟩
 obtain⟨j,hj⟩:=List.getElem?_of_mem he
 have:=this.2 j (List.mem_range.2 (ai hj))
 rw[ag hj]at this;unfold fN at this;rw[Bool.and_eq_true]at this;exact uZ this.1
def Ff (p:Int->Bool) (xs:List Int):List Int:=xs.filter fun x => !p x
theorem sM {w:World} {ops:Array Oper} {rest:List Oper} {o:Oper} {a:Act} {Q:Exit->Act->World->Prop} (gA:o.guard=none) (s x:Operand)
  (ho:o.op=.call { callee:=.builtin .append,args:=#[s,x],argTypes:=#[25,25] }) {base:Nat} {v:Value} {xs:List Int} (hs:a.eval s=v) (h:Own w base v xs) (b off c:Nat) (ys:List Int)
  (hx:a.eval x=.slice (some ⟨b,off,none⟩) ys.length c) (hc:∀j y,ys[j]?=some y->w.cell? ⟨b,off+j,none⟩=some (.int .i64 y)) (hy:0<ys.length) (hl:xs.length+ys.length<=17592186044416) (gJ:base<=w.heap.size)
  (k:∀g cap w',Own w' base (.slice (some ⟨g,0,none⟩) (xs.length+ys.length) cap) (xs++ys)->w.grownBy w' v.ownBlock->(v.ownBlock=some g\/g=w.heap.size)->g<w'.heap.size->wpList Tryz.prog ops Q rest (a.put o.dst (.slice (some ⟨g,0,none⟩) (xs.length+ys.length) cap)) w'):wpList Tryz.prog ops Q (o::rest) a w:=by
 obtain⟨i0,hi,eS,cj,cX⟩:=info_parts iC
 refine wpList_append_lies w gA s x 25 ho base 3 i0 (.int .i64 0) 1 8 Tryz.underlying25 hi eS cj cX rfl (by decide) v xs.length (xs.map (Value.int .i64)) hs h ⟨b,off,none⟩ ys.length c (ys.map (Value.int .i64)) hx (by simp)
  (by
   intro j u hj;rw[List.getElem?_map]at hj
   cases O2:ys[j]? with
   | none=>rw[O2]at hj;simp at hj
   | some y=>
    rw[O2]at hj;simp at hj
    subst hj;rw[Go.Addr.add_lit]
    exact hc j y O2) (by simp[Value.oneCell']) hy (by unfold maxLen;omega) (by omega) gJ w.heap.size rfl ?_
 intro g cap w' h1 h2 h3 h4;refine k g cap w' ?_ h2 h3 h4;unfold Own;simpa using h1
theorem qJ (v:Value) (xs:List Int) (w:World) (h:aG w v xs) (Th:0<xs.length) (hl:xs.length<=17592186044416):
  Calls Tryz.prog 79 #[v] w fun e w'=>∃u,e=.returned u/\Own w' w.heap.size u xs/\Below w.heap.size w w':=by
 obtain⟨A,c,rfl,er,hm,hA⟩:=h;unfold maxLen at hm;have ho:=ka w [] (by simp[maxLen]);simp only[List.map_nil,List.length_nil]at ho;obtain⟨y0,Fg⟩:=ax xs 0 (by omega);obtain⟨b,off,rfl,_⟩:=hA 0 y0 Fg
 have HA:Hid (∀j y,xs[j]?=some y->w.cell? ⟨b,off+j,none⟩=some (.int .i64 y)):=fun j y hj=>by
  obtain⟨b',ru,e,hc⟩:=hA j y hj;cases e;exact hc
 have Ho:=zh ho;clear hA Fg ho
 go_enter Tryz.func79,Tryz.ntmps79
 go_wp2_with (at_builtin;refine sM rfl _ _ rfl rfl Ho.out b off c xs rfl (fun j y hj=>bc (aj _ _) (HA.out j y hj)) Th (by simpa using hl) (by simp) ?_;intro g cc w2 cy xx _ _)
 simp only[List.length_nil,Nat.zero_add,List.nil_append]at cy ⊢
 have lv:=zh cy;have pQ:Hid (Below w.heap.size w w2):=(aj w _).grown xx (by simp) (fun j hj=>(World.ownsRow.lt Ho.out j hj).1)
 clear cy xx;go_wp2;go_ret;exact⟨_,rfl,lv.out,pQ.out⟩
theorem iG {n:am} (h:ij n<=1048576):n.ids.length<=17592186044416:=by unfold ij at h;omega
def jb (ls:List Int) (lo hi:Int):Bool:=ls.all (dW lo hi)
theorem e_ (v:Value) (xs:List Int) (lo hi:Int) (w:World) (h:aG w v xs):
  Calls Tryz.prog 104 #[v,.int .i64 lo,.int .i64 hi] w fun e w'=>e=.returned (.bool (jb xs lo hi))/\Below w.heap.size w w':=kz v xs lo hi w h
structure aN where
 labels:Int
 degree:Int
 nodes:List (List Int)
 aad:List (List Int)
def db (xs:List Int):List Int:=xs.mergeSort fun x y=>decide (x<=y)
def cp:List Int->List Int->Int
 | [],[]=>0
 | [],_::_ => -1
 | _::_,[]=>1
 | a::x,b::y=>if a<b then -1 else if b<a then 1 else cp x y
theorem mo (x:List Int):cp x x=0:=by
 induction x with
 | nil=>rfl
 | cons a x ih=>simp[cp,ih]
theorem Dx {x y:List Int} (h:cp x y=0):x=y:=by
 induction x generalizing y with
 | nil=>cases y with
  | nil=>rfl
  | cons b y=>simp[cp]at h
 | cons a x ih=>cases y with
  | nil=>simp[cp]at h
  | cons b y=>
   simp only[cp]at h
   split at h
   ·omega
   ·split at h
    ·omega
    ·rw[ih h,show a=b by omega]
theorem iv {x y z:List Int} (h:cp x y<0) (k:cp y z<0):cp x z<0:=by
 induction x generalizing y z with
 | nil=>cases z with
  | nil=>cases y with
   | nil=>simp[cp]at k
   | cons=>simp[cp]at k
  | cons=>simp[cp]
 | cons a x ih=>
  cases y with
  | nil=>simp[cp]at h
  | cons b y=>
   cases z with
   | nil=>simp[cp]at k
   | cons c z=>
    simp only[cp]at h k ⊢
    split at h
    ·split at k
     ·rw[if_pos (by omega)];omega
     ·split at k
      ·omega
      ·rw[if_pos (by omega)];omega
    ·split at h
     ·omega
     ·split at k
      ·rw[if_pos (by omega)];omega
      ·split at k
       ·omega
       ·rw[if_neg (by omega),if_neg (by omega)];exact ih h k
theorem kh {x y:List Int} (k:Nat) (h:x.take k=y.take k) (hx:k<=x.length) (hy:k<=y.length):cp x y=cp (x.drop k) (y.drop k):=by
 induction k generalizing x y with
 | zero=>simp
 | succ k ih=>
  cases x with
  | nil=>simp at hx
  | cons a x=>cases y with
   | nil=>simp at hy
   | cons b y=>
    simp only[List.take_succ_cons,List.cons.injEq]at h;simp only[cp,List.drop_succ_cons];rw[if_neg (by omega),if_neg (by omega)];exact ih h.2 (by simpa using hx) (by simpa using hy)
theorem yk {x y:List Int} (k:Nat) {a b:Int} (h:x.take k=y.take k) (hx:x[k]?=some a) (hy:y[k]?=some b) (oz:a≠b):cp x y=if a<b then -1 else 1:=by
 have h1:=(List.getElem?_eq_some_iff.1 hx);have h2:=(List.getElem?_eq_some_iff.1 hy);obtain⟨l1,e1⟩:=h1;obtain⟨l2,e2⟩:=h2;rw[kh k h (by omega) (by omega),List.drop_eq_getElem_cons l1,List.drop_eq_getElem_cons l2,e1,e2];simp only[cp]
 split
 ·rfl
 ·rw[if_pos (by omega)]
def eW (l:List (List Int)):Prop:=∀(i j:Nat) (x y:List Int),i<j->l[i]?=some x->l[j]?=some y->cp x y<0
theorem p7 {l:List (List Int)} (h:∀(i:Nat) (x y:List Int),l[i]?=some x->l[i+1]?=some y->cp x y<0):eW l:=by
 intro i j x y Gk hx hy
 induction j generalizing y with
 | zero=>omega
 | succ j ih=>
  rcases Nat.lt_or_ge i j with h1 | h1
  ·obtain⟨z,hz⟩:∃z,l[j]?=some z:=by
    have:=(List.getElem?_eq_some_iff.1 hy).1
    exact⟨l[j]'(by omega),List.getElem?_eq_getElem (by omega)⟩
   exact iv (ih z h1 hz) (h j z y hz hy)
  ·obtain rfl:i=j:=by omega
   exact h i x y hx hy
theorem Aa {l:List (List Int)} {t:List Int} {i:Nat} (hs:eW l) (h1:∀k x,k<i->l[k]?=some x->cp x t<0) (h2:∀k x,i<=k->l[k]?=some x->¬cp x t<0):
  (match l[i]? with | some x=>cp x t==0 | none=>false)=l.contains t:=by
 have mM:l.contains t=true↔∃k:Nat,l[k]?=some t:=by
  rw[List.contains_iff_mem,List.mem_iff_getElem?]
 cases hx:l[i]? with
 | none=>
  symm
  rw[Bool.eq_false_iff];intro hc;obtain⟨k,hk⟩:=mM.1 hc;have e1:l.length<=i:=List.getElem?_eq_none_iff.1 hx;have e2:=(List.getElem?_eq_some_iff.1 hk).1
  have:=h1 k t (by omega) hk
  rw[mo]at this;omega
 | some x=>
  by_cases h0:cp x t=0
  ·have:=Dx h0
   subst this;simp only[h0,beq_self_eq_true];exact(mM.2 ⟨i,hx⟩).symm
  ·have hf:(cp x t==0)=false:=by simpa using h0
   simp only[hf]
   symm
   rw[Bool.eq_false_iff];intro hc;obtain⟨k,hk⟩:=mM.1 hc;rcases Nat.lt_trichotomy k i with h | h | h
   ·have:=h1 k t h hk
    rw[mo]at this;omega
   ·subst h;rw[hx]at hk;cases hk;exact h0 (mo _)
   ·have:=hs i k x t h hx hk
    exact h2 i x (Nat.le_refl _) hx this
def ik (c:List Int):Bool:=(List.range (c.length-1)).all fun i=>decide (c.getD i 0<=c.getD (i+1) 0)
def Dy (size labels:Int) (c:List Int):Bool:=((c.length:Int)==size)&&(ik c&&jb c 0 (labels-1))
def iH (l:List (List Int)) (size labels:Int) (i:Nat):Bool:=Dy size labels (l.getD i [])&&(i==0||decide (cp (l.getD (i-1) []) (l.getD i [])<0))
def p8 (l:List (List Int)) (size labels:Int):Bool:=(List.range l.length).all (iH l size labels)
theorem oH {l:List (List Int)} {size labels:Int}:p8 l size labels=true↔∀i,i<l.length->iH l size labels i=true:=by simp[p8,List.all_eq_true]
theorem nS {l:List (List Int)} {size labels:Int} {i:Nat} (hi:i<l.length) (h:iH l size labels i=false):p8 l size labels=false:=by
 rw[Bool.eq_false_iff];intro hc;rw[oH.1 hc i hi]at h;cases h
theorem mT {l:List (List Int)} {size labels:Int} (h:p8 l size labels=true):eW l:=by
 apply p7
 intro i x y hx hy;have h1:=(List.getElem?_eq_some_iff.1 hy).1;have h2:=oH.1 h (i+1) h1;unfold iH at h2;simp only[Bool.and_eq_true,Bool.or_eq_true,Nat.add_sub_cancel,zDd,hx,hy,Option.getD_some,decide_eq_true_eq]at h2;rcases h2.2 with h3 | h3
 ·simp at h3
 ·exact h3
theorem Ab {l:List (List Int)} {size labels:Int} (h:p8 l size labels=true) {i:Nat} {c:List Int} (hc:l[i]?=some c):Dy size labels c=true:=by
 have h1:=(List.getElem?_eq_some_iff.1 hc).1;have h2:=oH.1 h i h1;unfold iH at h2;simp only[Bool.and_eq_true,zDd,hc,Option.getD_some]at h2;exact h2.1
def eA (p:aN):Bool:=dW 1 8 p.labels&&(dW 1 4 p.degree&&(p8 p.nodes p.degree p.labels&&p8 p.aad 2 p.labels))
def dB (c:List Int):List Int->Bool
 | []=>true
 | a::l=>match c.dropWhile (fun x=>decide (x<a)) with
  | []=>false
  | x::r=>(x==a)&&dB r l
theorem yl {c l:List Int} {k:Nat} {x a:Int} (hx:c[k]?=some x) (h:x<a):dB (c.drop k) (a::l)=dB (c.drop (k+1)) (a::l):=by
 obtain⟨h1,h2⟩:=List.getElem?_eq_some_iff.1 hx;rw[List.drop_eq_getElem_cons h1,h2];simp[dB,h]
theorem Ac {c l:List Int} {k:Nat} {a:Int} (hx:c[k]?=some a):dB (c.drop k) (a::l)=dB (c.drop (k+1)) l:=by
 obtain⟨h1,h2⟩:=List.getElem?_eq_some_iff.1 hx;rw[List.drop_eq_getElem_cons h1,h2];simp[dB]
theorem Ad {c l:List Int} {k:Nat} {a:Int} (h:c.length<=k):dB (c.drop k) (a::l)=false:=by
 rw[List.drop_eq_nil_iff.2 h];simp[dB]
theorem ym {c l:List Int} {k:Nat} {x a:Int} (hx:c[k]?=some x) (h:¬x<a) (hn:x≠a):dB (c.drop k) (a::l)=false:=by
 obtain⟨h1,h2⟩:=List.getElem?_eq_some_iff.1 hx;rw[List.drop_eq_getElem_cons h1,h2];simp[dB,h,hn]
def dT (row:List Int):List Int:=row.filter fun a=>decide (0<=a)
def dk (p:aN) (row:List Int):Bool:=!((row.length:Int)==p.degree)||p.nodes.any fun c=>dB c (db (dT row))
def edgeB (p:aN) (a b:Int):Bool:=p.aad.contains [min a b,max a b]
theorem mp {xs:List Int} {a:Int}:a∈db xs↔a∈xs:=by unfold db;exact List.mem_mergeSort
theorem fp (xs:List Int):(db xs).Pairwise (· <= ·):=by
 have:=List.pairwise_mergeSort (le:=fun x y:Int=>decide (x<=y)) (by intro _ _ _;simp;omega) (by intro _ _;simp;omega) xs
 exact this.imp (by simp)
theorem jc (xs:List Int):(db xs).Perm xs:=List.mergeSort_perm _ _
theorem mW {xs ys:List Int} (h:xs.Perm ys) (h1:xs.Pairwise (· <= ·)) (h2:ys.Pairwise (· <= ·)):xs=ys:=
 List.Perm.eq_of_pairwise (fun _ _ _ _ h1 h2=>Int.le_antisymm h1 h2) h1 h2 h
theorem yn (a b:Int):db [a,b]=[min a b,max a b]:=by
 apply mW
 ·refine(jc _).trans ?_;rcases Int.le_total a b with h | h
  ·rw[Int.min_eq_left h,Int.max_eq_right h]
  ·rw[Int.min_eq_right h,Int.max_eq_left h];exact List.Perm.swap _ _ _
 ·exact fp _
 ·simp;omega
def bj (l:List (List Int)) (e:Int×Int):Int:=(l.getD e.1.toNat []).getD e.2.toNat 0
def fa (p:aN) (ends:List (List (Int×Int))) (l:List (List Int)) (e:Int×Int):Bool:=
 let f:=(ends.getD e.1.toNat []).getD e.2.toNat (0,0)
 decide (bj l e<0)||(decide (bj l f<0)||edgeB p (bj l e) (bj l f))
def iI (p:aN) (ends:List (List (Int×Int))) (l:List (List Int)) (v:Nat):Bool:=
 dk p (l.getD v [])&&(List.range (l.getD v []).length).all fun i=>fa p ends l ((v:Int),(i:Int))
def dn (p:aN) (ends:List (List (Int×Int))) (l:List (List Int)):Bool:=(List.range l.length).all (iI p ends l)
def qK (v:Nat) (row:List Int):List (Int×Int):=((List.range row.length).filter fun i=>decide (row.getD i 0<0)).map fun i=>((v:Int),((i:Nat):Int))
def gj (l:List (List Int)) (k:Nat):List (Int×Int):=(List.range k).flatMap fun v=>qK v (l.getD v [])
def fZ (l:List (List Int)):List (Int×Int):=gj l l.length
def f_ (v:Nat) (row:List Int) (k:Nat):List (Int×Int):=((List.range k).filter fun i=>decide (row.getD i 0<0)).map fun i=>((v:Int),((i:Nat):Int))
theorem oI (l:List (List Int)) (k:Nat):gj l (k+1)=gj l k++qK k (l.getD k []):=by simp[gj,List.range_succ]
theorem sN (v:Nat) (row:List Int) (k:Nat):f_ v row (k+1)=f_ v row k++(if row.getD k 0<0 then [((v:Int),(k:Int))] else []):=by
 unfold f_;rw[List.range_succ,List.filter_append,List.map_append];congr 1
 by_cases h:row.getD k 0<0
 ·rw[if_pos h,List.filter_cons_of_pos (by simpa using h)];rfl
 ·rw[if_neg h,List.filter_cons_of_neg (by simpa using h)];rfl
def bH (l:List (List Int)) (e:Int×Int) (x:Int):List (List Int):=l.set e.1.toNat ((l.getD e.1.toNat []).set e.2.toNat x)
abbrev JY:=Int×List (List Int)×Int×Int
def jd (p:aN) (ends:List (List (Int×Int))) (al:List (Int×Int)) (most:Int):Nat->List (List Int)->Int->Int->JY
 | 0,l,bv,st=>(0,l,bv,st)
 | f+1,l,bv,st=>
  if bv<0 then (2,l,bv,st)
  else if bv=al.length then (1,l,bv,st)
  else
   let e:=al.getD bv.toNat (0,0)
   if bj l e=p.labels-1 then jd p ends al most f (bH l e (-1)) (bv-1) st
   else if st=most then (3,l,bv,st)
   else
    let l':=bH l e (bj l e+1)
    if dk p (l'.getD e.1.toNat [])&&fa p ends l' e then jd p ends al most f l' (bv+1) (st+1)
    else jd p ends al most f l' bv (st+1)
def cD {σ:Type} (nx:σ->List (List Int)->Bool×σ) (p:aN) (ends:List (List (Int×Int))) (al:List (Int×Int)) (most:Int):Nat->σ->List (List Int)->Int->Int->σ×JY
 | 0,s,l,bv,st=>(s,0,l,bv,st)
 | f+1,s,l,bv,st=>
  if bv<0 then (s,2,l,bv,st)
  else if bv=al.length then
   if (nx s l).1 then cD nx p ends al most f (nx s l).2 l (bv-1) st else ((nx s l).2,1,l,bv,st)
  else
   let e:=al.getD bv.toNat (0,0)
   if bj l e=p.labels-1 then cD nx p ends al most f s (bH l e (-1)) (bv-1) st
   else if st=most then (s,3,l,bv,st)
   else
    let l':=bH l e (bj l e+1)
    if dk p (l'.getD e.1.toNat [])&&fa p ends l' e then cD nx p ends al most f s l' (bv+1) (st+1)
    else cD nx p ends al most f s l' bv (st+1)
def aP (most bv st:Int):Nat:=(2*(most-st)+bv+2).toNat
theorem oJ {σ:Type} (nx:σ->List (List Int)->Bool×σ) (p:aN) (ends:List (List (Int×Int))) (al:List (Int×Int)) (most:Int) (f g:Nat) (s:σ) (l:List (List Int)) (bv st:Int) (fY:st<=most) (hp : -1<=bv) (hf:aP most bv st<=f) (hg:aP most bv st<=g):cD nx p ends al most f s l bv st=cD nx p ends al most g s l bv st:=by
 unfold aP at hf hg
 induction f generalizing g s l bv st with
 | zero=>omega
 | succ f ih=>
  cases g with
  | zero=>omega
  | succ g=>
   simp only[cD]
   by_cases h1:bv<0
   ·rw[if_pos h1,if_pos h1]
   ·rw[if_neg h1,if_neg h1]
    by_cases h2:bv=al.length
    ·rw[if_pos h2,if_pos h2,ih g _ _ (bv-1) st fY (by omega) (by omega) (by omega)]
    ·rw[if_neg h2,if_neg h2]
     by_cases h3:bj l (al.getD bv.toNat (0,0))=p.labels-1
     ·rw[if_pos h3,if_pos h3];exact ih g _ _ _ _ fY (by omega) (by omega) (by omega)
     ·rw[if_neg h3,if_neg h3]
      by_cases h4:st=most
      ·rw[if_pos h4,if_pos h4]
      ·rw[if_neg h4,if_neg h4,ih g _ _ (bv+1) (st+1) (by omega) (by omega) (by omega) (by omega),ih g _ _ bv (st+1) (by omega) (by omega) (by omega) (by omega)]
theorem je {σ:Type} (nx:σ->List (List Int)->Bool×σ) (p:aN) (ends:List (List (Int×Int))) (al:List (Int×Int)) (most:Int) (f:Nat) (s:σ) (l:List (List Int)) (bv st:Int) (fY:st<=most) (hp : -1<=bv) (hf:aP most bv st<=f):
  cD nx p ends al most f s l bv st=(if bv<0 then (s,2,l,bv,st)
  else if bv=al.length then
   if (nx s l).1 then cD nx p ends al most f (nx s l).2 l (bv-1) st else ((nx s l).2,1,l,bv,st)
  else
   let e:=al.getD bv.toNat (0,0)
   if bj l e=p.labels-1 then cD nx p ends al most f s (bH l e (-1)) (bv-1) st
   else if st=most then (s,3,l,bv,st)
   else
    let l':=bH l e (bj l e+1)
    if dk p (l'.getD e.1.toNat [])&&fa p ends l' e then cD nx p ends al most f s l' (bv+1) (st+1)
    else cD nx p ends al most f s l' bv (st+1)):=by
 rw[oJ nx p ends al most f (f+1) s l bv st fY hp hf (by omega)];simp only[cD]
theorem Ae (p:aN) (ends:List (List (Int×Int))) (al:List (Int×Int)) (most:Int) (f:Nat) (l:List (List Int)) (bv st:Int) (fY:st<=most) (hp : -1<=bv) (C4:bv<=al.length) (hf:aP most bv st<=f):
  let r:=jd p ends al most f l bv st
  r.2.2.2<=most /\ -1<=r.2.2.1/\r.2.2.1<=al.length/\st<=r.2.2.2/\aP most r.2.2.1 r.2.2.2<=aP most bv st/\(r.1=1->r.2.2.1=al.length)/\(r.1=1\/r.1=2\/r.1=3):=by
 unfold aP at hf ⊢
 induction f generalizing l bv st with
 | zero=>omega
 | succ f ih=>
  simp only[jd]
  by_cases h1:bv<0
  ·rw[if_pos h1];simp;omega
  ·rw[if_neg h1]
   by_cases h2:bv=al.length
   ·rw[if_pos h2];simp;omega
   ·rw[if_neg h2]
    by_cases h3:bj l (al.getD bv.toNat (0,0))=p.labels-1
    ·rw[if_pos h3];obtain⟨a1,a2,a3,a4,a5,a6,a7⟩:=ih (bH l (al.getD bv.toNat (0,0)) (-1)) (bv-1) st fY (by omega) (by omega) (by omega);exact⟨a1,a2,a3,a4,by omega,a6,a7⟩
    ·rw[if_neg h3]
     by_cases h4:st=most
     ·rw[if_pos h4];simp;omega
     ·rw[if_neg h4]
      by_cases h5:(dk p ((bH l (al.getD bv.toNat (0,0)) (bj l (al.getD bv.toNat (0,0))+1)).getD (al.getD bv.toNat (0,0)).1.toNat [])&&fa p ends (bH l (al.getD bv.toNat (0,0)) (bj l (al.getD bv.toNat (0,0))+1)) (al.getD bv.toNat (0,0)))=true
      ·rw[if_pos h5];obtain⟨a1,a2,a3,a4,a5,a6,a7⟩:=ih (bH l (al.getD bv.toNat (0,0)) (bj l (al.getD bv.toNat (0,0))+1)) (bv+1) (st+1) (by omega) (by omega) (by omega) (by omega);exact⟨a1,a2,a3,by omega,by omega,a6,a7⟩
      ·rw[if_neg h5];obtain⟨a1,a2,a3,a4,a5,a6,a7⟩:=ih (bH l (al.getD bv.toNat (0,0)) (bj l (al.getD bv.toNat (0,0))+1)) bv (st+1) (by omega) (by omega) (by omega) (by omega);exact⟨a1,a2,a3,by omega,by omega,a6,a7⟩
theorem sO {σ:Type} (nx:σ->List (List Int)->Bool×σ) (p:aN) (ends:List (List (Int×Int))) (al:List (Int×Int)) (most:Int) (f g:Nat) (s:σ) (l:List (List Int)) (bv st:Int)
  (fY:st<=most) (hp : -1<=bv) (C4:bv<=al.length) (hf:aP most bv st<=f) (hg:aP most bv st<=g):
  cD nx p ends al most f s l bv st=(let r:=jd p ends al most f l bv st
   if r.1=1 then (if (nx s r.2.1).1 then cD nx p ends al most g (nx s r.2.1).2 r.2.1 (r.2.2.1-1) r.2.2.2 else ((nx s r.2.1).2,r)) else (s,r)):=by
 unfold aP at hf hg
 induction f generalizing l bv st with
 | zero=>omega
 | succ f ih=>
  simp only[jd,cD]
  by_cases h1:bv<0
  ·simp[h1]
  ·rw[if_neg h1,if_neg h1]
   by_cases h2:bv=al.length
   ·rw[if_pos h2,if_pos h2];simp only[if_true];rw[oJ nx p ends al most f g _ l (bv-1) st fY (by omega) (by unfold aP;omega) (by unfold aP;omega)]
   ·rw[if_neg h2,if_neg h2]
    by_cases h3:bj l (al.getD bv.toNat (0,0))=p.labels-1
    ·rw[if_pos h3,if_pos h3];exact ih _ _ _ fY (by omega) (by omega) (by omega) (by omega)
    ·rw[if_neg h3,if_neg h3]
     by_cases h4:st=most
     ·rw[if_pos h4,if_pos h4];simp
     ·rw[if_neg h4,if_neg h4]
      by_cases h5:(dk p ((bH l (al.getD bv.toNat (0,0)) (bj l (al.getD bv.toNat (0,0))+1)).getD (al.getD bv.toNat (0,0)).1.toNat [])&&fa p ends (bH l (al.getD bv.toNat (0,0)) (bj l (al.getD bv.toNat (0,0))+1)) (al.getD bv.toNat (0,0)))=true
      ·rw[if_pos h5,if_pos h5];exact ih _ (bv+1) (st+1) (by omega) (by omega) (by omega) (by omega) (by omega)
      ·rw[if_neg h5,if_neg h5];exact ih _ bv (st+1) (by omega) (by omega) (by omega) (by omega) (by omega)
theorem ki (x:Int) (w:World):Calls Tryz.prog 196 #[.int .i64 x] w fun e w'=>e=.returned (.bool false)/\w=w':=by
 go_enter Tryz.func196,Tryz.ntmps196
 go_wp2;go_ret;exact⟨rfl,rfl⟩
theorem sP (x y:Int) (w:World):Calls Tryz.prog 168 #[.int .i64 x,.int .i64 y] w fun e w'=>e=.returned (.bool (decide (x<y)))/\w=w':=by
 go_enter Tryz.func168,Tryz.ntmps168
 go_wp2_with (go_at_call 196;refine(ki _ _).mono ?_;rintro e w' ⟨rfl,rfl⟩)
 go_ret;exact⟨rfl,rfl⟩
theorem yo (x y:Int) (w:World):Calls Tryz.prog 168 #[.int .i64 x,.int .i64 y] w fun e w'=>e=.returned (.bool (decide (x<y)))/\Below w.heap.size w w':=(sP x y w).mono fun _ _ ⟨h1,h2⟩=>⟨h1,h2 ▸ Below.refl _ _⟩
def sQ (x y:Int):Int:=if x<y then -1 else if y<x then 1 else 0
theorem oK (x y:Int) (w:World):Calls Tryz.prog 173 #[.int .i64 x,.int .i64 y] w fun e w'=>e=.returned (.int .i64 (sQ x y))/\w=w':=by
 have hc:sQ x y=if x<y then -1 else if y<x then 1 else 0:=rfl;rcases Int.lt_trichotomy x y with h | h | h
 ·rw[if_pos h]at hc;rw[hc];clear hc
  go_enter Tryz.func173,Tryz.ntmps173
  go_wp2_with (go_at_call 196;refine(ki _ _).mono ?_;rintro e w' ⟨rfl,rfl⟩)
  go_ret;exact⟨rfl,rfl⟩
 ·subst h;rw[if_neg (by omega),if_neg (by omega)]at hc;rw[hc];clear hc
  go_enter Tryz.func173,Tryz.ntmps173
  go_wp2_with (go_at_call 196;refine(ki _ _).mono ?_;rintro e w' ⟨rfl,rfl⟩)
  go_ret;exact⟨rfl,rfl⟩
 ·rw[if_neg (by omega),if_pos h]at hc;rw[hc];clear hc;have h2:¬x<y:=by omega
  go_enter Tryz.func173,Tryz.ntmps173
  go_wp2_with (go_at_call 196;refine(ki _ _).mono ?_;rintro e w' ⟨rfl,rfl⟩)
  go_ret;exact⟨rfl,rfl⟩
theorem fq {w:World} {A:Option Addr} {xs:List Int} (hA:∀k x,xs[k]?=some x->∃b off,A=some ⟨b,off,none⟩/\w.cell? ⟨b,off+k,none⟩=some (.int .i64 x)) {k:Nat} (hk:k<xs.length):∃x b off,xs[k]?=some x/\A=some ⟨b,off,none⟩/\w.cell? ⟨b,off+k,none⟩=some (.int .i64 x):=by
 obtain⟨x,hx⟩:=ax xs k hk;obtain⟨b,off,h1,h2⟩:=hA k x hx;exact⟨x,b,off,hx,h1,h2⟩
theorem jM {c:List Int}:ik c=true↔∀i,i+1<c.length->c.getD i 0<=c.getD (i+1) 0:=by
 unfold ik;rw[List.all_eq_true];constructor
 ·intro h i hi
  have:=h i (List.mem_range.2 (by omega))
  simpa using this
 ·intro h i hi
  have:=List.mem_range.1 hi
  simpa using h i (by omega)
theorem u_ {c:List Int} {i:Nat} {x y:Int} (hx:c[i]?=some x) (hy:c[i+1]?=some y) (h:y<x):ik c=false:=by
 rw[Bool.eq_false_iff];intro hc
 have:=jM.1 hc i (ai hy)
 rw[ag hx,ag hy]at this;omega
theorem ft (v:Value) (xs:List Int) (w:World) (h:aG w v xs):
  Calls Tryz.prog 127 #[v] w fun e w'=>e=.returned (.bool (ik xs))/\Below w.heap.size w w':=by
 obtain⟨A,c,rfl,er,hm,hA⟩:=h;unfold maxLen at hm;have HA:=zh hA;clear hA
 go_enter Tryz.func127,Tryz.ntmps127
 go_wp2
 go_loopw [3] (fun i wr=>∃k:Int,-1<=k/\k<xs.length/\i=.int .i64 k/\(∀i:Nat,k<=i->i+1<xs.length->xs.getD i 0<=xs.getD (i+1) 0)/\Below w.heap.size w wr) (fun i _=>(intOf i+1).toNat)
 case atStart=>exact⟨_,by omega,by omega,rfl,fun i h1 h2=>by omega,Below.refl _ _⟩
 case round=>
  obtain⟨k,ld,nT,rfl,bF,hb⟩:=hrel;have fF:=zh bF;have Hb:=zh hb;clear bF hb
  by_cases O3:k>0
  ·obtain⟨m,Ng⟩:=Int.eq_ofNat_of_zero_le (by omega:0<=k-1);obtain rfl:k=((m+1:Nat):Int):=by omega
   clear Ng;obtain⟨x,b,off,hx,rfl,bS⟩:=fq HA.out (k:=m+1) (by omega);obtain⟨y,b',ru,hy,he,ke⟩:=fq HA.out (k:=m) (by omega);cases he;have q1:=ad (bc Hb.out bS);have q2:=ad (bc Hb.out ke);have Hx:=zh hx;have Hy:=zh hy
   have dO:(m:Int)+1<xs.length:=by have:=ai hx;omega
   have kD:(m:Int)<xs.length:=by omega
   have hpm:(0:Int)<=(m:Int)+1:=by omega
   have wm:IntKind.i64.wrap (m:Int)=(m:Int):=aR _ (by omega) (by omega)
   have w1:IntKind.i64.wrap (((m+1:Nat):Int)-1)=(m:Int):=by rw[aR _ (by omega) (by omega)];omega
   clear hx hy bS ke;go_upto_region 4 with(fail);refine aq 10 (aa wr) (by kernel_rfl) (by kernel_rfl) (by simp) (ah (ab _)) ?_;simp only[zT]
   iterate 9 (refine cY rfl ?_;simp only[zA])
   refine ej ?_ rfl ?_ ?_;rotate_left;(intro W hW;unfold bN;go_simp;(with_reducible refine(yo _ _ W).mono ?_);rintro e W' ⟨rfl,aZ⟩;first | (refine⟨?_,aa.trans hW aZ⟩;with_reducible rfl) | (subst aZ;refine⟨?_,hW⟩;with_reducible rfl))
   simp only[zA];intro W5 C5;have I0:=zh (Hb.out.trans (C5.mono Hb.out.size));clear C5 q1 q2
   by_cases aH:x<y
   ·have hd:decide (x<y)=true:=by simpa using aH
    go_wp2;go_ret;exact⟨az (u_ Hy.out Hx.out aH),I0.out⟩
   ·have hd:decide (x<y)=false:=by simpa using aH
    go_wp2;go_roundw
    case rel=>
     refine⟨(m:Int),by omega,by omega,by go_num,fun i h1 h2=>?_,I0.out⟩
     rcases Int.lt_or_le (m:Int) i with h3 | h3
     ·exact fF.out i (by omega) h2
     ·obtain rfl:i=m:=by omega
      rw[ag Hy.out,ag Hx.out];omega
    case measure=>simp[intOf];omega
  ·go_wp2;go_ret;exact⟨cB (jM.2 fun i hi=>fF.out i (by omega) hi),Hb.out⟩
theorem cF (v u:Value) (xs ys:List Int) (w:World) (h:aG w v xs) (h':aG w u ys):
  Calls Tryz.prog 128 #[v,u] w fun e w'=>e=.returned (.int .i64 (cp xs ys))/\Below w.heap.size w w':=by
 obtain⟨A,c,rfl,er,hm,hA⟩:=h;obtain⟨A2,c2,rfl,Gp,et,JZ⟩:=h';unfold maxLen at hm et;have HA:=zh hA;have Gq:=zh JZ;clear hA JZ
 go_enter Tryz.func128,Tryz.ntmps128
 go_wp2
 go_loop [11] (fun i=>∃k:Nat,k<=xs.length/\k<=ys.length/\i=.int .i64 k/\xs.take k=ys.take k) (fun i=>xs.length-(intOf i).toNat)
 case atStart=>exact⟨0,Nat.zero_le _,Nat.zero_le _,rfl,by simp⟩
 case round=>
  obtain⟨k,hk,nT,rfl,xy⟩:=hrel;have p9:=zh xy;clear xy
  by_cases aH:k<xs.length
  ·obtain⟨x,b,off,hx,rfl,bS⟩:=fq HA.out aH;have Hx:=zh hx
   by_cases mh:k<ys.length
   ·obtain⟨y,b',ru,hy,rfl,ke⟩:=fq Gq.out mh;have Hy:=zh hy;clear hx hy
    by_cases z8:x=y
    ·subst z8;have hz:sQ x x=0:=by simp[sQ]
     go_wp2_with (go_at_call 173;refine(oK _ _ _).mono ?_;rw[hz];rintro e w' ⟨rfl,rfl⟩)
     go_round
     case rel=>exact⟨k+1,by omega,by omega,by go_num,by rw[aK Hx.out,aK Hy.out,p9.out]⟩
     case measure=>simp[intOf];omega
    ·have hr:Hid (cp xs ys=sQ x y):=by
      show _=_
      rw[yk k p9.out Hx.out Hy.out z8];unfold sQ
      split
      ·rfl
      ·rw[if_pos (by omega)]
     obtain⟨z,hz⟩:∃z,sQ x y=z:=⟨_,rfl⟩
     have eS:z≠0:=by rw[<- hz];unfold sQ;split;omega;rw[if_pos (by omega)];omega
     have Hz:=zh hz;clear hz
     go_wp2_with (go_at_call 173;refine(oK _ _ _).mono ?_;rw[Hz.out];rintro e w' ⟨rfl,rfl⟩)
     go_ret;exact⟨ia (by rw[hr.out,Hz.out]),Below.refl _ _⟩
   ·have hr:Hid (cp xs ys=1):=by
     show _=_
     obtain rfl:k=ys.length:=by omega
     rw[kh ys.length p9.out (by omega) (Nat.le_refl _),List.drop_eq_getElem_cons aH,List.drop_length];rfl
    clear hx;go_wp2;go_ret;exact⟨ia hr.out.symm,Below.refl _ _⟩
  ·obtain rfl:k=xs.length:=by omega
   by_cases qL:xs.length<ys.length
   ·have hr:Hid (cp xs ys = -1):=by
     show _=_
     rw[kh xs.length p9.out (Nat.le_refl _) (by omega),List.drop_eq_getElem_cons qL,List.drop_length];rfl
    go_wp2;go_ret;exact⟨ia hr.out.symm,Below.refl _ _⟩
   ·have hr:Hid (cp xs ys=0):=by
     show _=_
     rw[kh xs.length p9.out (Nat.le_refl _) (by omega),List.drop_length,List.drop_eq_nil_iff.2 (by omega)];rfl
    go_wp2;go_ret;exact⟨ia hr.out.symm,Below.refl _ _⟩
theorem rz (v u:Value) (c l:List Int) (w:World) (h:aG w v c) (h':aG w u l):
  Calls Tryz.prog 148 #[v,u] w fun e w'=>e=.returned (.bool (dB c l))/\Below w.heap.size w w':=by
 obtain⟨A,z,rfl,er,hm,hA⟩:=h;obtain⟨A2,z2,rfl,Gp,et,JZ⟩:=h';unfold maxLen at hm et;have HA:=zh hA;have Gq:=zh JZ;clear hA JZ
 go_enter Tryz.func148,Tryz.ntmps148
 go_wp2
 go_loop [5,10] (fun a i=>∃k j:Nat,k<=c.length/\j<=l.length/\a=.int .i64 k/\i=.int .i64 j/\dB c l=dB (c.drop k) (l.drop j)) (fun _ i=>l.length-(intOf i).toNat)
 case atStart=>exact⟨0,0,Nat.zero_le _,Nat.zero_le _,rfl,rfl,by simp⟩
 case round=>
  obtain⟨k,j,hk,hj,rfl,rfl,xy⟩:=hrel;have p9:=zh xy;clear xy
  by_cases aH:j<l.length
  ·obtain⟨a,b2,mi,ha,rfl,ke⟩:=fq Gq.out aH
   have Ha:Hid (l.drop j=a::l.drop (j+1)):=by
    show _=_
    obtain⟨h1,h2⟩:=List.getElem?_eq_some_iff.1 ha;rw[List.drop_eq_getElem_cons h1,h2]
   clear ha;go_upto_region 5 with(fail)
   go_loop [5] (fun p=>∃k:Nat,k<=c.length/\p=.int .i64 k/\dB c l=dB (c.drop k) (l.drop j)) (fun p=>c.length-(intOf p).toNat)
   case atStart=>exact⟨k,hk,rfl,p9.out⟩
   case round=>
    obtain⟨k,hk,rfl,xy⟩:=hrel;have p9:=zh xy;clear xy
    by_cases Tj:k<c.length
    ·obtain⟨x,b,off,hx,rfl,bS⟩:=fq HA.out Tj;have Hx:=zh hx;clear hx
     by_cases xz:x<a
     ·go_wp2
      go_round
      case rel=>exact⟨k+1,by omega,by go_num,by rw[p9.out,Ha.out,yl Hx.out xz]⟩
      case measure=>simp[intOf];omega
     ·by_cases gC:x=a
      ·subst gC;go_wp2
       go_round
       case rel=>exact⟨k+1,j+1,by omega,by omega,by go_num,by go_num,by rw[p9.out,Ha.out,Ac Hx.out]⟩
       case measure=>simp[intOf];omega
      ·have Wd:(x != a)=true:=by simpa using gC
       have Fh:((k:Int)==(c.length:Int))=false:=by simp;omega
       go_wp2;go_ret;exact⟨az (by rw[p9.out,Ha.out,ym Hx.out (by omega) gC]),Below.refl _ _⟩
    ·obtain rfl:k=c.length:=by omega
     go_wp2;go_ret;exact⟨az (by rw[p9.out,Ha.out,Ad (Nat.le_refl _)]),Below.refl _ _⟩
  ·obtain rfl:j=l.length:=by omega
   go_wp2;go_ret
   exact⟨cB (by rw[p9.out,List.drop_length];cases c.drop k <;> rfl),Below.refl _ _⟩
def bw (w:World) (v:Value) (uz:List (List Int)):Prop:=
 ∃(A:Option Addr) (c:Nat),v=.slice A uz.length c/\uz.length<=c/\c<=maxLen /\
  (∀k xs,uz[k]?=some xs->∃b off u,A=some ⟨b,off,none⟩/\w.cell? ⟨b,off+k,none⟩=some u/\aG w u xs)
theorem bw.aab {w w':World} {v:Value} {xs:List (List Int)} (h:bw w v xs) (hb:Below w.heap.size w w'):bw w' v xs:=by
 obtain⟨A,c,hv,hc,hm,hA⟩:=h;refine⟨A,c,hv,hc,hm,fun k x hk=>?_⟩
 obtain⟨b,off,u,pW,h1,h2⟩:=hA k x hk;exact⟨b,off,u,pW,bc hb h1,h2.aab hb⟩
def dU:World->Nat->Value->List (List Int)->List Nat->Prop:=aM 25 it
theorem bA:cd dU:=iE _ dF
theorem it.read {w:World} {base:Nat} {v:Value} {xs:List Int} {S:List Nat} (h:it w base v xs S):aG w v xs:=h.1.ints
theorem dU.read {w:World} {base:Nat} {v:Value} {bX:List (List Int)} {S:List Nat} (h:dU w base v bX S):bw w v bX:=by
 obtain⟨vs,Ss,h1,h2,h3,h4,h5⟩:=h;rcases dL h1 with⟨rfl,h0⟩ | ⟨g,c,rfl,hb,hg,hc,hm⟩
 ·obtain rfl:bX=[]:=List.eq_nil_of_length_eq_zero h0
  exact⟨none,0,rfl,Nat.le_refl _,Nat.zero_le _,fun k x hk=>by simp at hk⟩
 ·have pR:vs.length=bX.length:=by simpa using h1.1
  refine⟨_,c,rfl,hc,hm,fun k x hk=>?_⟩
  have aH:=ai hk;obtain⟨u,hu⟩:=ax vs k (by omega);obtain⟨T,hT⟩:=ax Ss k (by omega)
  exact⟨g,0,u,rfl,by rw[Nat.zero_add,h1.cellAt (cap:=c) _ (by omega)];exact hu,it.read (h3 k u x T hu hk hT)⟩
def We (bX:List (List Int)):Nat:=(bX.map List.length).sum
def Af (bX:List (List Int)):Nat:=bX.length+We bX
theorem yp:(Tryz.prog.info? 25).map (fun i=>(i.zero,i.size,i.bytes))=some (some (.slice none 0 0),1,24):=by kernel_rfl
section
variable {ops : Array Oper} {rest : List Oper} {o : Oper} {a : Act} {Q : Exit → Act → World → Prop}
theorem sR (w:World) (hg:o.guard=none) (l c:Operand) (yb:o.op=Op.makeSlice 33 l c) (n:Nat) (hl:a.eval l=.int .i64 (n:Int)) (hc:a.eval c=.int .i64 (n:Int)) (hn:n<=1048576)
  (hK:∀w',dU w' w.heap.size (.slice (some ⟨w.heap.size,0,none⟩) n n) (List.replicate n []) [w.heap.size]->Below w.heap.size w w'->wpList Tryz.prog ops Q rest (a.put o.dst (.slice (some ⟨w.heap.size,0,none⟩) n n)) w'):wpList Tryz.prog ops Q (o::rest) a w:=by
 obtain⟨i0,hi,eS,cj,cX⟩:=info_parts yp;refine wpList_plain hg fun K Wf=>?_
 have hr:=run_make (P:=Tryz.prog) w 33 25 i0 (.slice none 0 0) Tryz.underlying33 hi eS .i64 .i64 n n (by omega) (Int.le_refl _) (by rw[cX];omega) (by omega)
 rw[cj]at hr;simp only[Int.toNat_natCast]at hr;rw[show(Value.slice none 0 0).cells=#[Value.slice none 0 0]from rfl,oC]at hr
 unfold Oper.wp;simp only[execOp,yb,hl,hc,Sem.run_bind,hr,Result.andThen_ok,Sem.run_pure];refine Wf _ _ (hK _ ?_ (aj _ _))
 have:=aM.made (R:=it) (e:=25) n (by simp[maxLen];omega) gH w
 rw[List.toArray_replicate]at this;exact this
end
theorem eJ {w:World} {A:Option Addr} {c:Nat} {uz:List (List Int)} (h:bw w (.slice A uz.length c) uz) {k:Nat} (hk:k<uz.length):∃xs b off A1 z,uz[k]?=some xs/\A=some ⟨b,off,none⟩/\w.cell? ⟨b,off+k,none⟩=some (.slice A1 xs.length z)/\xs.length<=z/\z<=9223372036854775807/\aG w (.slice A1 xs.length z) xs:=by
 obtain⟨A',c',e,_,_,hA⟩:=h;cases e;obtain⟨xs,hx⟩:=ax uz k hk;obtain⟨b,off,u,pW,h1,hr⟩:=hA k xs hx;have O4:=hr;obtain⟨A1,z,rfl,h2,h3,gn⟩:=hr;unfold maxLen at h3;exact⟨xs,b,off,A1,z,hx,pW,h1,h2,by omega,O4⟩
theorem sS {l:List (List Int)} {size labels:Int} {k:Nat} (h:(List.range k).all (iH l size labels)=true) (hk:iH l size labels k=true):(List.range (k+1)).all (iH l size labels)=true:=by
 rw[cm,h,hk];rfl
section
variable {ops : Array Oper}
end
theorem f5 (v:Value) (l:List (List Int)) (size labels:Int) (w:World) (h:bw w v l) (hl:1<=labels/\labels<=8):
  Calls Tryz.prog 87 #[v,.int .i64 size,.int .i64 labels] w fun e w'=>e=.returned (.bool (p8 l size labels))/\Below w.heap.size w w':=by
 have H:=zh h;obtain⟨A,c,rfl,er,hm,-⟩:=h;unfold maxLen at hm;have wl:IntKind.i64.wrap (labels-1)=labels-1:=aR _ (by omega) (by omega)
 go_enter Tryz.func87,Tryz.ntmps87
 go_wp2
 go_loopw [11] (fun i wr=>∃k:Nat,k<=l.length/\i=.int .i64 k/\(List.range k).all (iH l size labels)=true/\Below w.heap.size w wr) (fun i _=>l.length-(intOf i).toNat)
 case atStart=>exact⟨0,Nat.zero_le _,rfl,rfl,Below.refl _ _⟩
 case round=>
  obtain⟨k,hk,rfl,bF,hb⟩:=hrel;have fF:=zh bF;have Hb:=zh hb;clear bF hb
  by_cases aH:k<l.length
  ·obtain⟨x,b,off,A1,z,hx,rfl,bS,cj,cX,kj⟩:=eJ H.out aH
   replace bS:=bc Hb.out bS
   have Hx:=zh hx;have HX:=zh (show ∀X,aa wr X->aG X (.slice A1 x.length z) x from fun X hX=>kj.aab (Hb.out.trans (hX.mono Hb.out.size)))
   clear hx kj
   have Dz:Hid (iH l size labels k=(((x.length:Int)==size)&&(ik x&&jb x 0 (labels-1))&&(k==0||decide (cp (l.getD (k-1) []) x<0)))):=by show _=_;unfold iH Dy;rw[ag Hx.out]
   by_cases dO:(x.length:Int)=size
   ·cases yq:ik x
    ·have uA:=zh yq;clear yq
     go_wp2_with (go_at_call 127;refine(ft _ x _ (HX.out _ (ab _))).mono ?_;rw[uA.out];rintro e w1 ⟨rfl,aJ⟩)
     go_ret
     exact⟨az (nS aH (by rw[Dz.out,uA.out];simp)),Hb.out.trans (aJ.mono Hb.out.size)⟩
    ·have uA:=zh yq;clear yq;cases oz:jb x 0 (labels-1)
     ·have Fi:=zh oz;clear oz
      go_wp2_with (first | (go_at_call 127;refine(ft _ x _ (HX.out _ (ab _))).mono ?_;rw[uA.out];rintro e w1 ⟨rfl,aJ⟩) | (go_at_call 104;refine(e_ _ x 0 (labels-1) _ (HX.out _ aJ)).mono ?_;rw[Fi.out];rintro e w2 ⟨rfl,hb2⟩))
      go_ret
      exact⟨az (nS aH (by rw[Dz.out,Fi.out];simp)),Hb.out.trans ((aa.trans aJ hb2).mono Hb.out.size)⟩
     ·have Fi:=zh oz;have ja:=zh dO;clear oz;rcases Nat.eq_zero_or_pos k with h0 | h0
      ·have Fh:¬(k:Int)>0:=by omega
       have dR:Hid (iH l size labels k=true):=by show _=_;rw[Dz.out,uA.out,Fi.out,h0];simp[ja.out]
       clear h0
       go_wp2_with (first | (go_at_call 127;refine(ft _ x _ (HX.out _ (ab _))).mono ?_;rw[uA.out];rintro e w1 ⟨rfl,aJ⟩) | (go_at_call 104;refine(e_ _ x 0 (labels-1) _ (HX.out _ aJ)).mono ?_;rw[Fi.out];rintro e w2 ⟨rfl,hb2⟩))
       have nD:=zh (Hb.out.trans ((aa.trans aJ hb2).mono Hb.out.size));clear aJ hb2;go_wp2;go_roundw
       case rel=>exact⟨k+1,by omega,by go_num,sS fF.out dR.out,nD.out⟩
       case measure=>simp[intOf];omega
      ·obtain⟨y,b',ru,A2,z2,hy,he,ke,Fj,Gr,DA⟩:=eJ H.out (k:=k-1) (by omega);cases he
       replace ke:=bc Hb.out ke
       have HY:=zh (show ∀X,aa wr X->aG X (.slice A2 y.length z2) y from fun X hX=>DA.aab (Hb.out.trans (hX.mono Hb.out.size)))
       have Hy:=zh hy;obtain⟨cv,xA⟩:∃cv,cp y x=cv:=⟨_,rfl⟩
       have zr:=zh xA
       have wk:IntKind.i64.wrap ((k:Int)-1)=((k-1:Nat):Int):=by rw[aR _ (by omega) (by omega)];omega
       have ld:k-1<l.length:=by omega
       have q2:=ad ke;clear hy DA xA ke
       by_cases lz:cv>=0
       ·go_wp2_with (first | (go_at_call 127;refine(ft _ x _ (HX.out _ (ab _))).mono ?_;rw[uA.out];rintro e w1 ⟨rfl,aJ⟩) | (go_at_call 104;refine(e_ _ x 0 (labels-1) _ (HX.out _ aJ)).mono ?_;rw[Fi.out];rintro e w2 ⟨rfl,hb2⟩;have dS:aa wr w2:=aa.trans aJ hb2) | (go_at_call 128;refine(cF _ _ y x _ (HY.out _ (aa.trans aJ hb2)) (HX.out _ (aa.trans aJ hb2))).mono ?_;rw[zr.out];rintro e w3 ⟨rfl,aZ⟩))
        go_ret
        exact⟨az (nS aH (by rw[Dz.out,ag Hy.out,zr.out];simp;omega)),Hb.out.trans ((aa.trans (aa.trans aJ hb2) aZ).mono Hb.out.size)⟩
       ·have dR:Hid (iH l size labels k=true):=by show _=_;rw[Dz.out,uA.out,Fi.out,ag Hy.out,zr.out];simp[ja.out];omega
        go_wp2_with (first | (go_at_call 127;refine(ft _ x _ (HX.out _ (ab _))).mono ?_;rw[uA.out];rintro e w1 ⟨rfl,aJ⟩) | (go_at_call 104;refine(e_ _ x 0 (labels-1) _ (HX.out _ aJ)).mono ?_;rw[Fi.out];rintro e w2 ⟨rfl,hb2⟩;have dS:aa wr w2:=aa.trans aJ hb2) | (go_at_call 128;refine(cF _ _ y x _ (HY.out _ (aa.trans aJ hb2)) (HX.out _ (aa.trans aJ hb2))).mono ?_;rw[zr.out];rintro e w3 ⟨rfl,aZ⟩))
        have nD:=zh (Hb.out.trans ((aa.trans (aa.trans aJ hb2) aZ).mono Hb.out.size));clear aJ hb2 aZ dS q2;go_wp2;go_roundw
        case rel=>exact⟨k+1,by omega,by go_num,sS fF.out dR.out,nD.out⟩
        case measure=>simp[intOf];omega
   ·have ja:=zh dO;go_wp2;go_ret
    exact⟨az (nS aH (by rw[Dz.out];simp[ja.out])),Hb.out⟩
  ·obtain rfl:k=l.length:=by omega
   go_wp2;go_ret;exact⟨cB fF.out,Hb.out⟩
open Go.RowKit Go.Shelf
attribute [local go_sem] Oper.semAt_some
def Ag (x:Int):Array Value:=#[.int .i64 x]
theorem sT (F:Fence) (n:Nat) (hf:F.fn 198) (J0:F.round=none) (hn:1<=n) (Bs:Nat) (sv:Value) (xs:List Int) (w:World) (hc:w.cell? ⟨Bs,0,none⟩=some sv) (hI:aG w sv xs):
  SeqStopsK F n Tryz.prog 198 #[.pointer (some ⟨Bs,0,none⟩)] Ag (dg 0 w.heap.size) (fun ys=>ys=xs) (fun _=>True) xs.length w:=fun l J Jx W hW _ _ hY h0=>by
 have Ds:=bc hW hc;obtain⟨A,c,rfl,er,hm,hA⟩:=hI;unfold maxLen at hm;have HA:=zh hA;have HW:=zh hW;have HY:=zh hY;clear hA hW hc hY;refine callsIn_of_wp Tryz.func198 rfl hf ?_ J0
 simp only[Tryz.ntmps198,List.size_toArray,List.length_cons,List.length_nil,Nat.reduceAdd,Nat.reduceSub,Array.replicate_succ,Array.replicate_zero,List.push_toArray,List.append_toArray,List.nil_append,List.cons_append]
 gi_wp2
 gi_loopw [7] (fun i wr=>∃k:Nat,k<=xs.length/\i=.int .i64 k/\J (xs.take k) wr/\dg 0 w.heap.size W wr) (fun i _=>xs.length-(intOf i).toNat)
 case atStart=>exact⟨0,Nat.zero_le _,rfl,by simpa using h0,dg.refl _ _ _⟩
 case round=>
  obtain⟨k,hk,rfl,O5,Tk⟩:=hrel;have qM:=zh Tk;clear Tk
  by_cases aH:k<xs.length
  ·obtain⟨x,b,off,hx,rfl,bS⟩:=fq HA.out aH;have se:b<w.heap.size:=World.block_lt_of_cell? w _ bS;have Ah:wr.cell? ⟨b,off+k,none⟩=some (.int .i64 x):=qM.out.cell (Nat.zero_le _) se (bc HW.out bS)
   obtain⟨fn,tmps,assign,body,hy,hR⟩:=HY.out _ x wr O5 (by rw[List.length_take];omega)
   unfold Ag at hy;have Hx:=zh hx;clear hx bS
   gi_wp2
   refine hR.mono ?_
   rintro e W3 (⟨rfl,Wg,yr⟩ | ⟨rfl,O6⟩)
   ·gi_wp2
    go_roundw
    case rel=>exact⟨k+1,by omega,by go_num,by rw[aK Hx.out];exact Wg,qM.out.t yr⟩
    case measure=>simp[intOf];omega
   ·gi_wp2
    refine bodyPost_ret (results_none rfl _ _ _) rfl ?_;exact⟨⟨_,rfl⟩,.inr ⟨_,trivial,O6⟩⟩
  ·obtain rfl:k=xs.length:=by omega
   rw[List.take_length]at O5
   gi_wp2
   go_end0
   exact⟨⟨_,rfl⟩,.inl ⟨_,rfl,O5⟩⟩
theorem yt (n:Nat) (A:Option Addr) (k c:Nat) (w:World):
  CallsIn Fence.wide n Tryz.prog 176 #[.slice A k c] w fun e w'=>e=.returned (.func (.func 198) #[] #[.pointer (some ⟨w.heap.size,0,none⟩)])/\w'=w.alloc (.cells #[.slice A k c] 25):=by
 refine callsIn_of_wp Tryz.func176 rfl trivial ?_ rfl
 simp only[Tryz.ntmps176,List.size_toArray,List.length_cons,List.length_nil,Nat.reduceAdd,Nat.reduceSub,Array.replicate_succ,Array.replicate_zero,List.push_toArray,List.append_toArray,List.nil_append,List.cons_append]
 gi_wp2
 go_ret;exact⟨rfl,rfl⟩
def Ai (b0:Nat) (w:World) (pre:List Int) (W:World):Prop:=
 (∃v,Boxed W b0 25 v/\Own W (b0+1) v pre)/\Below b0 w W/\b0+1<=W.heap.size
theorem Aj (b0:Nat) (w:World) (hb:b0<=w.heap.size) (B:Nat) (hB:b0<=B):OwnFrom B (Ai b0 w):=by
 refine OwnFrom.and ?_ (OwnFrom.and (ownFrom_below hb hB) (fun _ _ _ _ hs hg _=>Nat.le_trans hs hg.size))
 have:=_root_.Go.Own.from (holdsRow_own (β:=List Int) (b0+1) b0 25 3 1 (fun pre=>pre.length) (fun pre=>pre.map (Value.int .i64)) (fun _ _=>True)) B
 intro s W W' row hs hg hr;obtain⟨v,h1,h2⟩:=hs;obtain⟨v',OX,Wh,_⟩:=this s W W' row ⟨v,h1,h2,trivial⟩ hg hr;exact⟨v',OX,Wh⟩
theorem qN {b0 g' c':Nat} {w W w2:World} {pre:List Int} {x:Int} {v:Value} {o:Obj}
  (hb2:Boxed W b0 25 v) (bh:Own W (b0+1) v pre) (hB:Below b0 w W) (dM:b0+1<=W.heap.size)
  (sU:Own w2 (b0+1) (.slice (some ⟨g',0,none⟩) (pre.length+1) c') (pre++[x])) (rt:(W.alloc o).grownBy w2 v.ownBlock):
  Boxed w2 b0 25 v/\KeepsFrom (b0+1) W (w2.setCell ⟨b0,0,none⟩ (.slice (some ⟨g',0,none⟩) (pre.length+1) c')) /\
   dg 0 b0 W (w2.setCell ⟨b0,0,none⟩ (.slice (some ⟨g',0,none⟩) (pre.length+1) c')) /\
   Ai b0 w (pre++[x]) (w2.setCell ⟨b0,0,none⟩ (.slice (some ⟨g',0,none⟩) (pre.length+1) c')):=by
 have aH:∀k,v.ownBlock=some k->b0+1<=k:=fun k hk=>(World.ownsRow.lt bh k hk).1
 have O7:some b0≠v.ownBlock:=fun e=>by have:=aH b0 e.symm;omega
 have k2:Boxed w2 b0 25 v:=(hb2.alloc o).kept rt O7;have hg:=sU.blk;have k3:=(k2.set (.slice (some ⟨g',0,none⟩) (pre.length+1) c'))
 have o3:Own (w2.setCell ⟨b0,0,none⟩ (.slice (some ⟨g',0,none⟩) (pre.length+1) c')) (b0+1) (.slice (some ⟨g',0,none⟩) (pre.length+1) c') (pre++[x]):=
  World.ownsRow.kept sU (grownBy_setCell' w2 b0 _) (.inr (by simp[Value.ownBlock];omega))
 have uM:∀k,k<W.heap.size->k≠b0->v.ownBlock≠some k->(w2.setCell ⟨b0,0,none⟩ (.slice (some ⟨g',0,none⟩) (pre.length+1) c')).heap[k]?=W.heap[k]?:=by
  intro k hk h1 h3
  rw[Below.heap_setCell _ _ _ k h1,rt.block k (by show k<(W.alloc o).heap.size;simp;omega) (fun e=>h3 e.symm)]
  exact Below.heap_alloc W o k hk
 have Gs:W.heap.size<=(w2.setCell ⟨b0,0,none⟩ (.slice (some ⟨g',0,none⟩) (pre.length+1) c')).heap.size:=by
  have:=rt.size
  simp[World.setCell]at *
  omega
 refine⟨k2,⟨Gs,?_⟩,⟨Gs,fun k h1 h2=>uM k (by omega) (by omega) (fun e=>by have:=aH k e;omega)⟩,⟨_,k3,o3⟩,?_,by omega⟩
 ·intro k o' hk Nh hc;refine(uM k (Array.getElem?_eq_some_iff.1 Nh).1 (by omega) (fun e=>?_)).trans Nh
  rcases bh.2 with⟨rfl,_⟩ | ⟨gg,cap,cur,rfl,_,OF,_⟩
  ·simp[Value.ownBlock]at e
  ·simp only[Value.ownBlock,Option.some.injEq]at e;subst e;rw[OF]at Nh;cases Nh;simp[Obj.isCells]at hc
 ·refine hB.trans ⟨?_,?_,?_,Gs,fun k hk=>uM k (by have:=hB.size;omega) (by omega) (fun e=>by have:=aH k e;omega)⟩
  ·exact rt.os
  ·exact rt.tape
  ·exact rt.output
theorem yu (n:Nat) (hn:3<=n) (Bs:Nat) (sv:Value) (xs:List Int) (w:World) (hc:w.cell? ⟨Bs,0,none⟩=some sv) (hI:aG w sv xs) (hl:xs.length<=1000):
  CallsIn Fence.wide n Tryz.prog 202 #[.slice none 0 0,.func (.func 198) #[] #[.pointer (some ⟨Bs,0,none⟩)]] w fun e W'=>∃v,e=.returned v/\Own W' w.heap.size v xs/\Below w.heap.size w W':=by
 have jz:1<=n:=by omega
 refine callsIn_of_wp_marks Tryz.func202 rfl trivial ?_ rfl
 simp only[Tryz.ntmps202,List.size_toArray,List.length_cons,List.length_nil,Nat.reduceAdd,Nat.reduceSub,Array.replicate_succ,Array.replicate_zero,List.push_toArray,List.append_toArray,List.nil_append,List.cons_append];have Hc:=zh hc;have HI:=zh hI;clear hc hI
 gi_wp2
 have O8:(w.alloc (.cells #[.slice none 0 0] 25)).heap.size=w.heap.size+1:=by simp
 refine wpIn_rangeFunc_ownG rfl jz (gf:=198) (lb:=#[.pointer (some ⟨Bs,0,none⟩)]) rfl trivial (enters_of Tryz.func198 (by kernel_rfl) rfl)
  (sT Fence.wide (n-1) trivial rfl (by omega) Bs sv xs w Hc.out HI.out) dg.t (dg.b (by simp)) (aj _ _) (fun _=>rfl)
  (Ai w.heap.size w)
  (fun _ _ _=>False)
  (Aj w.heap.size w (Nat.le_refl _) _ (by simp))
  (fun _ _ _ _ _ hs _ _=>hs)
  ⟨⟨_,Boxed.new w _ _,fT _ _⟩,aj _ _,by simp⟩
  (fun x => { tmps:=#[.slice none 0 0,.func (.func 198) #[] #[.pointer (some ⟨Bs,0,none⟩)],.pointer (some ⟨w.heap.size,0,none⟩),undef,.slice none 0 0,.int .i64 x,.func (.func 198) #[] #[.pointer (some ⟨Bs,0,none⟩)],.int .i64 x,undef,undef,undef,undef,undef],defers:=[] }) ?assign ?body ?done ?stop
 case assign=>
  intro l x W K hK;unfold Ag
  gi_wp2
  exact hK
 case body=>
  rintro lr pre x W ⟨⟨v,hb2,bh⟩,hB,J1⟩ aH
  obtain⟨g',c',w2,bG,sU,J2,xx⟩:=OH (w:=W.alloc (.cells #[.int .i64 x] 3)) (bh.aab (aj W _)) x 25 W.heap.size (by simp) (by omega) (by simp;omega)
  have ke:=hb2.cell;obtain⟨k2,s1,s2,s3⟩:=qN hb2 bh hB J1 sU J2;have gm:=k2.cell;have xB:=k2.frozen
  have O9:oi Tryz.prog 25 v (Value.slice (some { block:=W.heap.size,off:=0 }) 1 1) (W.alloc (Obj.cells #[Value.int IntKind.i64 x] 3))=.ok (.value (Value.slice (some { block:=g',off:=0 }) (pre.length+1) c')) w2:=by unfold oi;rw[bG];rfl
  have s0:=s1;rw[<- O8]at s0;clear bG hb2 bh hB sU J2 xx k2 s1 O8
  generalize Ni:pre.length=pn at *
  gi_wp2_with (gi_at_builtin;refine rv (.tmp 8) (.tmp 10) rfl rfl _ w2 O9 ?_)
  exact⟨s0,s2,s3⟩
 case done=>
  rintro D ys W hD rfl ⟨⟨v,hb2,bh⟩,hB,J1⟩ hK;simp only[O8]at hD;have ke:=hb2.cell;have HO:=zh bh;have HB:=zh hB;have HK:=zh hK;have pQ:=zh hb2;clear bh hB hK hb2
  gi_wp2
  refine⟨by simp,.inl ⟨_,_,rfl,run_takeDeferred HK.out,?_⟩⟩;exact⟨_,results_tmp rfl _ _ _,v,rfl,uO (HO.out.mono (by omega)) _ HK.out rfl,HB.out.trans (belowK_b (w:=w) (Nat.le_refl _) W D _ _ (by omega) HK.out rfl rfl)⟩
 case stop=>
  rintro D c pre W _ _ h _;exact h.elim
theorem vd (n:Nat) (hn:4<=n) (Bs:Nat) (sv:Value) (xs:List Int) (w:World) (hc:w.cell? ⟨Bs,0,none⟩=some sv) (hI:aG w sv xs) (hl:xs.length<=1000):
  CallsIn Fence.wide n Tryz.prog 197 #[.func (.func 198) #[] #[.pointer (some ⟨Bs,0,none⟩)]] w fun e W'=>∃v,e=.returned v/\Own W' w.heap.size v xs/\Below w.heap.size w W':=by
 have Hc:=zh hc;have HI:=zh hI;clear hc hI;have jz:1<=n:=by omega
 refine callsIn_of_wp Tryz.func197 rfl trivial ?_ rfl
 simp only[Tryz.ntmps197,List.size_toArray,List.length_cons,List.length_nil,Nat.reduceAdd,Nat.reduceSub,Array.replicate_succ,Array.replicate_zero,List.push_toArray,List.append_toArray,List.nil_append,List.cons_append]
 gi_wp2_with (refine⟨trivial,?_⟩;gi_at_call 202;refine(yu (n-1) (by omega) Bs sv xs _ Hc.out HI.out hl).mono ?_;rintro e w1 ⟨v,rfl,ho,hb⟩)
 go_ret;exact⟨_,rfl,ho,hb⟩
theorem yv (n:Nat) (hn:5<=n) (Bs:Nat) (sv:Value) (xs:List Int) (w:World) (hc:w.cell? ⟨Bs,0,none⟩=some sv) (hI:aG w sv xs) (hl:xs.length<=1000):
  CallsIn Fence.wide n Tryz.prog 175 #[.func (.func 198) #[] #[.pointer (some ⟨Bs,0,none⟩)]] w fun e W'=>∃v,e=.returned v/\Own W' w.heap.size v (db xs)/\Below w.heap.size w W':=by
 have Hc:=zh hc;have HI:=zh hI;clear hc hI;have jz:1<=n:=by omega
 refine callsIn_of_wp Tryz.func175 rfl trivial ?_ rfl
 simp only[Tryz.ntmps175,List.size_toArray,List.length_cons,List.length_nil,Nat.reduceAdd,Nat.reduceSub,Array.replicate_succ,Array.replicate_zero,List.push_toArray,List.append_toArray,List.nil_append,List.cons_append]
 gi_wp2_with (refine⟨trivial,?_⟩;gi_at_call 197;refine(vd (n-1) (by omega) Bs sv xs _ Hc.out HI.out hl).mono ?_;rintro e w1 ⟨v,rfl,ho,hb⟩)
 have Ho:=zh ho;have Hb:=zh hb;clear ho hb
 gi_wp2_with (refine⟨trivial,(callsIn_wide.2 (lm _ xs _ _ Ho.out (by omega))).mono ?_⟩;rintro e w2 ⟨rfl,cy,xx⟩)
 go_ret;exact⟨_,rfl,cy,Hb.out.grown xx Hb.out.size (fun k e=>(World.ownsRow.lt Ho.out k e).1)⟩
section
variable {ops : Array Oper} {rest : List Oper} {o : Oper} {a : Act} {Q : Exit → Act → World → Prop}
end
section
variable {ops : Array Oper} {rest : List Oper} {o : Oper} {a : Act} {Q : Exit → Act → World → Prop}
end
section
variable {ops : Array Oper} {rest : List Oper} {o : Oper} {a : Act} {Q : Exit → Act → World → Prop}
end
section
open Go.ChangeShapes Go.WideShapes Go.ChangeAt Go.Joins Go.Deep
variable {H : Type} {enc : TypeId × Value → H} {W : World}
end
structure ASt where
 rounds:List Int
 before:List Int
 now:List Int
 aaO:List (List Int)
 aaM:List (List (List (Int×Int)))
theorem cd.put {β:Type} {R:World->Nat->Value->β->List Nat->Prop} (L:cd R) {w:World} {base:Nat} {v:Value} {x:β} {S:List Nat} (h:R w base v x S) {p:Addr} (hp:p.block<base) (u:Value):R (w.setCell p u) base v x S:=L.aac h fun k hk=>Below.heap_setCell _ _ _ _ (by have:=(L.range h k hk).1;omega)
theorem jf (w:World) (p:Addr) (u:Value):(w.setCell p u).heap.size=w.heap.size:=by simp[World.setCell]
def dp (w:World) (b:Nat) (vs:Array Value):Prop:=∃r,w.heap[b]?=some (.cells vs r)
theorem dp.lt {w:World} {b:Nat} {vs:Array Value} (h:dp w b vs):b<w.heap.size:=by
 obtain⟨r,h⟩:=h;exact(Array.getElem?_eq_some_iff.1 h).1
theorem dp.below {w w':World} {B b:Nat} {vs:Array Value} (h:dp w b vs) (hb:Below B w w') (hB:b<B):dp w' b vs:=by
 obtain⟨r,h⟩:=h
 exact⟨r,by rw[hb.block b hB];exact h⟩
theorem dp.set {w:World} {b:Nat} {vs:Array Value} {u:Value} {p:Addr} (h:dp w b vs) (ha:p.block≠b):dp (w.setCell p u) b vs:=by
 obtain⟨r,h⟩:=h
 exact⟨r,by rw[Below.heap_setCell _ _ _ _ (fun e=>ha e.symm)];exact h⟩
theorem dp.cell {w:World} {b:Nat} {vs:Array Value} (h:dp w b vs) (i:Nat) (u:Value) (hi:vs[i]?=some u):w.cell? ⟨b,i,none⟩=some u/\w.frozen? ⟨b,i,none⟩=false:=by
 obtain⟨r,h⟩:=h;exact⟨by simp[World.cell?,h,hi],by simp[World.frozen?,h]⟩
theorem dp.alloc {w:World} {b:Nat} {vs:Array Value} (h:dp w b vs) (o:Obj):dp (w.alloc o) b vs:=h.below (aj w o) h.lt
theorem dp.new (w:World) (vs:Array Value) (t:TypeId):dp (w.alloc (.cells vs t)) w.heap.size vs:=⟨t,by show(w.heap.push _)[w.heap.size]?=_;rw[Array.getElem?_push_size]⟩
structure Cl where
 state:Int
 inbox:List Int
 next:Int
section
variable {ops : Array Oper} {rest : List Oper} {o : Oper} {a : Act} {Q : Exit → Act → World → Prop}
end
def el (w:World) (a b:Value) (x:aN):Prop:=bw w a x.nodes/\bw w b x.aad
theorem el.aab {w w':World} {a b:Value} {x:aN} (h:el w a b x) (hb:Below w.heap.size w w'):el w' a b x:=⟨h.1.aab hb,h.2.aab hb⟩
def rA (x:aN):Nat:=Af x.nodes+Af x.aad
structure Mac where
 degree:Int
 aaN:Int
 messages:Int
 start:List (List Int)
 send:List (List Int)
 clauses:List Cl
 output:List Int
end Go.Proofs.YtgjggeapebbcbaaGreat
