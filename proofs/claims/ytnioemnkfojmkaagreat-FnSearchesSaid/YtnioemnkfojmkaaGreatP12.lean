/- Parts of the proof: walks of functions and plain laws. -/
import Derived.Test.YtnioemnkfojmkaaGreatP0
import Derived.Test.YtnioemnkfojmkaaGreatP3
import Derived.Test.YtnioemnkfojmkaaGreatP2
import Derived.Test.YtnioemnkfojmkaaGreatP11
import Derived.Test.YtnioemnkfojmkaaGreatP5
import Derived.Test.YtnioemnkfojmkaaGreatP10
import Derived.Test.YtnioemnkfojmkaaGreatP7
import Derived.ArgAppend
import Derived.Maps.OwnOps
import Derived.Maps.RangeWalk
import Derived.WalkArith
import Derived.Test.YtnioemnkfojmkaaGreatP6
import Derived.Test.YtnioemnkfojmkaaGreatP1
set_option maxRecDepth 100000
set_option maxHeartbeats 16000000
namespace Go.Proofs.YtnioemnkfojmkaaGreat
open Go Go.RowKit
def lab (ls:List Int) (e:Int×Int):Int:=ls.getD e.1.toNat 0
theorem EM (v:Value) (xs:List Int) (x:Int) (w:World) (h:bO w v xs):
  Calls Tryz.prog 146 #[v,.int .i64 x] w fun e w'=>∃i:Int,e=.returned (.int .i64 i)/\decide (0<=i)=pN xs x/\w=w':=by
 obtain⟨A,c,rfl,f_,hm,hA⟩:=h;unfold maxLen at hm;have HA:=zh hA;clear hA
 go_enter Tryz.func146,Tryz.ntmps146
 go_wp2
 go_loop [8] (fun i=>∃k:Nat,k<=xs.length/\i=.int .i64 k/\x∉xs.take k) (fun i=>xs.length-(intOf i).toNat)
 case atStart=>exact⟨0,Nat.zero_le _,rfl,by simp⟩
 case round=>
  obtain⟨k,hk,rfl,me⟩:=hrel;have zN:=zh me;clear me
  by_cases aH:k<xs.length
  ·obtain⟨y,hy⟩:=ay xs k aH;obtain⟨b,off,rfl,fJ⟩:=HA.out k y hy;have Hy:=zh hy;clear hy;cases yR:(x==y)
   ·have Nu:=zh yR;go_wp2
    go_round
    case rel=>
     refine⟨k+1,by omega,by go_num,?_⟩
     rw[bX Hy.out];simp only[List.mem_append,List.mem_singleton,not_or];exact⟨zN.out,by simpa using Nu.out⟩
    case measure=>simp[intOf];omega
   ·have Nu:=zh yR;go_wp2;go_ret;refine⟨_,rfl,?_,rfl⟩;have e:x=y:=by simpa using Nu.out
    rw[e];unfold pN;simp[List.mem_of_getElem? Hy.out]
  ·go_wp2;go_ret;refine⟨_,rfl,?_,rfl⟩
   have:=zN.out
   rw[l4 xs aH]at this;unfold pN;simpa using this
theorem yp (v:Value) (xs:List Int) (x:Int) (w:World) (h:bO w v xs):
  Calls Tryz.prog 96 #[v,.int .i64 x] w fun e w'=>e=.returned (.bool (pN xs x))/\w=w':=by
 have H:=zh h;obtain⟨A,c,rfl,f_,hm,hA⟩:=h;clear hA
 go_enter Tryz.func96,Tryz.ntmps96
 go_wp2_with fail;refine(EM _ xs x _ H.out).mono ?_;rintro e w1 ⟨i,rfl,hi,rfl⟩;have Hi:=zh hi;clear hi;go_wp2;go_ret;exact⟨ce Hi.out,rfl⟩
structure aaL (n:aw) (p q:Int×Int):Prop where
 ok:aW n=true
 hp:dq n.ends p.1 p.2=true
 hq:dq n.ends q.1 q.2=true
 n1:p≠q
 n2:iC n.ends p.1 p.2≠q
 n3:iC n.ends p.1 p.2≠p
 n4:iC n.ends q.1 q.2≠q
structure ack (n:aw) (ls:List Int) (p q:Int×Int):Prop extends aaL n p q where
 s2:p.2=q.2
 t2:(iC n.ends p.1 p.2).2=(iC n.ends q.1 q.2).2
 s1:lab ls p=lab ls q
 t1:lab ls (iC n.ends p.1 p.2)=lab ls (iC n.ends q.1 q.2)
def W9 (cur:Int) (st:List Int×List Int) (x:Int):List Int×List Int:=if st.1.getD x.toNat 0<0 then (st.1.set x.toNat (st.1.getD cur.toNat 0+1),st.2++[x]) else st
def IE (n:aw) (cur:Int):List Int:=(n.ends.getD cur.toNat []).map fun e=>e.1
def bfs (n:aw):Nat->List Int×List Int->Nat->List Int
 | 0,st,_=>st.1
 | f+1,st,i=>if i<st.2.length then bfs n f ((IE n (st.2.getD i 0)).foldl (W9 (st.2.getD i 0)) st) (i+1) else st.1
def KP (n:aw) (v:Nat):List Int×List Int:=((List.replicate n.ends.length (-1)).set v 0,[(v:Int)])
def W_ (n:aw) (v:Nat):List Int:=bfs n (n.ends.length+1) (KP n v) 0
structure BI (N:Nat) (st:List Int×List Int):Prop where
 len:st.1.length=N
 walk:∀x∈st.2,0<=x/\x<N
 cnt:st.2.length+st.1.countP (fun x=>decide (x<0))=N
 val:∀x∈st.1,-1<=x/\x<st.2.length
inductive Qw (n:aw) (v:Nat):Nat->Prop
 | refl:Qw n v v
 | step {a b:Nat}:Qw n v a->(b:Int)∈IE n (a:Int)->Qw n v b
structure BR (n:aw) (v:Nat) (st:List Int×List Int):Prop where
 seen:∀w:Nat,w<n.ends.length->(0<=st.1.getD w 0↔(w:Int)∈st.2)
 rch:∀x∈st.2,Qw n v x.toNat
 start:(v:Int)∈st.2
def s8 (n:aw) (v:Nat):Nat:=((List.range n.ends.length).find? fun w=>decide (0<=(W_ n v).getD w 0)).getD 0
abbrev Ed:=Int×Int×Int×Int
def CJ (v i:Nat) (e:Int×Int):Bool:=decide ((v:Int)<e.1)||(((v:Int)==e.1)&&decide ((i:Int)<=e.2))
def An (v i:Nat) (e:Int×Int):List Ed:=if CJ v i e then [((v:Int),(i:Int),e.1,e.2)] else []
def qL (v:Nat) (es:List (Int×Int)) (i:Nat):List Ed:=(List.range i).flatMap fun j=>An v j (es.getD j (0,0))
def iJ (n:aw) (u:Nat):List (Int×Int):=n.ends.getD u []
def fR (n:aw) (v:Nat):List Ed:=(List.range v).flatMap fun u=>qL u (iJ n u) (iJ n u).length
def la (n:aw):List Ed:=fR n n.ends.length
theorem zn (v:Nat) (es:List (Int×Int)) (i:Nat):qL v es (i+1)=qL v es i++An v i (es.getD i (0,0)):=by
 unfold qL;rw[List.range_succ,List.flatMap_append];simp
theorem rS (n:aw) (v:Nat):fR n (v+1)=fR n v++qL v (iJ n v) (iJ n v).length:=by
 unfold fR;rw[List.range_succ,List.flatMap_append];simp
theorem CK (v:Nat) (es:List (Int×Int)) (i:Nat):(qL v es i).length<=i:=by
 induction i with
 | zero=>simp[qL]
 | succ i ih=>
  rw[zn,List.length_append]
  have:(An v i (es.getD i (0,0))).length<=1:=by unfold An;split <;> simp
  omega
theorem IF {n:aw} {e:Ed}:e∈la n↔∃v i,v<n.ends.length/\i<(iJ n v).length/\CJ v i ((iJ n v).getD i (0,0))=true/\e=((v:Int),(i:Int),((iJ n v).getD i (0,0)).1,((iJ n v).getD i (0,0)).2):=by
 unfold la fR qL
 simp only[List.mem_flatMap,List.mem_range];constructor
 ·rintro⟨v,hv,i,hi,he⟩;unfold An at he
  split at he
  ·rename_i hk
   exact⟨v,i,hv,hi,hk,by simpa using he⟩
  ·simp at he
 ·rintro⟨v,i,hv,hi,hk,rfl⟩
  exact⟨v,hv,i,hi,by unfold An;rw[if_pos hk];simp⟩
inductive Con (E:List (Nat×Nat)) (a:Nat):Nat->Prop
 | refl:Con E a a
 | step {b c:Nat}:Con E a b->((b,c)∈E\/(c,b)∈E)->Con E a c
def oB (n:aw) (v i:Nat) (f:Int×Int):Prop:=(n.ends.getD v [])[i]?=some f
theorem Gh {n:aw} (hn:aW n=true) {v i:Nat} {f:Int×Int} (h:oB n v i f):v<n.ends.length/\0<=f.1/\f.1<n.ends.length/\0<=f.2/\oB n f.1.toNat f.2.toNat ((v:Int),(i:Int)):=by
 have hv:v<n.ends.length:=by
  rcases Nat.lt_or_ge v n.ends.length with h1 | h1
  ·exact h1
  ·unfold oB at h;rw[zDd,List.getElem?_eq_none h1]at h;simp at h
 have hi:=al h
 have hp:dq n.ends (v:Int) (i:Int)=true:=by
  unfold dq;rw[Bool.and_eq_true,aL,aL];simp only[Int.toNat_natCast];omega
 have he:iC n.ends (v:Int) (i:Int)=f:=by
  unfold iC;simp only[Int.toNat_natCast];exact ak h
 obtain⟨h1,h2⟩:=yS hn hp;rw[he]at h1 h2;unfold dq at h1;rw[Bool.and_eq_true,aL,aL]at h1;refine⟨hv,h1.1.1,by omega,h1.2.1,?_⟩
 have hl:f.2.toNat<(n.ends.getD f.1.toNat []).length:=by omega
 obtain⟨y,hy⟩:=ay _ _ hl;unfold iC at h2;rw[ak hy]at h2;unfold oB;rw[hy,h2]
def ax (l:List (List Int)) (v i:Nat):Int:=(l.getD v []).getD i 0
def cD (l:List (List Int)) (v i:Nat):Prop:=i<(l.getD v []).length
def dB (l s:List (List Int)):Prop:=l.length=s.length/\∀v,(l.getD v []).length=(s.getD v []).length
theorem dB.refl (l:List (List Int)):dB l l:=⟨rfl,fun _=>rfl⟩
theorem dB.symm {l s:List (List Int)} (h:dB l s):dB s l:=⟨h.1.symm,fun v=>(h.2 v).symm⟩
theorem dB.trans {l s t:List (List Int)} (h:dB l s) (k:dB s t):dB l t:=⟨h.1.trans k.1,fun v=>(h.2 v).trans (k.2 v)⟩
theorem cD.lt {l:List (List Int)} {v i:Nat} (h:cD l v i):v<l.length:=by
 unfold cD at h;rcases Nat.lt_or_ge v l.length with h1 | h1
 ·exact h1
 ·rw[zDd,List.getElem?_eq_none h1]at h;simp at h
theorem cD.same {l s:List (List Int)} {v i:Nat} (hs:dB l s) (h:cD l v i):cD s v i:=by unfold cD at h ⊢;rw[<- hs.2 v];exact h
theorem f7 (l:List (List Int)) (v i:Nat) (x:Int):dB l (dA l ((v:Int),(i:Int)) x):=by
 unfold dA;simp only[Int.toNat_natCast];refine⟨by rw[List.length_set],fun u=>?_⟩
 rw[zDd,zDd,List.getElem?_set]
 by_cases e:v=u
 ·subst e;rw[if_pos rfl]
  split
  ·simp
  ·rename_i h1
   rw[List.getElem?_eq_none (by omega)]
 ·rw[if_neg e]
theorem iZ {l:List (List Int)} {v i:Nat} (h:cD l v i) (x:Int) (u j:Nat):ax (dA l ((v:Int),(i:Int)) x) u j=if u=v/\j=i then x else ax l u j:=by
 have hv:=h.lt;unfold cD at h
 unfold ax dA
 simp only[Int.toNat_natCast];rw[zDd,zDd,List.getElem?_set]
 by_cases e:v=u
 ·subst e;rw[if_pos rfl,if_pos hv];show((l.getD v []).set i x)[j]?.getD 0=_
  rw[List.getElem?_set]
  by_cases e2:i=j
  ·subst e2;rw[if_pos rfl,if_pos h,if_pos ⟨rfl,rfl⟩];rfl
  ·rw[if_neg e2,if_neg (fun h=>e2 h.2.symm)]
   simp only[zDd]
 ·rw[if_neg e,if_neg (fun h=>e h.1.symm),zDd,zDd]
theorem uX (l:List (List Int)) (v i:Nat):cF l ((v:Int),(i:Int))=ax l v i:=by unfold cF ax;simp only[Int.toNat_natCast]
theorem KQ {a b:Int} {c:List Int} (h:a<=b):(c.dropWhile fun x=>decide (x<a)).count b=c.count b:=by
 induction c with
 | nil=>rfl
 | cons x c ih=>
  by_cases hx:x<a
  ·rw[List.dropWhile_cons_of_pos (by simpa using hx),ih,List.count_cons_of_ne (by omega)]
  ·rw[List.dropWhile_cons_of_neg (by simpa using hx)]
theorem qM {c l:List Int} (hc:c.Pairwise (· <= ·)) (hl:l.Pairwise (· <= ·)):et c l=true↔∀a,l.count a<=c.count a:=by
 induction l generalizing c with
 | nil=>simp[et]
 | cons a l ih=>
  have EO:=List.pairwise_cons.1 hl;have hd:=hc.sublist (List.dropWhile_sublist (fun x=>decide (x<a)))
  have KR:=fun b (h:a<=b)=>KQ (c:=c) h
  have aaM:∀x r,(c.dropWhile fun x=>decide (x<a))=x::r->a<=x:=fun x r he=>by
   have h1:=List.head?_dropWhile_not (fun x=>decide (x<a)) c
   rw[he]at h1;simp at h1
   omega
  unfold et
  cases Vj:c.dropWhile (fun x=>decide (x<a)) with
  | nil=>
   simp only
   constructor
   ·intro h;cases h
   ·intro h;have h1:=h a;have h2:=KR a (Int.le_refl _);rw[Vj]at h2;rw[List.count_cons_self]at h1;rw[List.count_nil]at h2;omega
  | cons x r=>
   rw[Vj]at hd KR;have Bz:=List.pairwise_cons.1 hd;have hax:=aaM x r Vj;simp only[Bool.and_eq_true,beq_iff_eq];constructor
   ·rintro⟨rfl,h2⟩ b;have h3:=(ih Bz.2 EO.2).1 h2 b
    by_cases hb:x<=b
    ·rw[<- KR b hb,List.count_cons,List.count_cons];omega
    ·rw[List.count_eq_zero.2 (fun hm=>?_)]
     ·omega
     ·rcases List.mem_cons.1 hm with rfl | hm
      ·omega
      ·have:=EO.1 b hm;omega
   ·intro h
    have DC:x=a:=by
     have h1:=h a;rw[<- KR a (Int.le_refl _),List.count_cons_self]at h1
     by_cases e:x=a
     ·exact e
     ·exfalso
      have:(x::r).count a=0:=List.count_eq_zero.2 fun hm=>by
       rcases List.mem_cons.1 hm with h2 | hm
       ·exact e h2.symm
       ·have:=Bz.1 a hm;omega
      omega
    subst DC;refine⟨rfl,(ih Bz.2 EO.2).2 fun b=>?_⟩
    by_cases hb:x<=b
    ·have h1:=h b;rw[<- KR b hb,List.count_cons,List.count_cons]at h1;omega
    ·rw[List.count_eq_zero.2 (fun hm=>by have:=EO.1 b hm;omega)]
     omega
theorem KS {c l:List Int} (h:et c l=true):l.Sublist c:=by
 induction l generalizing c with
 | nil=>exact List.nil_sublist _
 | cons a l ih=>
  unfold et at h;have hs:=List.dropWhile_sublist (l:=c) (fun x=>decide (x<a))
  cases Vj:c.dropWhile (fun x=>decide (x<a)) with
  | nil=>rw[Vj]at h;cases h
  | cons x r=>
   rw[Vj]at h hs;simp only[Bool.and_eq_true,beq_iff_eq]at h;obtain⟨rfl,h2⟩:=h;exact((ih h2).cons_cons x).trans hs
theorem EP {c:List Int} (h:kr c=true):c.Pairwise (· <= ·):=by
 have h:=lB.1 h
 have ts:∀(k i:Nat),i+k<c.length->c.getD i 0<=c.getD (i+k) 0:=fun k=>by
  induction k with
  | zero=>intro i _;exact Int.le_refl _
  | succ k ih=>intro i hi;exact Int.le_trans (ih i (by omega)) (h (i+k) (by omega))
 rw[List.pairwise_iff_getElem];intro i j hi hj NJ;have h1:=ts (j-i) i (by omega);rw[show i+(j-i)=j by omega,zDd,zDd,List.getElem?_eq_getElem hi,List.getElem?_eq_getElem hj]at h1
 exact h1
theorem pz {p:az} (hp:dF p=true) {c:List Int} (hc:c∈p.nodes):(c.length:Int)=p.degree/\c.Pairwise (· <= ·)/\∀x∈c,0<=x/\x<=p.labels-1:=by
 unfold dF at hp;simp only[Bool.and_eq_true,aL]at hp;obtain⟨i,hi⟩:=List.getElem?_of_mem hc;have h1:=JT hp.2.2.1 hi;unfold B6 at h1;simp only[Bool.and_eq_true,beq_iff_eq]at h1;refine⟨h1.1,EP h1.2.1,fun x hx=>?_⟩
 have h2:=h1.2.2;unfold jL at h2;exact aL.1 (List.all_eq_true.1 h2 x hx)
theorem tN {row:List Int} {a:Int} (h:0<=a):(dK row).count a=row.count a:=by
 unfold dK;rw[List.count_filter (by simpa using h)]
theorem Ao {row:List Int} {a:Int} (h:a<0):(dK row).count a=0:=by
 unfold dK;rw[List.count_eq_zero];intro hm
 have:=(List.mem_filter.1 hm).2
 simp at this
 omega
theorem tO:∀(row fo:List Int),fo.length=row.length->(∀i,i<row.length->fo.getD i 0=row.getD i 0\/fo.getD i 0<0)->∀a,0<=a->fo.count a<=row.count a
 | [],[],_,_,_,_=>Nat.le_refl _
 | [],_::_,h,_,_,_=>by simp at h
 | _::_,[],h,_,_,_=>by simp at h
 | x::row,y::fo,h,hr,a,ha=>by
  have ih:=tO row fo (by simpa using h) (fun i hi=>by
   have:=hr (i+1) (by simpa using hi)
   simpa using this) a ha
  have h0:=hr 0 (by simp);simp only[List.getD_cons_zero]at h0;rw[List.count_cons,List.count_cons];rcases h0 with rfl | h0
  ·omega
  ·have:(y==a)=false:=by rw[beq_eq_false_iff_ne];omega
   rw[this];simp
   omega
theorem tP (xs:List Int) (a:Int):(du xs).count a=xs.count a:=(iq xs).count_eq a
theorem CL {p:az} (hp:dF p=true) (row:List Int):dL p row=true↔((row.length:Int)=p.degree->∃c∈p.nodes,∀a,(dK row).count a<=c.count a):=by
 unfold dL;rw[Bool.or_eq_true,Bool.not_eq_true',beq_eq_false_iff_ne,List.any_eq_true];constructor
 ·intro h hl;rcases h with h | ⟨c,hc,h⟩
  ·exact absurd hl h
  ·refine⟨c,hc,fun a=>?_⟩
   rw[<- tP];exact(qM (pz hp hc).2.1 (fP _)).1 h a
 ·intro h
  by_cases hl:(row.length:Int)=p.degree
  ·obtain⟨c,hc,h⟩:=h hl;refine .inr ⟨c,hc,(qM (pz hp hc).2.1 (fP _)).2 fun a=>?_⟩
   rw[tP];exact h a
  ·exact .inl hl
theorem EQ {p:az} (hp:dF p=true) {row fo:List Int} (hl:fo.length=row.length) (hr:∀i,i<row.length->fo.getD i 0=row.getD i 0\/fo.getD i 0<0) (h:dL p row=true):dL p fo=true:=by
 refine(CL hp fo).2 fun hd=>?_
 obtain⟨c,hc,h⟩:=(CL hp row).1 h (by omega);refine⟨c,hc,fun a=>Nat.le_trans ?_ (h a)⟩
 by_cases ha:0<=a
 ·rw[tN ha,tN ha];exact tO row fo hl hr a ha
 ·rw[Ao (by omega)];exact Nat.zero_le _
def ER (p:az) (row:List Int):Bool:=!((row.length:Int)==p.degree)||p.nodes.contains (du row)
theorem s9 {p:az} (hp:dF p=true) {row:List Int} (h0:∀x∈row,0<=x):dL p row=ER p row:=by
 unfold dL ER
 by_cases hl:(row.length:Int)=p.degree
 ·rw[beq_iff_eq.2 hl];simp only[Bool.not_true,Bool.false_or];have hk:dK row=row:=List.filter_eq_self.2 fun a ha=>by simpa using h0 a ha
  rw[hk,Bool.eq_iff_iff,List.any_eq_true,List.contains_iff_mem];constructor
  ·rintro⟨c,hc,h⟩;have h1:=(pz hp hc).1
   have h2:=(KS h).eq_of_length (by rw[(iq row).length_eq];omega)
   rw[h2];exact hc
  ·intro h;exact⟨_,h,(qM (pz hp h).2.1 (fP _)).2 fun _=>Nat.le_refl _⟩
 ·rw[beq_eq_false_iff_ne.2 hl];rfl
def dM (n:aw) (v i:Nat):Nat×Nat:=(((n.ends.getD v []).getD i (0,0)).1.toNat,((n.ends.getD v []).getD i (0,0)).2.toNat)
def eG (n:aw) (l:List (List Int)):Prop:=l.length=n.ends.length/\∀v,(l.getD v []).length=(n.ends.getD v []).length
theorem eG.of {n:aw} {l:List (List Int)} (h:eC n.ends l):eG n l:=by
 refine⟨h.1,fun v=>?_⟩
 by_cases hv:v<l.length
 ·obtain⟨row,hr⟩:=ay l v hv
  obtain⟨es,he⟩:=ay n.ends v (by rw[<- h.1];exact hv)
  rw[ak hr,ak he];exact h.2 v es row he hr
 ·rw[zDd,zDd,List.getElem?_eq_none (by omega),List.getElem?_eq_none (by rw[<- h.1];omega)]
  rfl
theorem eG.same {n:aw} {l s:List (List Int)} (h:eG n l) (hs:dB l s):eG n s:=⟨hs.1.symm.trans h.1,fun v=>(hs.2 v).symm.trans (h.2 v)⟩
theorem pA {n:aw} (hn:aW n=true) {l:List (List Int)} (hs:eG n l) {v i:Nat} (h:cD l v i):cD l (dM n v i).1 (dM n v i).2/\dM n (dM n v i).1 (dM n v i).2=(v,i)/\(n.ends.getD v []).getD i (0,0)=(((dM n v i).1:Int),((dM n v i).2:Int)):=by
 unfold cD at h;rw[hs.2 v]at h;obtain⟨f,hf⟩:=ay (n.ends.getD v []) i h;have hp:=Gh hn (v:=v) (i:=i) (f:=f) hf;obtain⟨h1,h2,h3,h4,h5⟩:=hp
 have hm:dM n v i=(f.1.toNat,f.2.toNat):=by unfold dM;rw[ak hf]
 have rm:(n.ends.getD f.1.toNat [])[f.2.toNat]?=some ((v:Int),(i:Int)):=h5;rw[hm];refine⟨?_,?_,?_⟩
 ·unfold cD;rw[hs.2];exact al rm
 ·unfold dM;rw[ak rm];simp
 ·rw[ak hf]
  refine Prod.ext ?_ ?_ <;> simp <;> omega
theorem wQ (p:az) (a b:Int):edgeB p a b=edgeB p b a:=by unfold edgeB;rw[Int.min_comm,Int.max_comm]
def uw (p:az) (n:aw) (l:List (List Int)) (v i:Nat):Bool:=decide (ax l v i<0)||(decide (ax l (dM n v i).1 (dM n v i).2<0)||edgeB p (ax l v i) (ax l (dM n v i).1 (dM n v i).2))
theorem CM (p:az) (n:aw) (l:List (List Int)) (v i:Nat):fc p n.ends l ((v:Int),(i:Int))=uw p n l v i:=by
 unfold fc uw cF ax dM
 simp only[Int.toNat_natCast]
theorem KT {p:az} {n:aw} {l l':List (List Int)} (hr:∀v i,cD l v i->ax l' v i=ax l v i\/ax l' v i<0) (hn:aW n=true) (hs:eG n l) {v i:Nat} (hi:cD l v i) (h:uw p n l v i=true):uw p n l' v i=true:=by
 unfold uw at h ⊢
 rcases hr v i hi with e | e
 ·rcases hr _ _ (pA hn hs hi).1 with e2 | e2
  ·rw[e,e2];exact h
  ·rw[decide_eq_true e2];simp
 ·rw[decide_eq_true e];rfl
theorem mv {p:az} {n:aw} {l:List (List Int)}:dS p n.ends l=true↔∀v,v<l.length->dL p (l.getD v [])=true/\∀i,cD l v i->uw p n l v i=true:=by
 unfold dS g_
 rw[List.all_eq_true];simp only[Bool.and_eq_true,List.all_eq_true,List.mem_range,CM];rfl
theorem tQ {p:az} {n:aw} {l l':List (List Int)} (hp:dF p=true) (hn:aW n=true) (hs:eG n l) (eJ:dB l l') (hr:∀v i,cD l v i->ax l' v i=ax l v i\/ax l' v i<0) (h:dS p n.ends l=true):dS p n.ends l'=true:=by
 rw[mv]at h ⊢;intro v hv
 obtain⟨h1,h2⟩:=h v (by rw[eJ.1];exact hv)
 refine⟨EQ hp (eJ.2 v).symm (fun i hi=>hr v i hi) h1,fun i hi=>?_⟩
 have rc:cD l v i:=hi.same eJ.symm;exact KT hr hn hs rc (h2 i rc)
theorem ES {p:az} {n:aw} {l l':List (List Int)} {v i:Nat} (hn:aW n=true) (hs:eG n l) (eJ:dB l l') (he:∀u j,¬(u=v/\j=i)->ax l' u j=ax l u j)
  (h:dS p n.ends l=true) (aD:dL p (l'.getD v [])=true) (CN:uw p n l' v i=true) (hi:cD l v i):dS p n.ends l'=true:=by
 rw[mv]at h ⊢;intro u hu
 obtain⟨h1,h2⟩:=h u (by rw[eJ.1];exact hu)
 refine⟨?_,fun j hj=>?_⟩
 ·by_cases e:u=v
  ·rw[e];exact aD
  ·have:l'.getD u []=l.getD u []:=by
    refine List.ext_getElem? fun j=>?_
    by_cases hj:j<(l.getD u []).length
    ·have h3:=he u j (fun h=>e h.1)
     unfold ax at h3
     have mc:j<(l'.getD u []).length:=by rw[<- eJ.2 u];exact hj
     rw[zDd (l:=l'.getD u []),zDd (l:=l.getD u []),List.getElem?_eq_getElem hj,List.getElem?_eq_getElem mc]at h3
     rw[List.getElem?_eq_getElem hj,List.getElem?_eq_getElem mc];exact congrArg some h3
    ·rw[List.getElem?_eq_none (by rw[<- eJ.2 u];omega),List.getElem?_eq_none (by omega)]
   rw[this];exact h1
 ·have mc:cD l u j:=hj.same eJ.symm;obtain⟨m1,m2,-⟩:=pA hn hs mc
  by_cases e:u=v/\j=i
  ·rw[e.1,e.2];exact CN
  ·by_cases e2:(dM n u j).1=v/\(dM n u j).2=i
   ·have hm:dM n v i=(u,j):=by rw[<- e2.1,<- e2.2];exact m2
    unfold uw at CN ⊢
    rw[hm]at CN;rw[e2.1,e2.2];cases ha:decide (ax l' u j<0)
    ·cases hb:decide (ax l' v i<0)
     ·rw[ha,hb]at CN;simp only[Bool.false_or]at CN ⊢
      rw[wQ];exact CN
     ·rfl
    ·rfl
   ·have h3:=h2 j mc
    unfold uw at h3 ⊢
    rw[he u j e,he _ _ e2];exact h3
def aaN (v:Int) (s:Nat):Nat:=(200000-s)*2+(v+1).toNat
structure acl (n:aw) (l:List Int) (v:Int) (s:Nat) (f:Nat):Prop where
 len:l.length=n.ends.length
 rng:∀x∈l,-1<=x/\x<=2
 lo : -1<=v
 hi:v<=(n.ends.length:Int)
 st:s<=200000
 fu:aaN v s<f
theorem oC (ls:List Int) (v j:Nat) (x:Int) (hj:j<ls.length):(ls.set v x).getD j 0=if v=j then x else ls.getD j 0:=by
 simp only[zDd,List.getElem?_set]
 split
 ·rename_i e;subst e;simp[hj]
 ·rfl
structure St (N:Nat) (most:Int) (ls:List Int) (v:Nat):Prop where
 len:ls.length=N
 lo:∀j,j<v->j<N->0<=ls.getD j 0/\ls.getD j 0<=most
 at_:v<N -> -1<=ls.getD v 0/\ls.getD v 0<=most
 hi:∀j,v<j->j<N->ls.getD j 0 = -1
structure Up (N:Nat) (most:Int) (ls:List Int) (v:Nat):Prop where
 len:ls.length=N
 lo:∀j,j<=v->j<N->0<=ls.getD j 0/\ls.getD j 0<=most
 hi:∀j,v<j->j<N->ls.getD j 0 = -1
theorem St.back {N:Nat} {most:Int} {ls:List Int} {v:Nat} (h:St N most ls v) (h0:¬v=0):St N most (ls.set v (-1)) (v-1) where
 len:=by simp[h.len]
 lo:=fun j hj hn=>by rw[oC _ _ _ _ (by rw[h.len];exact hn),if_neg (by omega)];exact h.lo j (by omega) hn
 at_:=fun hn=>by rw[oC _ _ _ _ (by rw[h.len];exact hn),if_neg (by omega)];have:=h.lo (v-1) (by omega) hn;omega
 hi:=fun j hj hn=>by
  rw[oC _ _ _ _ (by rw[h.len];exact hn)]
  split
  ·rfl
  ·exact h.hi j (by omega) hn
theorem St.up {N:Nat} {most:Int} {ls:List Int} {v:Nat} (h:St N most ls v) (hv:v<N) (hm:¬ls.getD v 0=most):Up N most (ls.set v (ls.getD v 0+1)) v where
 len:=by simp[h.len]
 lo:=fun j hj hn=>by
  rw[oC _ _ _ _ (by rw[h.len];exact hn)]
  have:=h.at_ hv
  split
  ·omega
  ·exact h.lo j (by omega) hn
 hi:=fun j hj hn=>by rw[oC _ _ _ _ (by rw[h.len];exact hn),if_neg (by omega)];exact h.hi j hj hn
theorem Up.stay {N:Nat} {most:Int} {ls:List Int} {v:Nat} (h:Up N most ls v):St N most ls v where
 len:=h.len
 lo:=fun j hj hn=>h.lo j (by omega) hn
 at_:=fun hn=>by have:=h.lo v (Nat.le_refl _) hn;omega
 hi:=h.hi
theorem Up.on {N:Nat} {most:Int} {ls:List Int} {v:Nat} (h:Up N most ls v) (hm:0<=most):St N most ls (v+1) where
 len:=h.len
 lo:=fun j hj hn=>h.lo j (by omega) hn
 at_:=fun hn=>by have:=h.hi (v+1) (by omega) hn;omega
 hi:=fun j hj hn=>h.hi j (by omega) hn
section
variable {W W' : World} {B : Nat} {ve vi vn vl : Value} {s m most lim st : Int}
end
section
variable {W W' : World} {B : Nat} {ve vi vn va vl : Value}
end
def Xa (n:aw) (p:Nat) (w:Nat):Bool:=decide (s8 n w=p)&&decide (n.ac1.getD w 0=1)
def Sx (n:aw) (p k:Nat):List Nat:=(List.range k).filter (Xa n p)
def Sy (n:aw) (p k:Nat):Nat:=((List.range k).filter fun w=>decide (s8 n w=p)).length
structure Tr (N:Nat) (dep:Nat->Int) (IG:Nat->Option Nat):Prop where
 some_:∀v p,v<N->IG v=some p->p<N/\dep p+1=dep v
 aO:∀v,v<N->0<=dep v
def onW (IG:Nat->Option Nat):Nat->Nat->Nat->Bool
 | 0,w,x=>w==x
 | f+1,w,x=>w==x||(match IG w with | none=>false | some y=>onW IG f y x)
def anc (dep:Nat->Int) (IG:Nat->Option Nat) (w x:Nat):Bool:=onW IG (dep w).toNat w x
def aaO (dep:Nat->Int) (IG:Nat->Option Nat) (D:List Nat) (w x:Nat):Bool:=w==x||D.any (fun c=>(IG c==some x)&&anc dep IG w c)
structure Szs (N:Nat) (dep:Nat->Int) (IG:Nat->Option Nat) (D:List Nat) (s:List Int):Prop where
 len:s.length=N
 val:∀x,x<N->s.getD x 0=((List.range N).countP fun w=>aaO dep IG D w x:Nat)
abbrev OE (st:List Int×List Int) (x:Int):Int:=st.1.getD x.toNat 0
structure BD (n:aw) (v:Nat) (st:List Int×List Int) (i:Nat):Prop where
 zero:OE st (v:Int)=0
 IG:∀x∈st.2,x≠(v:Int)->∃y∈st.2,x∈IE n y/\OE st y+1=OE st x
 sorted:∀j k,j<=k->k<st.2.length->OE st (st.2.getD j 0)<=OE st (st.2.getD k 0)
 span:∀k,k<st.2.length->i<st.2.length->OE st (st.2.getD k 0)<=OE st (st.2.getD i 0)+1
 closed:∀k,k<i->k<st.2.length->∀x∈IE n (st.2.getD k 0),x∈st.2/\OE st x<=OE st (st.2.getD k 0)+1
structure aaP (n:aw) (v:Nat) (D:Nat->Int):Prop where
 zero:D v=0
 IG:∀x:Nat,Qw n v x->x≠v->∃y:Nat,Qw n v y/\(x:Int)∈IE n (y:Int)/\D y+1=D x
 nb:∀a b:Nat,Qw n v a->(b:Int)∈IE n (a:Int)->D b<=D a+1
 aO:∀x:Nat,Qw n v x->0<=D x
theorem getD_set_ne {l:List Int} {v j:Nat} {x:Int} (h:j≠v):(l.set v x).getD j 0=l.getD j 0:=by
 rw[zDd,List.getElem?_set_ne (Ne.symm h),<- zDd]
structure acm (n:aw) (l:List Int) (v:Nat):Prop where
 st:St n.ends.length 2 l v
 adT:∀a,a<v->a<n.ends.length->∀e∈n.ends.getD a [],e.1.toNat<v->l.getD e.1.toNat 0≠l.getD a 0
structure Vk (l0:List (List Int)) (ps:List (Int×Int)):Prop where
 inj:∀(j k:Nat) (e:Int×Int),ps[j]?=some e->ps[k]?=some e->j=k
 in_:∀(k:Nat) (e:Int×Int),ps[k]?=some e->∃v i:Nat,e=((v:Int),(i:Int))/\cD l0 v i/\ax l0 v i<0
 all:∀v i:Nat,cD l0 v i->ax l0 v i<0->∃k:Nat,ps[k]?=some ((v:Int),(i:Int))
theorem zo {l:List (List Int)} {e:Int×Int}:e∈fB l↔∃v i:Nat,e=((v:Int),(i:Int))/\cD l v i/\ax l v i<0:=by
 unfold fB gQ yW
 simp only[List.mem_flatMap,List.mem_map,List.mem_filter,List.mem_range,decide_eq_true_eq];constructor
 ·rintro⟨v,hv,i,⟨hi,h⟩,rfl⟩;exact⟨v,i,rfl,hi,h⟩
 ·rintro⟨v,i,rfl,hi,h⟩;exact⟨v,cD.lt hi,i,⟨hi,h⟩,rfl⟩
theorem CO (l:List (List Int)):(fB l).Nodup:=by
 unfold fB gQ yW
 show List.Pairwise _ _
 rw[List.pairwise_flatMap];refine⟨fun v _=>?_,?_⟩
 ·rw[List.pairwise_map];refine((List.nodup_range (n:=(l.getD v []).length)).filter _).imp fun {a b} qe h=>qe ?_
  have:=congrArg Prod.snd h
  simp at this
  omega
 ·refine(List.nodup_range (n:=l.length)).imp fun {a b} qe x hx y hy h=>qe ?_
  obtain⟨i,-,rfl⟩:=List.mem_map.1 hx;obtain⟨j,-,rfl⟩:=List.mem_map.1 hy
  have:=congrArg Prod.fst h
  simp at this
  omega
theorem kG (l:List (List Int)):Vk l (fB l):=by
 refine⟨fun j k e hj hk=>?_,fun k e hk=>zo.1 (List.mem_of_getElem? hk),fun v i h1 h2=>?_⟩
 ·have h:=List.pairwise_iff_getElem.1 (CO l);obtain⟨l1,e1⟩:=List.getElem?_eq_some_iff.1 hj;obtain⟨l2,e2⟩:=List.getElem?_eq_some_iff.1 hk;rcases Nat.lt_trichotomy j k with h3 | h3 | h3
  ·exact absurd (e1.trans e2.symm) (h j k l1 l2 h3)
  ·exact h3
  ·exact absurd (e2.trans e1.symm) (h k j l2 l1 h3)
 ·obtain⟨k,hk⟩:=List.getElem?_of_mem (zo.2 ⟨v,i,rfl,h1,h2⟩);exact⟨k,hk⟩
def yq (ps:List (Int×Int)) (l:List (List Int)):List Int:=ps.map (cF l)
theorem Ap (ps:List (Int×Int)) (l:List (List Int)):(yq ps l).length=ps.length:=by unfold yq;rw[List.length_map]
theorem rT {ps:List (Int×Int)} {l:List (List Int)} {k:Nat} {e:Int×Int} (h:ps[k]?=some e):(yq ps l).getD k 0=cF l e:=by
 unfold yq;rw[zDd,List.getElem?_map,h];rfl
theorem Aq {l0 l:List (List Int)} {ps:List (Int×Int)} (hp:Vk l0 ps) (hs:dB l0 l) {k:Nat} {e:Int×Int} (hk:ps[k]?=some e) (x:Int):yq ps (dA l e x)=(yq ps l).set k x:=by
 obtain⟨v,i,rfl,hi,-⟩:=hp.in_ k e hk;refine List.ext_getElem? fun j=>?_
 by_cases hj:j<ps.length
 ·obtain⟨f,hf⟩:=ay ps j hj;obtain⟨u,m,rfl,hm,-⟩:=hp.in_ j f hf;rw[List.getElem?_set];unfold yq;rw[List.getElem?_map,List.getElem?_map,hf];show some (cF _ _)=_
  rw[uX,iZ (hi.same hs)]
  by_cases e:k=j
  ·subst e;rw[hk]at hf
   have:=Option.some.inj hf
   simp at this
   rw[if_pos rfl,if_pos ⟨by omega,by omega⟩,List.length_map,if_pos hj]
  ·rw[if_neg e,if_neg]
   ·show some (ax l u m)=some (cF _ _)
    rw[uX]
   ·rintro⟨rfl,rfl⟩;exact e (hp.inj k j _ hk hf)
 ·rw[List.getElem?_eq_none (by rw[Ap];omega),List.getElem?_eq_none (by rw[List.length_set,Ap];omega)]
def s_ (ps:List (Int×Int)) (l:List (List Int)) (k:Nat):List (List Int):=match ps[k]? with
 | some e=>dA l e (-1)
 | none=>l
structure i8 (p:az) (n:aw) (l0:List (List Int)) (ps:List (Int×Int)) (l:List (List Int)) (k:Nat):Prop where
 shp:dB l0 l
 st:St ps.length (p.labels-1) (yq ps l) k
 off:∀v i,cD l0 v i->0<=ax l0 v i->ax l v i=ax l0 v i
 held:dS p n.ends (s_ ps l k)=true
theorem zp (ps:List (Int×Int)) {l0 l:List (List Int)} (hp:Vk l0 ps) (k:Nat):dB l (s_ ps l k):=by
 unfold s_
 cases h:ps[k]? with
 | none=>exact dB.refl _
 | some e=>
  obtain⟨v,i,rfl,-,-⟩:=hp.in_ k e h;exact f7 _ _ _ _
theorem KU {ps:List (Int×Int)} {l0 l:List (List Int)} (hp:Vk l0 ps) (hs:dB l0 l) (k v i:Nat):ax (s_ ps l k) v i=ax l v i\/ax (s_ ps l k) v i<0:=by
 unfold s_
 cases h:ps[k]? with
 | none=>exact .inl rfl
 | some e=>
  obtain⟨u,j,rfl,hj,-⟩:=hp.in_ k e h;show ax (dA l ((u:Int),(j:Int)) (-1)) v i=_\/_
  rw[iZ (hj.same hs)]
  split
  ·exact .inr (by omega)
  ·exact .inl rfl
section
variable {p : az} {n : aw} {l0 l : List (List Int)} {ps : List (Int × Int)} {k : Nat} {e : Int × Int} (hp : dF p = true) (hn : aW n = true) (bu : eG n l0) (hP : Vk l0 ps)
include hp hn bu hP
theorem Ar (hs:dB l0 l) (h:dS p n.ends l=true) (k:Nat):dS p n.ends (s_ ps l k)=true:=
 tQ hp hn (bu.same hs) (zp ps hP k) (fun v i _=>KU hP hs k v i) h
theorem i8.back (h:i8 p n l0 ps l k) (hk:ps[k]?=some e) (h0:k≠0):i8 p n l0 ps (dA l e (-1)) (k-1):=by
 have hh:=h.held;unfold s_ at hh;rw[hk]at hh;obtain⟨v,i,rfl,hi,hc⟩:=hP.in_ k e hk;have eJ:dB l0 (dA l ((v:Int),(i:Int)) (-1)):=h.shp.trans (f7 _ _ _ _)
 refine⟨eJ,by rw[Aq hP h.shp hk];exact h.st.back h0,fun u j hu h1=>?_,Ar hp hn bu hP eJ hh _⟩
 rw[iZ (hi.same h.shp),if_neg (by rintro⟨rfl,rfl⟩;omega)];exact h.off u j hu h1
theorem i8.stay (h:i8 p n l0 ps l k) (hk:ps[k]?=some e) (hm:cF l e≠p.labels-1):i8 p n l0 ps (dA l e (cF l e+1)) k:=by
 have ss:=al hk;have hh:=h.held;unfold s_ at hh;rw[hk]at hh;rw[<- rT (l:=l) hk]at hm ⊢;obtain⟨x,hx⟩:∃x,(yq ps l).getD k 0+1=x:=⟨_,rfl⟩
 have j8:=(h.st.up ss hm).stay;rw[hx]at j8 ⊢;obtain⟨v,i,rfl,hi,hc⟩:=hP.in_ k e hk;have eJ:dB l0 (dA l ((v:Int),(i:Int)) x):=h.shp.trans (f7 _ _ _ _)
 refine⟨eJ,by rw[Aq hP h.shp hk];exact j8,fun u j hu h1=>?_,?_⟩
 ·rw[iZ (hi.same h.shp),if_neg (by rintro⟨rfl,rfl⟩;omega)];exact h.off u j hu h1
 ·refine tQ hp hn (bu.same (h.shp.trans (f7 l v i (-1)))) ((f7 l v i (-1)).symm.trans ((f7 l v i x).trans (zp ps hP k))) (fun u j hu=>.inl ?_) hh
  unfold s_;rw[hk];show ax (dA (dA l _ x) _ (-1)) u j=_
  rw[iZ (hi.same eJ),iZ (hi.same h.shp),iZ (hi.same h.shp)]
  split <;> rfl
theorem i8.on (h:i8 p n l0 ps l k) (hk:ps[k]?=some e) (hm:cF l e≠p.labels-1) (hg:(dL p ((dA l e (cF l e+1)).getD e.1.toNat [])&&fc p n.ends (dA l e (cF l e+1)) e)=true):i8 p n l0 ps (dA l e (cF l e+1)) (k+1):=by
 have h2:=h.stay hp hn bu hP hk hm;have ss:=al hk;have hh:=h.held;unfold s_ at hh;rw[hk]at hh;rw[<- rT (l:=l) hk]at hm
 have fv:0<=p.labels-1:=by
  unfold dF at hp;rw[Bool.and_eq_true,aL]at hp;omega
 have ey:=(h.st.up ss hm).on fv;rw[<- Aq hP h.shp hk,rT hk]at ey;rw[Bool.and_eq_true]at hg;obtain⟨x,hx⟩:∃x,cF l e+1=x:=⟨_,rfl⟩
 rw[hx]at h2 ey hg ⊢;refine⟨h2.shp,ey,h2.off,Ar hp hn bu hP h2.shp ?_ _⟩;obtain⟨v,i,rfl,hi,hc⟩:=hP.in_ k e hk;refine ES (v:=v) (i:=i) hn (bu.same (h.shp.trans (f7 l v i (-1)))) ((f7 l v i (-1)).symm.trans (f7 l v i x)) (fun u j huj=>?_) hh ?_ ?_ ((hi.same h.shp).same (f7 l v i (-1)))
 ·rw[iZ (hi.same h.shp),iZ (hi.same h.shp),if_neg huj,if_neg huj]
 ·simpa using hg.1
 ·rw[<- CM];exact hg.2
structure ET (p:az) (n:aw) (l0 s:List (List Int)):Prop where
 shp:dB l0 s
 rng:∀v i,cD l0 v i->0<=ax s v i/\ax s v i<=p.labels-1
 off:∀v i,cD l0 v i->0<=ax l0 v i->ax s v i=ax l0 v i
 held:dS p n.ends s=true
omit hp hn bu in
theorem i8.sol (h:i8 p n l0 ps l ps.length) (dH:rK (p.labels-1) l0):ET p n l0 l:=by
 refine⟨h.shp,fun v i hi=>?_,h.off,?_⟩
 ·by_cases hc:0<=ax l0 v i
  ·rw[h.off v i hi hc];refine⟨hc,?_⟩;obtain⟨row,hr⟩:=ay l0 v hi.lt;have rc:=hi;unfold cD at rc;rw[ak hr]at rc;obtain⟨x,hx⟩:=ay row i rc
   have:=dH v row i x hr hx
   unfold ax;rw[ak hr,ak hx];exact this.2
  ·obtain⟨k,hk⟩:=hP.all v i hi (by omega)
   have:=h.st.lo k (al hk) (al hk)
   rw[rT hk,uX]at this;exact this
 ·have hh:=h.held;unfold s_ at hh;rw[List.getElem?_eq_none (Nat.le_refl _)]at hh;exact hh
omit hp hn bu hP in
theorem go_pos (p:az) (ends:List (List (Int×Int))) (ps:List (Int×Int)) (most:Int) (f:Nat) (l:List (List Int)) (st:Int):(ft p ends ps most f l (-1) st).1=0\/ft p ends ps most f l (-1) st=(2,l,-1,st):=by
 cases f with
 | zero=>exact .inl rfl
 | succ f=>right;simp[ft]
theorem go_sound {most:Int}:∀(f:Nat) (l:List (List Int)) (k:Nat) (st:Int),i8 p n l0 ps l k->k<=ps.length->(ft p n.ends ps most f l k st).1=1->i8 p n l0 ps (ft p n.ends ps most f l k st).2.1 ps.length
 | 0,_,_,_,_,_,hr=>by simp[ft]at hr
 | f+1,l,k,st,h,hk,hr=>by
  unfold ft at hr ⊢
  rw[if_neg (by omega)]at hr ⊢
  by_cases h1:k=ps.length
  ·subst h1;rw[if_pos rfl];exact h
  ·rw[if_neg (by omega)]at hr ⊢;obtain⟨e,he⟩:=ay ps k (by omega)
   rw[show(ps.getD (k:Int).toNat (0,0))=e by rw[Int.toNat_natCast];exact ak he]at hr ⊢
   by_cases h2:cF l e=p.labels-1
   ·simp only[h2,if_true]at hr ⊢
    by_cases h0:k=0
    ·subst h0;rw[show((0:Nat):Int)-1 = -1 by rfl]at hr
     rcases go_pos p n.ends ps most f (dA l e (-1)) st with h3 | h3
     ·rw[h3]at hr;cases hr
     ·rw[h3]at hr;cases hr
    ·rw[show(k:Int)-1=((k-1:Nat):Int)by omega]at hr ⊢
     exact go_sound f _ _ _ (h.back hp hn bu hP he h0) (by omega) hr
   ·simp only[if_neg h2]at hr ⊢
    by_cases h3:st=most
    ·rw[if_pos h3]at hr;cases hr
    ·simp only[if_neg h3]at hr ⊢
     cases hg:(dL p ((dA l e (cF l e+1)).getD e.1.toNat [])&&fc p n.ends (dA l e (cF l e+1)) e)
     ·rw[hg,if_neg (by simp)]at hr;rw[if_neg (by simp)];exact go_sound f _ _ _ (h.stay hp hn bu hP he h2) hk hr
     ·rw[hg,if_pos rfl]at hr;rw[if_pos rfl];rw[show(k:Int)+1=((k+1:Nat):Int)by omega]at hr ⊢
      exact go_sound f _ _ _ (h.on hp hn bu hP he h2 hg) (by omega) hr
theorem zq (dH:rK (p.labels-1) l0) (h:dS p n.ends l0=true):i8 p n l0 ps l0 0:=by
 have fv:0<=p.labels-1:=by
  unfold dF at hp;rw[Bool.and_eq_true,aL]at hp;omega
 have fJ:∀k,k<ps.length->(yq ps l0).getD k 0 = -1:=fun k hk=>by
  obtain⟨e,he⟩:=ay ps k hk;obtain⟨v,i,rfl,hi,hc⟩:=hP.in_ k e he;rw[rT he,uX];obtain⟨row,hr⟩:=ay l0 v hi.lt;have rc:=hi;unfold cD at rc;rw[ak hr]at rc;obtain⟨x,hx⟩:=ay row i rc;have h1:=dH v row i x hr hx
  unfold ax at hc ⊢
  rw[ak hr,ak hx]at hc ⊢;omega
 refine⟨dB.refl _,⟨Ap _ _,fun j h=>by omega,fun h=>by rw[fJ 0 h];omega,fun j _ hj=>fJ j hj⟩,fun _ _ _ _=>rfl,Ar hp hn bu hP (dB.refl _) h 0⟩
end
theorem wR {p:az} {n:aw} {l:List (List Int)} {most:Int} (h:aV p n l most=1):oz p n l most=true/\ET p n l (aP p n l most):=by
 unfold aV at h
 split at h
 ·rename_i dJ
  refine⟨dJ,?_⟩;unfold aP;rw[if_pos dJ,if_pos h];unfold oz at dJ;simp only[Bool.and_eq_true]at dJ;obtain⟨⟨⟨h1,h2⟩,h3⟩,h4⟩:=dJ;obtain⟨eJ,dH⟩:=mq h3;have hm:=aL.1 h4
  unfold Nq su at h ⊢
  split at h
  ·rename_i hh
   rw[if_pos hh];have hA:=rv Ah p n.ends (fB l) most (ap most 0 0) (ap most 0 0) () l 0 0 hm.1 (by omega) (by omega) (Nat.le_refl _) (Nat.le_refl _);rw[hA]at h ⊢;simp only[Ah]at h ⊢
   by_cases hr:(ft p n.ends (fB l) most (ap most 0 0) l 0 0).1=1
   ·simp only[hr,if_true]at h ⊢
    exact(go_sound h1 h2 (eG.of eJ) (kG l) _ l 0 0 (zq h1 h2 (eG.of eJ) (kG l) dH hh) (Nat.zero_le _) hr).sol (kG l) dH
   ·simp only[if_neg hr]at h;exact absurd h hr
  ·cases h
 ·cases h
def Gi (p:az) (l:List (List Int)):Bool:=!(l.any fun c => !jL c 0 (p.labels-1))
def gu (p:az) (n:aw) (l:List (List Int)):Bool:=kj n l&&Gi p l
def qO (n:aw) (v i:Nat):Bool:=decide ((v:Int)<((n.ends.getD v []).getD i (0,0)).1)||(decide ((v:Int)=((n.ends.getD v []).getD i (0,0)).1)&&decide ((i:Int)<=((n.ends.getD v []).getD i (0,0)).2))
def tR (p:az) (n:aw) (l:List (List Int)) (v i:Nat):Bool:=!(qO n v i && !edgeB p (ax l v i) (ax l (dM n v i).1 (dM n v i).2))
def CP (p:az) (n:aw) (l:List (List Int)) (v:Nat):Bool:=ER p (l.getD v [])&&(List.range (n.ends.getD v []).length).all (tR p n l v)
def ta (p:az) (n:aw) (l:List (List Int)):Bool:=(List.range l.length).all (CP p n l)
def mZ (p:az) (n:aw) (l:List (List Int)):Bool:=dF p&&aW n&&gu p n l
theorem wU {p:az} {n:aw} {l:List (List Int)} (h:gu p n l=true):eG n l/\∀v i,cD l v i->0<=ax l v i/\ax l v i<=p.labels-1:=by
 unfold gu kj gc Gi at h
 simp only[Bool.and_eq_true,decide_eq_true_eq,List.all_eq_true,List.mem_range,Bool.not_eq_true',List.any_eq_false]at h;obtain⟨⟨h1,h2⟩,h3⟩:=h;refine⟨⟨h1,fun v=>?_⟩,fun v i hi=>?_⟩
 ·by_cases hv:v<l.length
  ·exact h2 v hv
  ·rw[zDd,zDd,List.getElem?_eq_none (by omega),List.getElem?_eq_none (by omega)];rfl
 ·obtain⟨row,hr⟩:=ay l v hi.lt;have rc:=hi;unfold cD at rc;rw[ak hr]at rc;obtain⟨x,hx⟩:=ay row i rc;have h4:jL row 0 (p.labels-1)=true:=by simpa using h3 row (List.mem_of_getElem? hr)
  unfold jL at h4;have h5:=aL.1 (List.all_eq_true.1 h4 x (List.mem_of_getElem? hx));unfold ax;rw[ak hr,ak hx];exact h5
theorem EU {p:az} {n:aw} {l:List (List Int)} (hs:eG n l) (hr:∀v i,cD l v i->0<=ax l v i/\ax l v i<=p.labels-1):gu p n l=true:=by
 unfold gu kj gc Gi
 simp only[Bool.and_eq_true,decide_eq_true_eq,List.all_eq_true,List.mem_range,Bool.not_eq_true',List.any_eq_false];refine⟨⟨hs.1,fun v _=>hs.2 v⟩,fun row hm=>?_⟩
 suffices h:jL row 0 (p.labels-1)=true by simpa using h
 unfold jL;rw[List.all_eq_true];intro x hx;obtain⟨v,hv⟩:=List.getElem?_of_mem hm;obtain⟨i,hi⟩:=List.getElem?_of_mem hx
 have h1:cD l v i:=by unfold cD;rw[ak hv];exact al hi
 have h2:=hr v i h1;unfold ax at h2;rw[ak hv,ak hi]at h2;exact aL.2 h2
theorem wV {p:az} {l:List (List Int)} (hr:∀v i,cD l v i->0<=ax l v i/\ax l v i<=p.labels-1) (v:Nat):∀x∈l.getD v [],0<=x:=by
 intro x hx;obtain⟨i,hi⟩:=List.getElem?_of_mem hx;have h1:cD l v i:=al hi;have h2:=hr v i h1;unfold ax at h2;rw[ak hi]at h2;exact h2.1
theorem IH {p:az} {n:aw} {l:List (List Int)} (hp:dF p=true) (hn:aW n=true) (h:gu p n l=true):ta p n l=dS p n.ends l:=by
 obtain⟨hs,hr⟩:=wU h;rw[Bool.eq_iff_iff,mv]
 unfold ta CP
 simp only[List.all_eq_true,List.mem_range,Bool.and_eq_true]
 have CN:∀v i,cD l v i->uw p n l v i=edgeB p (ax l v i) (ax l (dM n v i).1 (dM n v i).2):=fun v i hi=>by
  have h1:=(hr v i hi).1;have h2:=(hr _ _ (pA hn hs hi).1).1;unfold uw;rw[decide_eq_false (by omega),decide_eq_false (by omega)];rfl
 constructor
 ·intro ha v hv;obtain⟨h1,-⟩:=ha v hv
  refine⟨by rw[s9 hp (wV hr v)];exact h1,fun i hi=>?_⟩
  rw[CN v i hi];obtain⟨m1,m2,m3⟩:=pA hn hs hi;obtain⟨k1,k2,k3⟩:=pA hn hs m1
  have ts:∀u j,cD l u j->qO n u j=true->edgeB p (ax l u j) (ax l (dM n u j).1 (dM n u j).2)=true:=fun u j hj hf=>by
   have h3:=(ha u hj.lt).2 j (by have:=hj;unfold cD at this;rw[hs.2 u]at this;exact this)
   unfold tR at h3;rw[hf]at h3;simpa using h3
  by_cases hf:qO n v i=true
  ·exact ts v i hi hf
  ·have Bu:qO n (dM n v i).1 (dM n v i).2=true:=by
    unfold qO at hf ⊢
    rw[m3]at hf;rw[k3,m2];simp only[Bool.or_eq_true,Bool.and_eq_true,decide_eq_true_eq,not_or,not_and]at hf ⊢
    omega
   have h4:=ts _ _ m1 Bu;rw[m2]at h4;rw[wQ];exact h4
 ·intro ha v hv;obtain⟨h1,h2⟩:=ha v hv
  refine⟨by rw[<- s9 hp (wV hr v)];exact h1,fun i hi=>?_⟩
  have rc:cD l v i:=by unfold cD;rw[hs.2 v];exact hi
  have h3:=h2 i rc;rw[CN v i rc]at h3;unfold tR;rw[h3];simp
theorem CQ {p:az} {n:aw} {l0 s:List (List Int)} (hp:dF p=true) (hn:aW n=true) (bu:eG n l0) (h:ET p n l0 s):mZ p n s=true/\ta p n s=true:=by
 have hf:gu p n s=true:=EU (bu.same h.shp) fun v i hi=>h.rng v i (hi.same h.shp.symm)
 refine⟨?_,by rw[IH hp hn hf];exact h.held⟩
 unfold mZ;rw[hp,hn,hf];rfl
theorem lc (n:aw):eG n (ef n):=eG.of fw
structure GmI (n:aw) (L:List Ed) (m:List Int):Prop where
 len:m.length=n.ends.length
 mat:∀v,v<n.ends.length->m.getD v 0 = -1\/∃i w j:Nat,m.getD v 0=(i:Int)/\oB n v i ((w:Int),(j:Int))/\w≠v/\m.getD w 0=(j:Int)
 max:∀e∈L,e.1≠e.2.2.1->0<=m.getD e.1.toNat 0\/0<=m.getD e.2.2.1.toNat 0
def Sz (n:aw) (v:Nat) (s:List Int):Bool:=(n.ends.getD v []).any fun e=>s.contains e.1
structure GiI (n:aw) (L s:List Int):Prop where
 sub:∀v∈s,0<=v/\v<n.ends.length
 ind:∀v i w j:Nat,oB n v i ((w:Int),(j:Int))->(v:Int)∈s->(w:Int)∉s
 max:∀v:Nat,(v:Int)∈L->(v:Int)∈s\/Sz n v s=true
theorem aR.since {S:List Nat} {w0 W W':World} (h:aa w0 W) (ho:aR S W W') (hs:∀k∈S,w0.heap.size<=k):aa w0 W':=Below.trans h (ho.below _ h.below.size hs)
open Go.Maps (Keyed)
def kI (p:Nat):Lit:=.int .i64 (p:Int)
def lI (z:Int):DataW Unit:=.lit (.int .i64 z)
structure acc (n:aw) (k:Nat) (D:DataW Unit):Prop where
 map:Maps.IsMap D
 val:∀p:Nat,D.atKey (kI p) (lI 0)=lI (Sy n p k:Nat)
 keys:∀kl,Maps.has D kl=true->∃v,v<k/\kl=kI (s8 n v)
 all:∀v,v<k->Maps.has D (kI (s8 n v))=true
open Go.Maps (Keyed)
def slD:Value->Option (DataW Unit×List MemPlace)
 | .slice none n c=>some (.slice [lI 0,lI n,lI c] [],[])
 | .slice (some ⟨b,0,none⟩) n c=>some (.slice [lI (b+1),lI n,lI c] [],[])
 | _=>none
def zD:DataW Unit:=.slice [lI 0,lI (0:Nat),lI (0:Nat)] []
structure acd (n:aw) (w:World) (B k kk:Nat) (D:DataW Unit) (U:Nat->Value):Prop where
 map:Maps.IsMap D
 val:∀p:Nat,slD (U p)=some (D.atKey (kI p) zD,[])
 own:∀p:Nat,Own w B (U p) ((Sx n p k).map Int.ofNat)
 dis:∀(p q j:Nat),p≠q->(U p).ownBlock=some j->(U q).ownBlock≠some j
 keys:∀kl,Maps.has D kl=true->∃v,v<kk/\kl=kI (s8 n v)
 all:∀v,v<kk->Maps.has D (kI (s8 n v))=true
section
variable {ops : Array Oper} {rest : List Oper} {o : Oper} {a : Act} {Q : Exit → Act → World → Prop}
end
section
variable {P : Program} {ops : Array Oper}
theorem bC {S:World->Prop} {ew:Act->World->Prop} {o:Oper} {rest:List Oper} {A:Act} {W:World} {ob:Obj} {v:Value} (hw:Region.wanted o (yielded ops A.tmps)=true) (h:(execOp A.eval o).run P W=.ok (.value v) (W.alloc ob)) (hS:S (W.alloc ob))
  (hr:∀W',W'=W.alloc ob->S W'->bj P ops S ew rest (A.put o.dst v) W'):bj P ops S ew (o::rest) A W:=
 y5 hw h hS (hr _ rfl hS)
end
structure aaQ (n:aw) (K:List (List Bool)) (kf:Nat->Nat->Bool):Prop where
 len:K.length=n.ends.length
 row:∀(v:Nat) (es:List (Int×Int)),n.ends[v]?=some es->∃row,K[v]?=some row/\row.length=es.length/\∀i,i<es.length->row[i]?=some (kf v i)
theorem ld (W:World) (x y:Value) (t:TypeId):(W.alloc (.cells #[x,y] t)).cell? ⟨W.heap.size,0,none⟩=some x/\(W.alloc (.cells #[x,y] t)).cell? ⟨W.heap.size,1,none⟩=some y:=⟨by simp,by simp⟩
theorem jV {w:World} {ops:Array Oper} {rest:List Oper} {o:Oper} {a:Act} {Q:Exit->Act->World->Prop} (iz:o.guard=none) (s x:Operand)
  (ho:o.op=.call { callee:=.builtin .append,args:=#[s,x],argTypes:=#[59,59] }) {base:Nat} {v:Value} {xs:List (Int×Int)} {T:List Nat} (hs:a.eval s=v) (h:eq w base v xs T) (b:Nat) (y:Int×Int)
  (hx:a.eval x=.slice (some ⟨b,0,none⟩) 1 1) (hc:w.cell? ⟨b,0,none⟩=some (.int .i64 y.1)) (dG:w.cell? ⟨b,1,none⟩=some (.int .i64 y.2)) (hl:xs.length+1<=1000000) (pO:base<=w.heap.size)
  (k:∀g cap w',eq w' base (.slice (some ⟨g,0,none⟩) (xs.length+1) cap) (xs++[y]) [g]->w.grownBy w' v.ownBlock->(v.ownBlock=some g\/g=w.heap.size)->wpList Tryz.prog ops Q rest (a.put o.dst (.slice (some ⟨g,0,none⟩) (xs.length+1) cap)) w'):wpList Tryz.prog ops Q (o::rest) a w:=by
 obtain⟨i0,hi,eu,dP,eO⟩:=info_parts ro
 refine wpList_append_lies w iz s x 59 ho base 104 i0 _ 2 16 Tryz.underlying59 hi eu dP eO rfl (by decide) v xs.length (xs.flatMap lj) hs h.1 ⟨b,0,none⟩ 1 1 [.int .i64 y.1,.int .i64 y.2] hx rfl
  (by intro j u hj;match j,hj with | 0,hj=>(simp at hj;subst hj;simpa[Addr.add]using hc) | 1,hj=>(simp at hj;subst hj;simpa[Addr.add]using dG) | j+2,hj=>simp at hj) (by simp[Value.oneCell']) (by omega) (by unfold maxLen;omega) (by omega) pO w.heap.size rfl ?_
 intro g cap w' q1 q2 q3 q4;have hq:w'.ownsRow base 104 2 (.slice (some ⟨g,0,none⟩) (xs.length+1) cap) (xs++[y]).length ((xs++[y]).flatMap lj):=by simpa[lj]using q1
 exact k g cap w' ⟨hq,by simp[Value.ownBlock]⟩ q2 q3
def BA (f:Nat->Nat):Nat->Nat->Nat
 | 0,x=>x
 | k+1,x=>BA f k (f x)
theorem As (f:Nat->Nat):∀(a b x:Nat),BA f (a+b) x=BA f b (BA f a x)
 | 0,b,x=>by simp[BA]
 | a+1,b,x=>by rw[Nat.succ_add];exact As f a b (f x)
def lg (s:Nat):Nat:=s*6364136223846793005+1442695040888963407
theorem Xb (P u v x:Nat):(x*(1+4*P*u)+P*(1+2*v))*(1+4*P*u)+P*(1+2*v)=x*(1+4*(P+P)*(u+2*P*u*u))+(P+P)*(1+2*(v+P*u*(1+2*v))):=by grind
theorem KV:∀k:Nat,∃u v:Nat,∀x,BA lg (2^k) x=x*(1+4*2^k*u)+2^k*(1+2*v)
 | 0=>⟨1591034055961698251,721347520444481703,fun x=>by simp[BA,lg]⟩
 | k+1=>by
  obtain⟨u,v,h⟩:=KV k;refine⟨u+2*2^k*u*u,v+2^k*u*(1+2*v),fun x=>?_⟩
  have e:2^(k+1)=2^k+2^k:=by rw[Nat.pow_succ];omega
  rw[e,As,h,h];exact Xb _ _ _ _
theorem OF (P u v z:Nat):(z*(1+4*P*u)+P*(1+2*v))%(2*P)=(z+P)%(2*P):=by
 have e:z*(1+4*P*u)+P*(1+2*v)=z+P+2*P*(2*z*u+v):=by grind
 rw[e,Nat.add_mul_mod_self_left]
theorem OG (P a b:Nat) (hP:0<P) (h:a%P=b%P):a%(2*P)=b%(2*P)\/(a+P)%(2*P)=b%(2*P):=by
 have e1:a=P*(a/P)+b%P:=by rw[<- h];exact(Nat.div_add_mod a P).symm
 have e2:b=P*(b/P)+b%P:=(Nat.div_add_mod b P).symm;have lt:b%P<P:=Nat.mod_lt _ hP
 generalize b%P=r at *
 generalize a/P=q1 at *
 generalize b/P=q2 at *
 subst e1
 have ts:∀q:Nat,(P*q+r)%(2*P)=P*(q%2)+r:=fun q=>by
  have e3:P*q+r=P*(q%2)+r+2*P*(q/2):=by
   have h9:P*q=P*(2*(q/2)+q%2):=by rw[Nat.div_add_mod]
   rw[h9]
   grind
  rw[e3,Nat.add_mul_mod_self_left];apply Nat.mod_eq_of_lt
  rcases Nat.mod_two_eq_zero_or_one q with h0 | h0 <;> rw[h0] <;> omega
 have e4:P*q1+r+P=P*(q1+1)+r:=by grind
 rw[e2,e4,ts,ts,ts]
 rcases Nat.mod_two_eq_zero_or_one q1 with h0 | h0 <;> rcases Nat.mod_two_eq_zero_or_one q2 with h1 | h1
 ·exact .inl (by rw[h0,h1])
 ·exact .inr (by rw[h1,show(q1+1)%2=1 by omega])
 ·exact .inr (by rw[h1,show(q1+1)%2=0 by omega])
 ·exact .inl (by rw[h0,h1])
theorem CR:∀(k x y:Nat),∃t,t<2^k/\BA lg t x%2^k=y%2^k
 | 0,x,y=>⟨0,by simp,by simp[Nat.mod_one]⟩
 | k+1,x,y=>by
  obtain⟨t,h1,h2⟩:=CR k x y;obtain⟨u,v,h⟩:=KV k
  have e:2^(k+1)=2*2^k:=by rw[Nat.pow_succ];omega
  have hP:0<2^k:=Nat.pow_pos (by omega);have h3:=h (BA lg t x);rw[<- As]at h3;rw[e];rcases OG _ _ _ hP h2 with hc | hc
  ·exact⟨t,by omega,hc⟩
  ·exact⟨t+2^k,by omega,by rw[h3,OF _ _ _ _];exact hc⟩
def byteOf (s:Nat):Nat:=s/1099511627776%256
theorem EV (x b:Nat) (hb:b<256):∃t,t<281474976710656/\byteOf (BA lg t x)=b:=by
 obtain⟨t,h1,h2⟩:=CR 48 x (b*1099511627776);refine⟨t,by simpa using h1,?_⟩
 unfold byteOf
 generalize BA lg t x=z at *
 simp only[Nat.reducePow]at h2;omega
def nx (s b:Nat):Nat:=(s*6364136223846793005+b+1442695040888963407)%18446744073709551616
theorem wW (f:Nat->Nat) (k x:Nat):BA f (k+1) x=BA f k (f x):=rfl
theorem Xc (s:Nat):nx (s%18446744073709551616) 0=lg s%18446744073709551616:=by
 unfold nx lg
 omega
theorem KW:∀(t s:Nat),BA (fun s=>nx s 0) t (s%18446744073709551616)=BA lg t s%18446744073709551616
 | 0,s=>rfl
 | t+1,s=>by
  rw[wW,wW,<- KW t (lg s),Xc]
theorem KX (z:Nat):byteOf (z%18446744073709551616)=byteOf z:=by unfold byteOf;omega
theorem KY (s b:Nat) (hs:s<18446744073709551616) (hb:b<256):∃t,t<281474976710656/\byteOf (BA (fun s=>nx s 0) t s)=b:=by
 obtain⟨t,h1,h2⟩:=EV s b hb
 refine⟨t,h1,?_⟩
 have:=KW t s
 rw[Nat.mod_eq_of_lt hs]at this;rw[this,KX]
 exact h2
end Go.Proofs.YtnioemnkfojmkaaGreat
