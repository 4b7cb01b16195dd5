/- Parts of the proof: walks of functions and plain laws. -/
import Derived.Test.YtnioemnkfojmkaaGreatP0
import Derived.Test.YtnioemnkfojmkaaGreatP25
import Derived.Test.YtnioemnkfojmkaaGreatP12
import Derived.Test.YtnioemnkfojmkaaGreatP10
import Derived.Test.YtnioemnkfojmkaaGreatP11
set_option maxRecDepth 100000
set_option maxHeartbeats 16000000
namespace Go.Proofs.YtnioemnkfojmkaaGreat
open Go Go.RowKit
def Sub (s M:List (List Int)):Prop:=∀v i,cD s v i->e_ (ax M v i) (ax s v i).toNat=true
structure PH (p:az) (n:aw) (s:List (List Int)):Prop where
 shp:eG n s
 rng:∀v i,cD s v i->0<=ax s v i/\ax s v i<=p.labels-1
 held:dS p n.ends s=true
theorem PH.of {p:az} {n:aw} {l s:List (List Int)} (hs:eG n l) (h:ET p n l s):PH p n s:=
 ⟨hs.same h.shp,fun v i hi=>h.rng v i (hi.same h.shp.symm),h.held⟩
theorem MF {p:az} {n:aw} {s M:List (List Int)} (hn:aW n=true) (h:PH p n s) (hM:Sub s M) {v i:Nat} (hi:cD s v i):qY p n M v i (ax s v i)=true:=by
 have hv:v<s.length:=hi.lt;obtain⟨-,h2⟩:=(mv.1 h.held) v hv;have hp:=h2 i hi;obtain⟨m1,m2,m3⟩:=pA hn h.shp hi;have r1:=h.rng v i hi;have r2:=h.rng _ _ m1
 have he:edgeB p (ax s v i) (ax s (dM n v i).1 (dM n v i).2)=true:=by
  unfold uw at hp;simp only[Bool.or_eq_true,decide_eq_true_eq]at hp;rcases hp with h | h | h
  ·omega
  ·omega
  ·exact h
 unfold qY
 split
 ·rename_i he2
  rw[m3]at he2
  have e1:(dM n v i).1=v:=by have:=congrArg Prod.fst he2;simp at this;omega
  have e2:(dM n v i).2=i:=by have:=congrArg Prod.snd he2;simp at this;omega
  rw[e1,e2]at he;exact he
 ·rw[List.any_eq_true];refine⟨(ax s (dM n v i).1 (dM n v i).2).toNat,List.mem_range.2 (by omega),?_⟩;rw[hM _ _ m1,show(((ax s (dM n v i).1 (dM n v i).2).toNat:Nat):Int)=ax s (dM n v i).1 (dM n v i).2 by omega,he]
  rfl
theorem MG {p:az} {row iN:List Int} {i:Nat} {a:Int} {L:Nat} (hl:row.length=iN.length) (hi:iN[i]?=some a) (hb:∀(k:Nat) (x:Int),iN[k]?=some x->0<=x/\x<(L:Int)/\e_ (row.getD k 0) x.toNat=true) (hc:p.nodes.contains (du iN)=true):
  ∀(r:Nat) (xs:List Int),xs.length+r=iN.length->iN.take xs.length=xs->jf p row i a L r xs=true:=by
 intro r
 induction r with
 | zero=>
  intro xs h1 h2
  have:xs=iN:=by rw[<- h2,List.take_of_length_le (by omega)]
  rw[jf,this];exact hc
 | succ r ih=>
  intro xs h1 h2;obtain⟨x,hx⟩:=ay iN xs.length (by omega)
  have MH:iN.take (xs.length+1)=xs++[x]:=by rw[List.take_add_one,h2,hx];rfl
  rw[jf]
  by_cases hk:xs.length=i
  ·rw[if_pos hk]
   have e:x=a:=by rw[hk,hi]at hx;exact(Option.some.inj hx).symm
   rw[e]at MH
   exact ih (xs++[a]) (by simp;omega) (by rw[List.length_append];exact MH)
  ·rw[if_neg hk,List.any_eq_true];obtain⟨b1,b2,b3⟩:=hb _ x hx;refine⟨x.toNat,List.mem_range.2 (by omega),?_⟩
   rw[b3,show((x.toNat:Nat):Int)=x by omega,ih (xs++[x]) (by simp;omega) (by rw[List.length_append];exact MH)]
   rfl
theorem MI {p:az} {n:aw} {s M:List (List Int)} (hp:dF p=true) (h:PH p n s) (hM:Sub s M) (hMs:eG n M) {v i:Nat} (hi:cD s v i) (hd:((n.ends.getD v []).length:Int)=p.degree):supN p M v i (ax s v i)=true:=by
 have hv:v<s.length:=hi.lt;obtain⟨h1,-⟩:=(mv.1 h.held) v hv;obtain⟨iN,fd⟩:=ay s v hv;have I0:iN.length=(n.ends.getD v []).length:=gM h.shp fd
 obtain⟨row,aD⟩:=ay M v (by rw[hMs.1,<- h.shp.1];exact hv)
 have nD:row.length=(n.ends.getD v []).length:=gM hMs aD;have e1:s.getD v []=iN:=ak fd;have e2:M.getD v []=row:=ak aD
 have fJ:∀(k:Nat) (x:Int),iN[k]?=some x->ax s v k=x/\cD s v k:=fun k x hk=>by
  refine⟨by unfold ax;rw[e1,ak hk],by unfold cD;rw[e1];exact al hk⟩
 have hix:iN[i]?=some (ax s v i):=by
  obtain⟨x,hx⟩:=ay iN i (by unfold cD at hi;rw[e1]at hi;exact hi)
  rw[(fJ i x hx).1,hx]
 have hnn:∀x∈iN,0<=x:=fun x hx=>by
  obtain⟨k,hk⟩:=List.getElem?_of_mem hx;obtain⟨c1,c2⟩:=fJ k x hk
  have:=h.rng v k c2
  omega
 have hc:p.nodes.contains (du iN)=true:=by
  rw[e1,s9 hp hnn]at h1;unfold ER at h1;simp only[Bool.or_eq_true]at h1;rcases h1 with h1 | h1
  ·exfalso
   rw[I0,hd]at h1;simp at h1
  ·exact h1
 unfold supN;rw[e2]
 refine MG (by rw[nD,I0]) hix (fun k x hk=>?_) hc _ [] (by simp;omega) rfl
 obtain⟨c1,c2⟩:=fJ k x hk;have r1:=h.rng v k c2;have r2:=hM v k c2;unfold ax at r2;rw[e2,e1,ak hk]at r2;exact⟨by omega,by omega,r2⟩
def Bf (M:List (List Int)):Nat:=(M.map fun r=>(r.map Int.toNat).sum).sum
theorem GY {l:List Nat} {k x y:Nat} (h:l[k]?=some x) (hy:y<x):(l.set k y).sum<l.sum:=by
 induction l generalizing k with
 | nil=>simp at h
 | cons z l ih=>
  cases k with
  | zero=>simp at h;subst h;simp;omega
  | succ k=>simp at h;have:=ih h;simp;omega
theorem MJ {M:List (List Int)} {v i:Nat} {row:List Int} {x y:Int} (hv:M[v]?=some row) (hi:row[i]?=some x) (h0:0<=y) (hy:y<x):Bf (M.set v (row.set i y))<Bf M:=by
 unfold Bf;rw[List.map_set]
 refine GY (x:=(row.map Int.toNat).sum) (by rw[List.getElem?_map,hv];rfl) ?_
 rw[List.map_set]
 exact GY (x:=x.toNat) (by rw[List.getElem?_map,hi];rfl) (by omega)
theorem j5 {M:List (List Int)} {v i:Nat} {row:List Int} {y:Int} (hv:M[v]?=some row) (hi:i<row.length) (u j:Nat):ax (M.set v (row.set i y)) u j=if u=v/\j=i then y else ax M u j:=by
 unfold ax;simp only[zDd,List.getElem?_set]
 by_cases e:v=u
 ·subst e;rw[if_pos rfl,if_pos (al hv)];simp only[Option.getD_some,hv,List.getElem?_set]
  by_cases e2:i=j
  ·subst e2;rw[if_pos rfl,if_pos hi];simp
  ·rw[if_neg e2];have e3:¬j=i:=fun h=>e2 h.symm
   simp[e3]
 ·rw[if_neg e];have e3:¬u=v:=fun h=>e h.symm
  simp[e3]
theorem Jd {s M:List (List Int)} {v i b:Nat} {row:List Int} {x y:Int} (h:Sub s M) (hv:M[v]?=some row) (hi:row[i]?=some x) (hb:∀c,c<8->e_ y c=(e_ x c && !decide (c=b))) (hr:∀u j,cD s u j->(ax s u j).toNat<8) (hn:cD s v i->(ax s v i).toNat≠b):Sub s (M.set v (row.set i y)):=fun u j hj=>by
 rw[j5 hv (al hi)]
 split
 ·rename_i e
  obtain⟨rfl,rfl⟩:=e;rw[hb _ (hr _ _ hj)];have h1:=h _ _ hj
  have e1:ax M u j=x:=by unfold ax;rw[ak hv,ak hi]
  rw[e1]at h1;rw[h1];simpa using hn hj
 ·exact h u j hj
theorem Dw {x:Int} {b:Nat} (hx:0<=x/\x<256) (hb:b<8):∃y:Int,bits BinOp.andNot IntKind.i64 x (IntKind.i64.wrap (2^b))=y/\(0<=y/\y<256)/\(∀c,c<8->e_ y c=(e_ x c && !decide (c=b)))/\(e_ x b=true->y<x):=by
 obtain⟨y,h1,h2⟩:=PE hx hb;rw[Int.one_mul]at h1;exact⟨y,h1,h2⟩
def tm (p:az) (n:aw) (M:List (List Int)) (v i:Nat) (a:Int):Bool:=qY p n M v i a&&(!decide (((n.ends.getD v []).length:Int)=p.degree)||supN p M v i a)
def Dn (p:az) (n:aw) (M:List (List Int)) (lb v i a:Nat):Prop:=∀u j c:Nat,c<lb->cD M u j->(u<v\/u=v/\(j<i\/j=i/\c<a))->e_ (ax M u j) c=true->tm p n M u j (c:Int)=true
theorem Dn.step {p:az} {n:aw} {M:List (List Int)} {lb v i a:Nat} (h:Dn p n M lb v i a) (h':e_ (ax M v i) a=true->tm p n M v i (a:Int)=true):Dn p n M lb v i (a+1):=fun u j c hc hi hl hb=>by
 rcases hl with h1 | ⟨h1,h2 | ⟨h2,h3⟩⟩
 ·exact h u j c hc hi (.inl h1) hb
 ·exact h u j c hc hi (.inr ⟨h1,.inl h2⟩) hb
 ·rcases Nat.lt_or_ge c a with h4 | h4
  ·exact h u j c hc hi (.inr ⟨h1,.inr ⟨h2,h4⟩⟩) hb
  ·obtain rfl:c=a:=by omega
   subst h1 h2;exact h' hb
theorem Dn.port {p:az} {n:aw} {M:List (List Int)} {lb v i:Nat} (h:Dn p n M lb v i lb):Dn p n M lb v (i+1) 0:=fun u j c hc hi hl hb=>by
 refine h u j c hc hi ?_ hb;rcases hl with h1 | ⟨h1,h2 | ⟨h2,h3⟩⟩
 ·exact .inl h1
 ·exact .inr ⟨h1,by omega⟩
 ·omega
theorem Dn.node {p:az} {n:aw} {M:List (List Int)} {lb v i:Nat} (h:Dn p n M lb v i 0) (hl:¬cD M v i):Dn p n M lb (v+1) 0 0:=fun u j c hc hi hx hb=>by
 refine h u j c hc hi ?_ hb;rcases hx with h1 | ⟨h1,h2 | ⟨h2,h3⟩⟩
 ·rcases Nat.lt_or_ge u v with h4 | h4
  ·exact .inl h4
  ·obtain rfl:u=v:=by omega
   right
   unfold cD at hl hi;exact⟨rfl,.inl (by omega)⟩
 ·omega
 ·omega
structure Dx (wS:World) (mb g cm m:Nat) (p:az) (pa pb va vb vc:Value) (M:List (List Int)) (S:List Nat) (W:World):Prop where
 sn:aa wS W
 bx:cC W mb (PF p pa pb va vb vc (.slice (some ⟨g,0,none⟩) m cm))
 ow:bz W wS.heap.size (.slice (some ⟨g,0,none⟩) m cm) M S
 nm:mb∉S
 mS:wS.heap.size<=mb
section
variable {wS W W' : World} {mb g cm m : Nat} {p : az} {pa pb va vb vc : Value} {M : List (List Int)} {S : List Nat}
theorem Dx.ac2 (h:Dx wS mb g cm m p pa pb va vb vc M S W) (hs:aa W W'):Dx wS mb g cm m p pa pb va vb vc M S W':=
 ⟨h.sn.after hs,h.bx.below hs.below h.bx.lt,aI.ac2 h.ow hs.below,h.nm,h.mS⟩
theorem Dx.put (h:Dx wS mb g cm m p pa pb va vb vc M S W) {v i:Nat} {row:List Int} {x:Int} (hv:M[v]?=some row) (hi:row[i]?=some x):
  ∃gr cr,W.cell? ⟨g,v,none⟩=some (.slice (some ⟨gr,0,none⟩) row.length cr)/\W.cell? ⟨gr,i,none⟩=some (.int .i64 x)/\W.frozen? ⟨gr,i,none⟩=false/\∀y,Dx wS mb g cm m p pa pb va vb vc (M.set v (row.set i y)) S (W.setCell ⟨gr,i,none⟩ (.int .i64 y)):=by
 obtain⟨gr,cr,h1,h2,h3,h4,h5,h6⟩:=jZ h.ow hv hi
 exact⟨gr,cr,h1,h2,h3,fun y=>⟨h.sn.setCell (p:=⟨gr,i,none⟩) (aI.range h.ow gr h4).1 _,h.bx.set (fun e=>h.nm (by have e:gr=mb:=e;exact e ▸ h4)),h6 y,h.nm,h.mS⟩⟩
end
theorem FK.put {n:aw} {M:List (List Int)} (h:FK n M) {v i:Nat} {row:List Int} {y:Int} (hv:M[v]?=some row) (hy:0<=y/\y<256):FK n (M.set v (row.set i y)):=by
 refine⟨pJ y h.shp hv,fun u r j x hu hj=>?_⟩
 rw[List.getElem?_set]at hu
 by_cases e:v=u
 ·subst e;rw[if_pos rfl,if_pos (al hv)]at hu;cases hu;rw[List.getElem?_set]at hj
  by_cases e2:i=j
  ·rw[if_pos e2]at hj
   split at hj
   ·cases hj;exact hy
   ·cases hj
  ·rw[if_neg e2]at hj;exact h.rng v row j x hv hj
 ·rw[if_neg e]at hu;exact h.rng u r j x hu hj
def my (p:az) (n:aw) (M:List (List Int)) (lb v i a:Nat) (t:Value) (M':List (List Int)):Prop:=FK n M'/\((∀s,PH p n s->Sub s M->Sub s M')/\∀u j c:Nat,c<8->e_ (ax M' u j) c=true->e_ (ax M u j) c=true)/\((t=.bool false/\M'=M/\Dn p n M lb v i a)\/(t=.bool true/\Bf M'<Bf M))
theorem my.port {p:az} {n:aw} {M M':List (List Int)} {lb v i:Nat} {t:Value} (h:my p n M lb v i lb t M'):my p n M lb v (i+1) 0 t M':=⟨h.1,h.2.1,h.2.2.imp (fun q=>⟨q.1,q.2.1,q.2.2.port⟩) id⟩
theorem my.node {p:az} {n:aw} {M M':List (List Int)} {lb v i:Nat} {t:Value} (h:my p n M lb v i 0 t M') (hl:¬cD M' v i):my p n M lb (v+1) 0 0 t M':=⟨h.1,h.2.1,h.2.2.imp (fun q=>⟨q.1,q.2.1,q.2.2.node (q.2.1 ▸ hl)⟩) id⟩
theorem my.skip {p:az} {n:aw} {M M':List (List Int)} {lb v i a:Nat} {t:Value} (h:my p n M lb v i a t M') (h':e_ (ax M' v i) a=true->tm p n M' v i (a:Int)=true):my p n M lb v i (a+1) t M':=⟨h.1,h.2.1,h.2.2.imp (fun q=>⟨q.1,q.2.1,q.2.2.step (q.2.1 ▸ h')⟩) id⟩
theorem my.cut {p:az} {n:aw} {M M':List (List Int)} {lb v i a:Nat} {t:Value} (h:my p n M lb v i a t M') (hp:dF p=true) (hn:aW n=true) (gX:p.labels<=8) {row:List Int} {x y:Int} (hv:M'[v]?=some row) (hi:row[i]?=some x) (hy:0<=y/\y<256) (hb:∀c,c<8->e_ y c=(e_ x c && !decide (c=a))) (aH:y<x) (me:tm p n M' v i (a:Int)=false):my p n M lb v i (a+1) (.bool true) (M'.set v (row.set i y)):=by
 refine⟨h.1.put hv hy,⟨fun s hs hM=>?_,fun u j c hc xL=>?_⟩,.inr ⟨rfl,?_⟩⟩
 ·have h1:=h.2.1.1 s hs hM
  refine Jd h1 hv hi hb (fun u j hj=>by have:=hs.rng u j hj;omega) fun hj e=>?_
  have ea:ax s v i=(a:Int):=by have:=hs.rng v i hj;omega
  have h2:=MF hn hs h1 hj;rw[ea]at h2;unfold tm at me;rw[h2,Bool.true_and]at me;simp only[Bool.or_eq_false_iff,Bool.not_eq_false',decide_eq_true_eq]at me;have h3:=MI hp hs h1 h.1.shp hj me.1;rw[ea]at h3;rw[h3]at me;cases me.2
 ·rw[j5 hv (al hi)]at xL
  split at xL
  ·rename_i e
   obtain⟨rfl,rfl⟩:=e;rw[hb c hc]at xL
   have e1:ax M' u j=x:=by unfold ax;rw[ak hv,ak hi]
   refine h.2.1.2 u j c hc ?_;rw[e1];simp only[Bool.and_eq_true]at xL;exact xL.1
  ·exact h.2.1.2 u j c hc xL
 ·have h4:=MJ hv hi hy.1 aH;rcases h.2.2 with q | q
  ·rw[<- q.2.1];exact h4
  ·omega
theorem FN (wS:World) (mb g cm:Nat) (p:az) (pa pb va vb vc:Value) (n:aw) (M:List (List Int)) (S:List Nat) (w:World) (hK:Dx wS mb g cm n.ends.length p pa pb va vb vc M S w) (hM:FK n M) (nq:dF p=true) (hn:aW n=true) (hp:di wS pa pb p) (h:aU wS va vb vc n) (ct:dR p.nodes) (zm:p.nodes.length<=1048576) (iI:p.ac3.length<=1048576):
  Calls Tryz.prog 95 #[.pointer (some ⟨mb,0,none⟩)] w fun e w'=>∃(sh:Bool) (M':List (List Int)),e=.returned (.bool sh)/\Dx wS mb g cm n.ends.length p pa pb va vb vc M' S w'/\my p n M p.labels.toNat n.ends.length 0 0 (.bool sh) M':=by
 obtain⟨fv,-⟩:=dE nq;obtain⟨lR,jU⟩:=gD hn;obtain⟨lb,gX⟩:∃z:Nat,p.labels=(z:Int):=⟨p.labels.toNat,by omega⟩
 obtain⟨m,hm⟩:∃z,z=n.ends.length:=⟨_,rfl⟩
 rw[show p.labels.toNat=lb from by omega]
 rw[<- hm]at hK ⊢;have FL:1<=lb/\lb<=8:=by omega
 have Zy:m<=40:=by omega
 have pQ:1<=p.degree/\p.degree<=4:=by
  have h9:=nq;unfold dF at h9;simp only[Bool.and_eq_true,aL]at h9;exact h9.2.1
 have nr:=zh nq;have Hn:=zh hn;have H6:=zh jU;have qp:=zh gX;have Hm:=zh hm;have HP:=zh hp;have HN:=zh h;have jP:=zh ct;have HM:=zh hM;have HK:=zh hK;have abP:=zh pQ;have k7:=(en hK.bx).2.2.2.2.2.2.2;clear nq hn jU fv gX hm lR hp h ct hM hK pQ
 go_enter Tryz.func95,Tryz.ntmps95
 go_upto_region 3 with(fail);clear k7
 go_loopw [3,12] (fun t i wr=>∃(v:Nat) (M':List (List Int)),v<=m/\i=.int .i64 v/\Dx wS mb g cm m p pa pb va vb vc M' S wr/\my p n M lb v 0 0 t M') (fun _ i _=>m-(intOf i).toNat)
 case atStart=>exact⟨0,M,Nat.zero_le _,rfl,HK.out,HM.out,⟨fun s _ h=>h,fun _ _ _ _ h=>h⟩,.inl ⟨rfl,rfl,fun u j c _ _ hl=>by omega⟩⟩
 case round=>
  clear HK;obtain⟨v,M',hv,rfl,hK,hR⟩:=hrel;have HK:=zh hK;have HR:=zh hR;have k7:=(en hK.bx).2.2.2.2.2.2.2;clear hK hR
  by_cases aH:v<m
  ·have m1:IntKind.i64.wrap ((v:Int)+1)=(v:Int)+1:=aE _ (by omega) (by omega)
   obtain⟨es,ca⟩:=ay n.ends v (by rw[<- Hm.out];exact aH)
   obtain⟨q,hq⟩:∃z,z=es.length:=⟨_,rfl⟩
   have hq6:q<=6:=by rw[hq];exact H6.out v es ca
   obtain⟨row,aD⟩:=ay M' v (by rw[HR.out.1.shp.1,<- Hm.out];exact aH)
   have hrq:row.length=q:=by rw[gM HR.out.1.shp aD,ak ca,hq]
   obtain⟨AR,cR,pZ,-,-,sy⟩:=kK HK.out.ow aD;rw[hrq]at pZ;have nO:=zh ca;have Hq:=zh hq;have HqI:Hid (∀M2,FK n M2->(M2.getD v []).length=q):=fun M2 h2=>by rw[h2.shp.2 v,ak ca,hq]
   obtain⟨wo,rfl⟩:∃z,z=wr:=⟨_,rfl⟩
   clear ca hq aD hrq;go_upto_region 6 with(fail);clear pZ k7
   go_loopw [3,23] (fun t i wr=>∃(j:Nat) (M':List (List Int)),j<=q/\i=.int .i64 j/\Dx wS mb g cm m p pa pb va vb vc M' S wr/\my p n M lb v j 0 t M') (fun _ i _=>q-(intOf i).toNat)
   case atStart=>exact⟨0,M',Nat.zero_le _,rfl,HK.out,HR.out⟩
   case round=>
    clear HK HR;obtain⟨j,M',hj,rfl,hK,hR⟩:=hrel;have HK:=zh hK;have HR:=zh hR;have k0:=(en hK.bx).1;rw[qp.out]at k0;clear hK hR
    by_cases eD:j<q
    ·have m2:IntKind.i64.wrap ((j:Int)+1)=(j:Int)+1:=aE _ (by omega) (by omega);obtain⟨wo2,rfl⟩:∃z,z=wr:=⟨_,rfl⟩
     go_upto_region 9 with(fail);clear k0
     go_loopw [3,31] (fun t i wr=>∃(a:Nat) (M':List (List Int)),a<=lb/\i=.int .i64 a/\Dx wS mb g cm m p pa pb va vb vc M' S wr/\my p n M lb v j a t M') (fun _ i _=>lb-(intOf i).toNat)
     case atStart=>exact⟨0,M',Nat.zero_le _,rfl,HK.out,HR.out⟩
     case round=>
      clear HK HR;obtain⟨a,M',ha,rfl,hK,hR⟩:=hrel;have HK:=zh hK;have HR:=zh hR;clear hK hR
      by_cases acW:a<lb
      ·have m3:IntKind.i64.wrap ((a:Int)+1)=(a:Int)+1:=aE _ (by omega) (by omega)
       obtain⟨row,x,aD,nD,hx,sr,Bz⟩:=HR.out.1.at nO.out (show j<es.length by rw[<- Hq.out];exact eD)
       rw[<- Hq.out]at nD;obtain⟨gr,cr,h1,h2,h3,j8⟩:=HK.out.put aD hx;rw[nD]at h1;obtain⟨z,hz,dP,eu,abQ⟩:=sk Bz (show a<8 by omega)
       have uZ:=zh dP;have gh:=zh eu;have ch:=zh aD;have Cn:=zh nD;have Hx:=zh hx;have Hxr:=zh Bz;have ON:=zh j8;have Hcx:=zh sr;obtain⟨-,-,-,-,-,-,-,k7⟩:=en HK.out.bx;obtain⟨wi,rfl⟩:∃z,z=wr:=⟨_,rfl⟩
       have H2:=zh h2;have H3:=zh h3;have H1:=zh h1;clear dP eu aD hx Bz j8 sr nD h3;cases qK:e_ x a
       ·have GD:(z=0)=True:=by rw[gh.out qK];simp
        have NC:(z==0)=true:=by rw[gh.out qK];rfl
        go_wp2;go_roundw
        case rel=>exact⟨a+1,M',by omega,by first | rfl | go_num,HK.out,HR.out.skip (fun hb=>by rw[Hcx.out,qK]at hb;cases hb)⟩
        case measure=>simp[intOf];omega
       ·have GD:(z=0)=False:=by rw[uZ.out qK];simp
        have NC:(z==0)=false:=by rw[uZ.out qK];rfl
        go_upto_region 12 with(fail);clear hz GD NC h1 h2 k7
        have HcE:=zh (show ∀W,aa wi W->Calls Tryz.prog 144 #[.pointer (some ⟨mb,0,none⟩),.int .i64 v,.int .i64 j,.int .i64 a] W fun e w'=>e=.returned (.bool (qY p n M' v j (a:Int)))/\Below W.heap.size W w' from fun W hW=>by
         have hk:=HK.out.ac2 hW
         exact Du mb pa pb va vb vc _ p n M' v j a W hk.bx (HP.out.ac2 hk.sn) (HN.out.ac2 hk.sn.below) hk.ow.read nr.out Hn.out HR.out.1 iI nO.out (by rw[<- Hq.out];exact eD))
        have b7:=ab (en HK.out.bx).2.2.2.2.2.2.2;have b1:=ab (en HK.out.bx).2.1;have bw:=ab H1.out
        by_cases nw:(q:Int)=p.degree
        ·have HcN:=zh (show ∀W,aa wi W->Calls Tryz.prog 145 #[.pointer (some ⟨mb,0,none⟩),.int .i64 v,.int .i64 j,.int .i64 a] W fun e w'=>e=.returned (.bool (supN p M' v j (a:Int)))/\Below W.heap.size W w' from fun W hW=>by
          have hk:=HK.out.ac2 hW
          exact Dv mb pa pb va vb vc _ p n M' v j a W hk.bx (HP.out.ac2 hk.sn) hk.ow.read nr.out HR.out.1 jP.out zm nO.out (by rw[<- Hq.out];exact eD) (by rw[<- Hq.out];exact nw) (by rw[<- Hq.out];have:=abP.out;omega))
         have hdb:((q:Int)==p.degree)=true:=by rw[nw];simp
         have hdp:((q:Int)=p.degree)=True:=by simp[nw]
         have AH:Hid (((n.ends.getD v []).length:Int)=p.degree):=by show _=_;rw[ak nO.out,<- Hq.out];exact nw
         clear nw;refine am 30 (aa wi) (by kernel_rfl) (by kernel_rfl) (by simp) (ag (ad _)) ?_;simp only[zT]
         iterate 4 (refine bF rfl ?_;simp only[zA])
         refine cH ?_ rfl ?_ ?_;rotate_left;(intro W hW;unfold ba;go_simp;(with_reducible refine(HcE.out W hW).mono ?_);rintro e W' ⟨rfl,aG⟩;first | (refine⟨?_,aa.trans hW aG⟩;with_reducible rfl) | (subst aG;refine⟨?_,hW⟩;with_reducible rfl))
         simp only[zA]
         iterate 2 (refine bF rfl ?_;simp only[zA])
         iterate 15 (refine gT rfl rfl ?_;simp only[zA])
         iterate 4 (apply kO rfl rfl;(intro hb bJ;intro W hW;go_simp;with_reducible rfl);simp only[zA])
         refine sD (v:=?_) rfl rfl ?_ ?_;rotate_left;(intro hb bJ;intro W hW;unfold ba;go_simp;(with_reducible refine(HcN.out W hW).mono ?_);rintro e W' ⟨rfl,aG⟩;first | (refine⟨?_,aa.trans hW aG⟩;with_reducible rfl) | (subst aG;refine⟨?_,hW⟩;with_reducible rfl))
         simp only[zA]
         apply kO rfl rfl;(intro hb bJ;intro W hW;go_simp;with_reducible rfl);simp only[zA]
         refine sE rfl rfl rfl ?_;simp only[zA]
         (first | refine cd rfl rfl ?_ | (refine bF rfl ?_));simp only[zA]
         intro W hW;have PI:=zh (HK.out.ac2 hW);clear hW b7 b1 bw
         cases hG:(!qY p n M' v j (a:Int)||true && !supN p M' v j (a:Int))
         ·have UD:tm p n M' v j (a:Int)=true:=by
           unfold tm
           revert hG
           cases qY p n M' v j (a:Int) <;> cases supN p M' v j (a:Int) <;> simp
          go_wp2;go_roundw
          case rel=>exact⟨a+1,M',by omega,by first | rfl | go_num,PI.out,HR.out.skip (fun _=>UD)⟩
          case measure=>simp[intOf];omega
         ·have me:tm p n M' v j (a:Int)=false:=by
           unfold tm;rw[AH.out]
           revert hG
           cases qY p n M' v j (a:Int) <;> cases supN p M' v j (a:Int) <;> simp
          obtain⟨y,hy,Rl,Dd,MK⟩:=Dw Hxr.out (show a<8 by omega)
          obtain⟨VH,VI,a1,a2,-,-⟩:=PI.out.put ch.out Hx.out;rw[Cn.out]at a1;have b7:=ab (en PI.out.bx).2.2.2.2.2.2.2;have b1:=ab a1;have b2:=ab a2;have Z3:=zh Rl;have Fl:=zh Dd;have UE:=zh MK;have m64:min a 64=a:=by omega
          clear a1 a2 Rl Dd MK;go_upto_region 13 with(fail);refine am 14 (aa W) (by kernel_rfl) (by kernel_rfl) (by simp) (ag (ad _)) ?_;simp only[zT]
          iterate 14 (refine bF rfl ?_;simp only[zA])
          intro W2 gm;have GZ:=PI.out.ac2 gm;obtain⟨gr3,cr3,a1,a2,a3,j8⟩:=GZ.put ch.out Hx.out;have vf:=b1 W2 gm;rw[Cn.out,vf]at a1
          injection a1 with a1
          injection a1 with a1 a4 a5
          injection a1 with a1
          injection a1 with a1
          subst a1;have HKf:=zh (j8 y);clear j8 gm b7 b1 b2 vf a4 a5 GZ;go_wp2;go_roundw
          case rel=>exact⟨a+1,_,by omega,by first | rfl | go_num,HKf.out,HR.out.cut nr.out Hn.out (by have:=qp.out;omega) ch.out Hx.out Z3.out Fl.out (UE.out qK) me⟩
          case measure=>simp[intOf];omega
        ·have hdb:((q:Int)==p.degree)=false:=by rw[beq_eq_false_iff_ne];exact nw
         have hdp:((q:Int)=p.degree)=False:=by simp[nw]
         have AH:Hid (¬((n.ends.getD v []).length:Int)=p.degree):=by show ¬_;rw[ak nO.out,<- Hq.out];exact nw
         clear nw;refine am 30 (aa wi) (by kernel_rfl) (by kernel_rfl) (by simp) (ag (ad _)) ?_;simp only[zT]
         iterate 4 (refine bF rfl ?_;simp only[zA])
         refine cH ?_ rfl ?_ ?_;rotate_left;(intro W hW;unfold ba;go_simp;(with_reducible refine(HcE.out W hW).mono ?_);rintro e W' ⟨rfl,aG⟩;first | (refine⟨?_,aa.trans hW aG⟩;with_reducible rfl) | (subst aG;refine⟨?_,hW⟩;with_reducible rfl))
         simp only[zA]
         iterate 2 (refine bF rfl ?_;simp only[zA])
         iterate 15 (refine gT rfl rfl ?_;simp only[zA])
         iterate 4 (apply kO rfl rfl;(intro hb bJ;intro W hW;go_simp;with_reducible rfl);simp only[zA])
         refine sD (v:=?_) rfl rfl ?_ ?_;rotate_left;(intro hb bJ;intro W hW;unfold ba;go_simp;(with_reducible refine((show Calls Tryz.prog 145 #[.pointer (some ⟨mb,0,none⟩),.int .i64 v,.int .i64 j,.int .i64 a] W fun e w'=>e=.returned (.bool (supN p M' v j (a:Int)))/\Below W.heap.size W w' from absurd bJ (by simp))).mono ?_);rintro e W' ⟨rfl,aG⟩;first | (refine⟨?_,aa.trans hW aG⟩;with_reducible rfl) | (subst aG;refine⟨?_,hW⟩;with_reducible rfl))
         simp only[zA]
         apply kO rfl rfl;(intro hb bJ;intro W hW;go_simp;with_reducible rfl);simp only[zA]
         refine sE rfl rfl rfl ?_;simp only[zA]
         (first | refine cd rfl rfl ?_ | (refine bF rfl ?_));simp only[zA]
         intro W hW;have PI:=zh (HK.out.ac2 hW);clear hW b7 b1 bw
         cases hG:(!qY p n M' v j (a:Int)||false && !supN p M' v j (a:Int))
         ·have UD:tm p n M' v j (a:Int)=true:=by
           unfold tm;rw[decide_eq_false AH.out]
           revert hG
           cases qY p n M' v j (a:Int) <;> simp
          go_wp2;go_roundw
          case rel=>exact⟨a+1,M',by omega,by first | rfl | go_num,PI.out,HR.out.skip (fun _=>UD)⟩
          case measure=>simp[intOf];omega
         ·have me:tm p n M' v j (a:Int)=false:=by
           unfold tm
           revert hG
           cases qY p n M' v j (a:Int) <;> simp
          obtain⟨y,hy,Rl,Dd,MK⟩:=Dw Hxr.out (show a<8 by omega)
          obtain⟨VH,VI,a1,a2,-,-⟩:=PI.out.put ch.out Hx.out;rw[Cn.out]at a1;have b7:=ab (en PI.out.bx).2.2.2.2.2.2.2;have b1:=ab a1;have b2:=ab a2;have Z3:=zh Rl;have Fl:=zh Dd;have UE:=zh MK;have m64:min a 64=a:=by omega
          clear a1 a2 Rl Dd MK;go_upto_region 13 with(fail);refine am 14 (aa W) (by kernel_rfl) (by kernel_rfl) (by simp) (ag (ad _)) ?_;simp only[zT]
          iterate 14 (refine bF rfl ?_;simp only[zA])
          intro W2 gm;have GZ:=PI.out.ac2 gm;obtain⟨gr3,cr3,a1,a2,a3,j8⟩:=GZ.put ch.out Hx.out;have vf:=b1 W2 gm;rw[Cn.out,vf]at a1
          injection a1 with a1
          injection a1 with a1 a4 a5
          injection a1 with a1
          injection a1 with a1
          subst a1;have HKf:=zh (j8 y);clear j8 gm b7 b1 b2 vf a4 a5 GZ;go_wp2;go_roundw
          case rel=>exact⟨a+1,_,by omega,by first | rfl | go_num,HKf.out,HR.out.cut nr.out Hn.out (by have:=qp.out;omega) ch.out Hx.out Z3.out Fl.out (UE.out qK) me⟩
          case measure=>simp[intOf];omega
      ·obtain rfl:a=lb:=by omega
       go_wp2;go_roundw
       case rel=>exact⟨j+1,M',by omega,by first | rfl | go_num,HK.out,HR.out.port⟩
       case measure=>simp[intOf];omega
    ·obtain rfl:j=q:=by omega
     go_wp2;go_roundw
     case rel=>exact⟨v+1,M',by omega,by first | rfl | go_num,HK.out,HR.out.node (by unfold cD;rw[HqI.out M' HR.out.1];omega)⟩
     case measure=>simp[intOf];omega
  ·obtain rfl:v=m:=by omega
   clear k7
   have hb:∃sh:Bool,u3=.bool sh:=by
    rcases HR.out.2.2 with q | q
    ·exact⟨false,q.1⟩
    ·exact⟨true,q.1⟩
   obtain⟨sh,rfl⟩:=hb;go_wp2;go_ret;exact⟨sh,M',rfl,HK.out,HR.out⟩
def Ext (l s:List (List Int)):Prop:=∀v i,cD l v i->0<=ax l v i->ax s v i=ax l v i
def Bs (l:List (List Int)) (lb:Nat) (M:List (List Int)) (v i:Nat):Prop:=∀c,c<8->e_ (ax M v i) c=(decide (c<lb)&&(decide (ax l v i<0)||decide (ax l v i=(c:Int))))
theorem ML:∀lb:Fin 9,IntKind.i64.wrap ((2:Int)^lb.1)=((2^lb.1:Nat):Int)/\IntKind.i64.wrap (((2^lb.1:Nat):Int)-1)=((2^lb.1-1:Nat):Int)/\2^lb.1-1<256/\∀c:Fin 8,(2^lb.1-1).testBit c.1=decide (c.1<lb.1):=by decide +kernel
theorem PJ:∀a:Fin 8,IntKind.i64.wrap ((2:Int)^a.1)=((2^a.1:Nat):Int)/\2^a.1<256/\∀c:Fin 8,(2^a.1).testBit c.1=decide (c.1=a.1):=by decide +kernel
theorem Je {lb:Nat} (h:lb<=8):∃pw fu:Int,IntKind.i64.wrap ((2:Int)^lb)=pw/\IntKind.i64.wrap (pw-1)=fu/\(0<=fu/\fu<256)/\∀c,c<8->e_ fu c=decide (c<lb):=by
 obtain⟨h1,h2,h3,h4⟩:=ML ⟨lb,by omega⟩
 refine⟨_,_,h1,h2,⟨Int.natCast_nonneg _,by show((2^lb-1:Nat):Int)<256;simp only at h3;omega⟩,fun c hc=>?_⟩
 exact h4 ⟨c,hc⟩
theorem MM {a:Nat} (h:a<8):∃y:Int,IntKind.i64.wrap ((2:Int)^a)=y/\(0<=y/\y<256)/\∀c,c<8->e_ y c=decide (c=a):=by
 obtain⟨h1,h3,h4⟩:=PJ ⟨a,h⟩
 exact⟨_,h1,⟨Int.natCast_nonneg _,by show((2^a:Nat):Int)<256;simp only at h3;omega⟩,fun c hc=>h4 ⟨c,hc⟩⟩
structure Z4 (p:az) (n:aw) (l M:List (List Int)):Prop where
 ms:FK n M
 sol:∀s,PH p n s->Ext l s->Sub s M
 sub:∀v i c:Nat,c<8->cD M v i->e_ (ax M v i) c=true->c<p.labels.toNat/\(ax l v i<0\/ax l v i=(c:Int))
 fix:Dn p n M p.labels.toNat n.ends.length 0 0
def MN (W:World) (p:Addr):Nat:=match W.cell? p with | some (.int _ x)=>x.toNat | _=>0
def Bg (W:World) (u:Option Value):Nat:=match u with | some (.slice (some ⟨gr,0,none⟩) q _)=>((List.range q).map fun i=>MN W ⟨gr,i,none⟩).sum | _=>0
def sl (W:World) (g m:Nat):Nat:=((List.range m).map fun k=>Bg W (W.cell? ⟨g,k,none⟩)).sum
theorem xM {α:Type} (l:List α) (d:α):(List.range l.length).map (fun k=>l.getD k d)=l:=by
 refine List.ext_getElem? fun k=>?_
 rw[List.getElem?_map]
 by_cases h:k<l.length
 ·rw[List.getElem?_range h,List.getElem?_eq_getElem h];simp[zDd,h]
 ·rw[List.getElem?_eq_none (by simpa using h),List.getElem?_eq_none (by omega)];rfl
theorem MO {W:World} {B g m c k:Nat} {M:List (List Int)} {S:List Nat} {row:List Int} (h:bz W B (.slice (some ⟨g,0,none⟩) m c) M S) (hk:M[k]?=some row):Bg W (W.cell? ⟨g,k,none⟩)=(row.map Int.toNat).sum:=by
 cases row with
 | nil=>
  obtain⟨A,cr,h1,-⟩:=kK h hk;rw[h1];unfold Bg
  split
  ·rename_i e
   cases e;rfl
  ·rfl
 | cons x0 tl=>
  obtain⟨gr,cr,h1,-⟩:=jZ h hk (show(x0::tl)[0]?=some x0 from rfl);rw[h1];unfold Bg;simp only
  congr 1
  rw[<- xM (x0::tl) 0,List.map_map];simp only[List.length_map,List.length_range];refine List.map_congr_left fun i hi=>?_
  have rc:=List.mem_range.1 hi;obtain⟨y,hy⟩:=ay (x0::tl) i (by simpa using rc);obtain⟨VH,VI,a1,a2,-⟩:=jZ h hk hy;rw[h1]at a1;cases a1
  show MN W ⟨gr,i,none⟩=((x0::tl).getD i 0).toNat
  unfold MN;rw[a2,ak hy]
theorem Dy {W:World} {B g m c:Nat} {M:List (List Int)} {S:List Nat} (h:bz W B (.slice (some ⟨g,0,none⟩) m c) M S) (hm:M.length=m):sl W g m=Bf M:=by
 unfold sl Bf
 congr 1
 rw[<- hm]
 conv=>rhs;rw[<- xM M []]
 rw[List.map_map];refine List.map_congr_left fun k hk=>?_
 obtain⟨row,aD⟩:=ay M k (List.mem_range.1 hk);rw[MO h aD];show _=(((M.getD k []).map Int.toNat).sum)
 rw[ak aD]
def Pg (l:List (List Int)) (lb v i:Nat) (M:List (List Int)):Prop:=∀u j,cD l u j->(u<v\/u=v/\j<i)->Bs l lb M u j/\(0<=ax M u j/\ax M u j<256)
theorem Pg.put {l M:List (List Int)} {lb v i:Nat} (h:Pg l lb v i M) {row:List Int} {y:Int} (hv:M[v]?=some row) (hi:i<row.length) (hb:∀c,c<8->e_ y c=(decide (c<lb)&&(decide (ax l v i<0)||decide (ax l v i=(c:Int))))) (hy:0<=y/\y<256):Pg l lb v (i+1) (M.set v (row.set i y)):=fun u j hj hl=>by
 by_cases e:u=v/\j=i
 ·refine⟨fun c hc=>?_,?_⟩
  ·rw[j5 hv hi,if_pos e,e.1,e.2];exact hb c hc
  ·rw[j5 hv hi,if_pos e];exact hy
 ·obtain⟨h1,h2⟩:=h u j hj (by omega);refine⟨fun c hc=>?_,?_⟩
  ·rw[j5 hv hi,if_neg e];exact h1 c hc
  ·rw[j5 hv hi,if_neg e];exact h2
theorem Pg.pre {l M:List (List Int)} {lb v i:Nat} (h:Pg l lb v i M) {row:List Int} {y:Int} (hv:M[v]?=some row) (hi:i<row.length):Pg l lb v i (M.set v (row.set i y)):=fun u j hj hl=>by
 have e:¬(u=v/\j=i):=by omega
 obtain⟨h1,h2⟩:=h u j hj hl;refine⟨fun c hc=>?_,?_⟩
 ·rw[j5 hv hi,if_neg e];exact h1 c hc
 ·rw[j5 hv hi,if_neg e];exact h2
theorem Pg.next {l M:List (List Int)} {lb v i:Nat} (h:Pg l lb v i M) (hl:¬cD l v i):Pg l lb (v+1) 0 M:=fun u j hj hx=>by
 refine h u j hj ?_;rcases Nat.lt_or_ge u v with h1 | h1
 ·exact .inl h1
 ·obtain rfl:u=v:=by omega
  unfold cD at hl hj;exact .inr ⟨rfl,by omega⟩
theorem Pg.mks {n:aw} {l M:List (List Int)} {lb:Nat} (h:Pg l lb n.ends.length 0 M) (hl:eG n l) (hM:eG n M):FK n M:=by
 refine⟨hM,fun v row i x hv hi=>?_⟩
 have e1:ax M v i=x:=by unfold ax;rw[ak hv,ak hi]
 have lW:v<n.ends.length:=by have:=al hv;rwa [hM.1]at this
 have dH:cD l v i:=by
  unfold cD;rw[hl.2 v,<- hM.2 v,ak hv];exact al hi
 have:=(h v i dH (.inl lW)).2
 rwa [e1]at this
theorem Pg.sub {p:az} {n:aw} {l M s:List (List Int)} {lb:Nat} (gX:p.labels=(lb:Int)) (uz:lb<=8) (h:Pg l lb n.ends.length 0 M) (hl:eG n l) (hs:PH p n s) (he:Ext l s):Sub s M:=fun v i hi=>by
 have wg:cD l v i:=by unfold cD at hi ⊢;rw[hl.2 v,<- hs.shp.2 v];exact hi
 have lW:v<n.ends.length:=by have:=hi.lt;rwa [hs.shp.1]at this
 have hr:=hs.rng v i hi;have hb:=(h v i wg (.inl lW)).1 (ax s v i).toNat (by omega);rw[hb];simp only[Bool.and_eq_true,Bool.or_eq_true,decide_eq_true_eq];refine⟨by omega,?_⟩
 by_cases h0:ax l v i<0
 ·exact .inl h0
 ·right
  have:=he v i wg (by omega)
  omega
def Kp (p:az) (n:aw) (l M:List (List Int)) (lb:Nat):Prop:=FK n M/\(∀s,PH p n s->Ext l s->Sub s M)/\∀v i c:Nat,c<8->cD M v i->e_ (ax M v i) c=true->c<lb/\(ax l v i<0\/ax l v i=(c:Int))
theorem xN {n:aw} {l M:List (List Int)} (hl:eG n l) (hM:eG n M) {v i:Nat} (h:cD M v i):cD l v i:=by
 unfold cD at h ⊢
 rw[hl.2 v,<- hM.2 v];exact h
theorem Jf {n:aw} {M:List (List Int)} (hM:eG n M) {v i:Nat} (h:cD M v i):v<n.ends.length:=by
 have:=h.lt
 rwa [hM.1]at this
theorem Kp.start {p:az} {n:aw} {l M:List (List Int)} {lb:Nat} (gX:p.labels=(lb:Int)) (uz:lb<=8) (h:Pg l lb n.ends.length 0 M) (hl:eG n l) (hM:eG n M):Kp p n l M lb:=by
 refine⟨h.mks hl hM,fun s hs he=>h.sub gX uz hl hs he,fun v i c hc hi hb=>?_⟩
 have wg:=xN hl hM hi;have h1:=(h v i wg (.inl (Jf hM hi))).1 c hc;rw[hb]at h1;have h2:=h1.symm;simp only[Bool.and_eq_true,Bool.or_eq_true,decide_eq_true_eq]at h2;exact h2
theorem Kp.shr {p:az} {n:aw} {l M M':List (List Int)} {lb:Nat} {t:Value} (h:Kp p n l M lb) (hs:my p n M lb n.ends.length 0 0 t M'):Kp p n l M' lb:=⟨hs.1,fun s h1 h2=>hs.2.1.1 s h1 (h.2.1 s h1 h2),fun v i c hc hi hb=>h.2.2 v i c hc (xN h.1.shp hs.1.shp hi) (hs.2.1.2 v i c hc hb)⟩
theorem Kp.done {p:az} {n:aw} {l M M':List (List Int)} {lb:Nat} (gX:p.labels=(lb:Int)) (h:Kp p n l M lb) (hs:my p n M lb n.ends.length 0 0 (.bool false) M'):M'=M/\Z4 p n l M:=by
 rcases hs.2.2 with⟨-,h1,h2⟩ | ⟨h1,-⟩
 ·refine⟨h1,h.1,h.2.1,fun v i c hc hi hb=>?_,?_⟩
  ·rw[show p.labels.toNat=lb from by omega];exact h.2.2 v i c hc hi hb
  ·rw[show p.labels.toNat=lb from by omega];exact h2
 ·cases h1
theorem Kp.less {p:az} {n:aw} {M M':List (List Int)} {lb:Nat} (hs:my p n M lb n.ends.length 0 0 (.bool true) M'):Bf M'<Bf M:=by
 rcases hs.2.2 with⟨h1,-⟩ | ⟨-,h1⟩
 ·cases h1
 ·exact h1
theorem PK {M:List (List Int)} {v:Nat} {row:List Int} (hv:M[v]?=some row) (h:pN row 0=true):∃v i,cD M v i/\ax M v i=0:=by
 unfold pN at h;rw[List.contains_iff_mem]at h;obtain⟨i,hi⟩:=List.mem_iff_getElem?.1 h;refine⟨v,i,?_,?_⟩
 ·unfold cD;rw[ak hv];exact al hi
 ·unfold ax;rw[ak hv,ak hi]
theorem MP (wS:World) (mb g cm m lb:Nat) (p:az) (pa pb va vb vc:Value) (n:aw) (M:List (List Int)) (S:List Nat) (w:World) (hm:m=n.ends.length) (gX:p.labels=(lb:Int)) (hK:Dx wS mb g cm m p pa pb va vb vc M S w) (hM:FK n M) (nq:dF p=true) (hn:aW n=true) (hp:di wS pa pb p) (h:aU wS va vb vc n) (ct:dR p.nodes) (zm:p.nodes.length<=1048576) (iI:p.ac3.length<=1048576):
  Calls Tryz.prog 95 #[.pointer (some ⟨mb,0,none⟩)] w fun e w'=>∃(sh:Bool) (M':List (List Int)),e=.returned (.bool sh)/\Dx wS mb g cm m p pa pb va vb vc M' S w'/\my p n M lb n.ends.length 0 0 (.bool sh) M':=by
 subst hm;obtain rfl:lb=p.labels.toNat:=by omega
 exact FN wS mb g cm p pa pb va vb vc n M S w hK hM nq hn hp h ct zm iI
theorem yF (pa pb va vb vc vl:Value) (p:az) (n:aw) (l:List (List Int)) (w:World) (hp:di w pa pb p) (h:aU w va vb vc n) (hl:a_ w vl l) (nq:dF p=true) (hn:aW n=true) (eJ:eo p n l=true) (ct:dR p.nodes) (zm:p.nodes.length<=1048576) (iI:p.ac3.length<=1048576):
  Calls Tryz.prog 44 #[.agg #[.int .i64 p.labels,.int .i64 p.degree,pa,pb],.agg #[va,vb,vc],vl] w fun e w'=>∃(u:Value) (ok:Bool) (M:List (List Int)) (S:List Nat),e=.returned (.tuple #[u,.bool ok])/\bz w' w.heap.size u (if ok=true then M else []) S/\Z4 p n l M/\(ok=false->∃v i,cD M v i/\ax M v i=0)/\Below w.heap.size w w':=by
 obtain⟨fv,-⟩:=dE nq;obtain⟨lR,jU⟩:=gD hn;obtain⟨Z5,Z6⟩:=mq eJ;have PM:eG n l:=eG.of Z5;obtain⟨w0,ar⟩:∃w0,w0=((w).alloc (.cells #[.int .i64 p.labels,.int .i64 p.degree,pa,pb] 26)).alloc (.cells #[va,vb,vc] 30):=⟨_,rfl⟩
 have bG:Below w.heap.size w w0:=by rw[ar];exact(((Below.refl _ _).alloc (by simp <;> omega) _).alloc (by simp <;> omega) _)
 have H:=zh (h.ac2 bG);obtain⟨h1,h2,h3⟩:=h.ac2 bG;obtain⟨A,c,rfl,f_,hm,hA⟩:=h1;obtain⟨A2,c2,rfl,_,fq,_⟩:=h2;obtain⟨A3,c3,rfl,_,fF,_⟩:=h3;unfold maxLen at hm fq fF;have cZ:=hp.ac2 bG;have HP:=zh cZ;obtain⟨P0,eP,rfl,ji,dX,bZ⟩:=id cZ.1;unfold maxLen at dX;have jj:=zh bZ;clear bZ;obtain⟨P1,eB,rfl,jk,dY,b_⟩:=id cZ.2;unfold maxLen at dY;have jl:=zh b_;clear b_;clear cZ hp
 have gP:∀W,aa w0 W->W.cell? ⟨w.heap.size,0,none⟩=some (.int .i64 p.labels):=ab (by rw[ar];simp)
 have ig:∀W,aa w0 W->W.cell? ⟨w.heap.size,1,none⟩=some (.int .i64 p.degree):=ab (by rw[ar];simp)
 have ii:∀W,aa w0 W->W.cell? ⟨w.heap.size,2,none⟩=some (.slice P0 p.nodes.length eP):=ab (by rw[ar];simp)
 have mL:∀W,aa w0 W->W.cell? ⟨w.heap.size,3,none⟩=some (.slice P1 p.ac3.length eB):=ab (by rw[ar];simp)
 have rJ:∀W,aa w0 W->W.cell? ⟨w.heap.size+1,0,none⟩=some (.slice A n.ends.length c):=ab (by rw[ar];simp)
 have tD:∀W,aa w0 W->W.cell? ⟨w.heap.size+1,1,none⟩=some (.slice A2 n.ids.length c2):=ab (by rw[ar];simp)
 have tE:∀W,aa w0 W->W.cell? ⟨w.heap.size+1,2,none⟩=some (.slice A3 n.ac1.length c3):=ab (by rw[ar];simp)
 have bQ:=zh bG;have cS:=zh ar;have HA:=zh hA;clear hA h;clear bG ar;have HL:=zh (show ∀X,aa w0 X->a_ X vl l from fun X hX=>(hl.ac2 bQ.out).ac2 hX.below)
 have f5:=zh (show di w0 (.slice P0 p.nodes.length eP) (.slice P1 p.ac3.length eB) p from HP.out);have iL:=zh (show aU w0 (.slice A n.ends.length c) (.slice A2 n.ids.length c2) (.slice A3 n.ac1.length c3) n from H.out);obtain⟨AL,cL,rfl,-,yi,-⟩:=HL.out w0 (ad _);unfold maxLen at yi;obtain⟨lb,gX⟩:∃z:Nat,p.labels=(z:Int):=⟨p.labels.toNat,by omega⟩
 obtain⟨m,hm⟩:∃z,z=n.ends.length:=⟨_,rfl⟩
 have t_:l.length=m:=by rw[PM.1,hm]
 have FL:1<=lb/\lb<=8:=by omega
 have Zy:1<=m/\m<=40:=by have:=pm hn;omega
 have nr:=zh nq;have Hn:=zh hn;have H6:=zh (pK PM lR jU);have qp:=zh gX;have Hm:=zh hm;have PN:=zh PM;have kp:=zh Z6;have jP:=zh ct;have yb:=zh t_;rw[t_];have bu:aa w0 w0:=ad _;have UF:=gP;rw[gX]at UF;clear nq hn jU fv hm lR hl ct eJ Z5 PM Z6 gX t_
 go_enter Tryz.func44,Tryz.ntmps44
 go_upto_region 1 with(fail);rw[<- cS.out];refine fh (w0:=w0) 6 [false,false,false,true,true,true] (by kernel_rfl) (by kernel_rfl) (ad _) ?_;simp only[ek,dD,zT]
 iterate 3 (apply ei rfl;(intro W hW;go_simp;with_reducible rfl);simp only[zA])
 intro W hW;refine Or.inl ⟨rfl,?_⟩
 go_simp
 (with_reducible refine(kW _ l W w0.heap.size hW.below.size (by have h9:=HL.out _ hW;rwa [yb.out]at h9) (by rw[yb.out];omega) (fun v row hv=>by have:=H6.out.2 v row hv;omega)).mono ?_)
 rintro e W' ⟨u1,S1,rfl,ij,aX⟩;refine⟨_,rfl,hW.trans aX,?_⟩
 replace hW:=hW.trans aX
 obtain⟨g,cm,rfl⟩:=tj ij (by rw[yb.out];omega)
 have NY:Hid (bz W' w0.heap.size (.slice (some ⟨g,0,none⟩) m cm) l S1):=(by have h9:=ij;rwa [yb.out]at h9)
 rw[yb.out];clear ij aX;obtain⟨w1,rfl⟩:∃z,z=W':=⟨_,rfl⟩
 (try simp only[zA])
 refine gF (v:=?_) rfl ?_ hW ?_;rotate_left;(go_simp;with_reducible rfl)
 simp only[zA]
 refine iF (v:=?_) (ob:=?_) rfl ?_ hW ?_;rotate_left 2
 (go_simp;first | with_reducible rfl | (refine⟨?_,?_⟩ <;> with_reducible rfl))
 intro w2 EK KN
 replace hW:=KN
 clear KN;skip
 (try simp only[zA])
 simp only[bj];obtain⟨mb,qm⟩:∃z,z=w1.heap.size:=⟨_,rfl⟩
 have nE:aa w1 w2:=by rw[EK];exact ae _ (ad _)
 have GZ:Dx w0 mb g cm m p (.slice P0 p.nodes.length eP) (.slice P1 p.ac3.length eB) (.slice A n.ends.length c) (.slice A2 n.ids.length c2) (.slice A3 n.ac1.length c3) l S1 w2:=by
  refine⟨hW,?_,aI.ac2 NY.out nE.below,fun hj=>by have:=(aI.range NY.out _ hj).2;omega,?_⟩
  ·rw[EK,qm];exact cC.new _ _ _
  ·rw[qm];exact Nat.le_trans (Nat.le_refl _) (by
    have h9:=(aI.range NY.out g (by obtain⟨vs,Ss,-,-,-,e,-⟩:=NY.out;rw[e];simp[Value.ownBlock]));omega)
 have IM:=zh GZ;have tT:=zh qm;have Jg:=zh UF;clear qm nE GZ EK bu hW gP ig ii mL rJ tD tE UF;rw[<- tT.out];go_upto_region 3 with(fail)
 go_loopw [22] (fun i wr=>∃(v:Nat) (M:List (List Int)),v<=m/\i=.int .i64 v/\Dx w0 mb g cm m p (.slice P0 p.nodes.length eP) (.slice P1 p.ac3.length eB) (.slice A n.ends.length c) (.slice A2 n.ids.length c2) (.slice A3 n.ac1.length c3) M S1 wr/\eG n M/\Pg l lb v 0 M) (fun i _=>m-(intOf i).toNat)
 case atStart=>exact⟨0,l,Nat.zero_le _,rfl,IM.out,PN.out,fun u j _ hx=>by omega⟩
 case round=>
  clear IM;obtain⟨v,M,hv,rfl,hK,Z7,Z8⟩:=hrel;have HK:=zh hK;have PO:=zh Z7;have PP:=zh Z8;clear hK Z7 Z8
  by_cases aH:v<m
  ·have m1:IntKind.i64.wrap ((v:Int)+1)=(v:Int)+1:=aE _ (by omega) (by omega)
   obtain⟨FO,Dz⟩:=ay l v (by rw[yb.out];exact aH)
   obtain⟨q,hq⟩:∃z,z=FO.length:=⟨_,rfl⟩
   have hq6:q<=6:=by rw[hq];exact H6.out.2 v FO Dz
   have hlI:=HL.out w0 (ad _);obtain⟨AL',cL',eL,-,-,sc⟩:=id hlI;rw[yb.out]at eL;cases eL;obtain⟨bL,oL,uL,Q8,JF,Z9⟩:=sc v FO Dz;subst Q8;obtain⟨AR,cR,rfl,-,sy,jy⟩:=Z9;rw[<- hq]at JF;have HcL:=zh (ab JF);have KE:=zh jy;have abR:=HcL.out wr HK.out.sn;have Hq:=zh hq;have MQ:=zh Dz
   have HqM:Hid (∀M2,eG n M2->∃row,M2[v]?=some row/\row.length=q):=fun M2 h2=>by
    obtain⟨row,aD⟩:=ay M2 v (by rw[h2.1,<- Hm.out];exact aH)
    exact⟨row,aD,by rw[gM h2 aD,hq,gM PN.out Dz]⟩
   unfold maxLen at sy;obtain⟨wo,rfl⟩:∃z,z=wr:=⟨_,rfl⟩
   clear hlI sc jy hq Dz JF;go_upto_region 6 with(fail);clear abR
   go_loopw [30] (fun i wr=>∃(j:Nat) (M:List (List Int)),j<=q/\i=.int .i64 j/\Dx w0 mb g cm m p (.slice P0 p.nodes.length eP) (.slice P1 p.ac3.length eB) (.slice A n.ends.length c) (.slice A2 n.ids.length c2) (.slice A3 n.ac1.length c3) M S1 wr/\eG n M/\Pg l lb v j M) (fun i _=>q-(intOf i).toNat)
   case atStart=>exact⟨0,M,Nat.zero_le _,rfl,HK.out,PO.out,PP.out⟩
   case round=>
    clear HK PO PP;obtain⟨j,M,hj,rfl,hK,Z7,Z8⟩:=hrel;have HK:=zh hK;have PO:=zh Z7;have PP:=zh Z8;clear hK Z7 Z8
    by_cases eD:j<q
    ·have m2:IntKind.i64.wrap ((j:Int)+1)=(j:Int)+1:=aE _ (by omega) (by omega)
     obtain⟨x,hx⟩:=ay FO j (by rw[<- Hq.out];exact eD)
     have Bz:=kp.out v FO j x MQ.out hx;rw[qp.out]at Bz
     have sr:ax l v j=x:=by unfold ax;rw[ak MQ.out,ak hx]
     obtain⟨bY,oY,e,cY⟩:=KE.out j x hx;subst e;have cY2:=(ab cY) wr HK.out.sn;obtain⟨row,aD,nD⟩:=HqM.out M PO.out;obtain⟨z,hz⟩:=ay row j (by omega);obtain⟨pw,fu,Zk,Vs,ip,I5⟩:=Je FL.2;have abQ:min lb 64=lb:=by omega
     have Hcx:=zh sr;have ch:=zh aD;have Cn:=zh nD;have Hz:=zh hz;have Hfr:=zh ip;have Re:=zh I5;have q0:∀W,aa wr W->W.cell? ⟨w.heap.size,0,none⟩=some (.int .i64 lb):=fun W gm=>Jg.out W (HK.out.sn.after gm)
     obtain⟨wi,rfl⟩:∃z,z=wr:=⟨_,rfl⟩
     clear sr hx cY aD nD hz ip I5;go_upto_region 8 with(fail);clear cY2;have b7:=ab (en HK.out.bx).2.2.2.2.2.2.2;obtain⟨gr1,cr1,a1,-⟩:=HK.out.put ch.out Hz.out;rw[Cn.out]at a1;have b1:=ab a1;clear a1;refine am 13 (aa wi) (by kernel_rfl) (by kernel_rfl) (by simp) (ag (ad _)) ?_;simp only[zT]
     iterate 13 (refine bF rfl ?_;simp only[zA])
     intro WE1 UG;obtain⟨gr3,cr3,a1,a2,a3,j8⟩:=(HK.out.ac2 UG).put ch.out Hz.out;have vf:=b1 WE1 UG;rw[Cn.out,vf]at a1
     injection a1 with a1
     injection a1 with a1 a4 a5
     injection a1 with a1
     injection a1 with a1
     subst a1;have MR:=zh (j8 fu);clear j8 UG b7 b1 vf a4 a5
     have abS:=zh (PP.out.pre (y:=fu) ch.out (by rw[Cn.out];exact eD))
     have Z_:=zh (pJ (i:=j) fu PO.out ch.out)
     have G3:Hid ((M.set v (row.set j fu))[v]?=some (row.set j fu)):=by show _=_;rw[List.getElem?_set_self (al ch.out)]
     have uZ:Hid ((row.set j fu)[j]?=some fu):=by show _=_;rw[List.getElem?_set_self (by rw[Cn.out];exact eD)]
     have UH:Hid ((row.set j fu).length=q):=by show _=_;rw[List.length_set];exact Cn.out
     go_upto_region 9 with(fail);obtain⟨w8,r_⟩:∃z,z=WE1.setCell ⟨gr1,j,none⟩ (.int .i64 fu):=⟨_,rfl⟩
     rw[<- r_];rw[<- r_]at MR;clear r_ a2 a3 Zk Vs q0
     by_cases qz:x<0
     ·have hxd:((0:Int)<=x)=False:=by simp;omega
      go_wp2;go_roundw
      case rel=>exact⟨j+1,_,by omega,by first | rfl | go_num,MR.out,Z_.out,PP.out.put ch.out (by rw[Cn.out];exact eD) (fun c hc=>by rw[Re.out c hc,Hcx.out,decide_eq_true qz];simp) Hfr.out⟩
      case measure=>simp[intOf];omega
     ·have hxd:((0:Int)<=x)=True:=by simp;omega
      obtain⟨an,rfl⟩:∃z:Nat,x=(z:Int):=⟨x.toNat,by omega⟩
      have ha8:an<8:=by omega
      obtain⟨y,hy,Rl,Dd⟩:=MM ha8;have QH:min an 64=an:=by omega
      have Z3:=zh Rl
      have Uh:Hid (∀c,c<8->e_ y c=(decide (c<lb)&&(decide (ax l v j<0)||decide (ax l v j=(c:Int))))):=fun c hc=>by
       rw[Dd c hc,Hcx.out,show decide ((an:Int)<0)=false from by simp,Bool.false_or,Bool.eq_iff_iff]
       simp
       omega
      clear Rl Dd;go_upto_region 10 with(fail);have b7:=ab (en MR.out.bx).2.2.2.2.2.2.2;obtain⟨VH,VI,a1,-⟩:=MR.out.put G3.out uZ.out;rw[UH.out]at a1;have b1:=ab a1;clear a1;refine am 11 (aa w8) (by kernel_rfl) (by kernel_rfl) (by simp) (ag (ad _)) ?_;simp only[zT]
      iterate 11 (refine bF rfl ?_;simp only[zA])
      intro WE2 UI;obtain⟨gr3,cr3,a1,a2,a3,j8⟩:=(MR.out.ac2 UI).put G3.out uZ.out;have vf:=b1 WE2 UI;rw[UH.out,vf]at a1
      injection a1 with a1
      injection a1 with a1 a4 a5
      injection a1 with a1
      injection a1 with a1
      subst a1;have abT:=zh (j8 y);clear j8 UI b7 b1 vf a4 a5;go_wp2;go_roundw
      case rel=>exact⟨j+1,_,by omega,by first | rfl | go_num,abT.out,pJ (i:=j) y Z_.out G3.out,abS.out.put G3.out (by rw[UH.out];exact eD) Uh.out Z3.out⟩
      case measure=>simp[intOf];omega
    ·obtain rfl:j=q:=by omega
     go_wp2;go_roundw
     case rel=>exact⟨v+1,M,by omega,by first | rfl | go_num,HK.out,PO.out,PP.out.next (by unfold cD;rw[ak MQ.out,<- Hq.out];omega)⟩
     case measure=>simp[intOf];omega
  ·obtain rfl:v=m:=by omega
   obtain⟨wl,rfl⟩:∃z,z=wr:=⟨_,rfl⟩
   have yl:Hid (FK n M):=Pg.mks (lb:=lb) (by have h9:=PP.out;rwa [Hm.out]at h9) PN.out PO.out
   have Rm:Hid (Kp p n l M lb):=Kp.start qp.out FL.2 (by have h9:=PP.out;rwa [Hm.out]at h9) PN.out PO.out
   clear PP;go_upto_region 13 with(fail)
   go_loopw [] (fun wr=>∃M',Dx w0 mb g cm v p (.slice P0 p.nodes.length eP) (.slice P1 p.ac3.length eB) (.slice A n.ends.length c) (.slice A2 n.ids.length c2) (.slice A3 n.ac1.length c3) M' S1 wr/\Kp p n l M' lb) (fun wr=>sl wr g v)
   case atStart=>exact⟨M,HK.out,Rm.out⟩
   case round=>
    clear HK Rm yl PO;obtain⟨M1,hK,hKp⟩:=hrel;have HK:=zh hK;have Rm:=zh hKp;clear hK hKp;obtain⟨wi,rfl⟩:∃z,z=wr:=⟨_,rfl⟩
    go_wp2_with fail;refine(MP w0 mb g cm v lb p _ _ _ _ _ n M1 S1 wi Hm.out qp.out HK.out Rm.out.1 nr.out Hn.out f5.out iL.out jP.out zm iI).mono ?_;rintro e W1 ⟨sh,M2,rfl,GZ,pY⟩;cases sh
    ·obtain⟨rfl,hpm⟩:=Rm.out.done qp.out pY;have IM:=zh GZ;have Hpm:=zh hpm;clear GZ pY hpm HK;have b7:=ab (en IM.out.bx).2.2.2.2.2.2.2;obtain⟨wm,rfl⟩:∃z,z=W1:=⟨_,rfl⟩
     go_upto_region 15 with(fail)
     go_loopw [70] (fun i wr=>∃k:Nat,k<=v/\i=.int .i64 k/\aa wm wr) (fun i _=>v-(intOf i).toNat)
     case atStart=>exact⟨0,by omega,rfl,ad _⟩
     case round=>
      obtain⟨k,hk,rfl,hs⟩:=hrel
      by_cases ss:k<v
      ·have m4:IntKind.i64.wrap ((k:Int)+1)=(k:Int)+1:=aE _ (by omega) (by omega)
       obtain⟨row,aD⟩:=ay M2 k (by rw[Hpm.out.ms.shp.1,<- Hm.out];exact ss)
       obtain⟨A',c',e,-,-,sc⟩:=IM.out.ow.read
       injection e with e1 e2 e3
       subst e1;obtain⟨bY,oY,uY,e4,cY,hI⟩:=sc k row aD
       injection e4 with e4
       injection e4 with e4 e5
       subst e4;subst e5;have cY2:=(ab cY) wr hs;rw[Nat.zero_add]at cY2;have HI:=zh (bO.ac2 hI hs.below);have ch:=zh aD;have Hs:=zh hs;obtain⟨wr1,rfl⟩:∃z,z=wr:=⟨_,rfl⟩
       clear sc cY hI aD e2 e3 hs;go_wp2_with fail;refine(yp _ row 0 wr1 HI.out).mono ?_;rintro e Wc ⟨rfl,rfl⟩
       by_cases eu:pN row 0=true
       ·have Hz:=zh (PK ch.out eu);go_wp2
        go_ret2
        exact⟨_,false,M2,[],rfl,jz _ _,Hpm.out,fun _=>Hz.out,(aa.after bQ.out (IM.out.sn.after Hs.out)).below⟩
       ·have dP:pN row 0=false:=by simpa using eu
        go_wp2;go_roundw
        case rel=>exact⟨k+1,by omega,by first | rfl | go_num,Hs.out⟩
        case measure=>simp[intOf];omega
      ·obtain rfl:k=v:=by omega
       have Hs:=zh hs;have b8:=b7 wr hs;clear hs b7;go_wp2
       go_ret2
       exact⟨_,true,M2,S1,rfl,aI.mono (aI.ac2 IM.out.ow Hs.out.below) bQ.out.size,Hpm.out,(fun h=>by cases h),(aa.after bQ.out (IM.out.sn.after Hs.out)).below⟩
    ·have aH:=Kp.less pY;have e1:=Dy HK.out.ow (by rw[Rm.out.1.shp.1,<- Hm.out]);have e2:=Dy GZ.ow (by rw[pY.1.shp.1,<- Hm.out]);have IM:=zh GZ;have abU:=zh (Rm.out.shr pY)
     have Hme:Hid (sl W1 g v<sl wi g v):=by show _<_;rw[e1,e2];exact aH
     clear GZ pY aH e1 e2 HK Rm;go_wp2;go_roundw
     case rel=>exact⟨_,IM.out,abU.out⟩
     case measure=>exact Hme.out
theorem Bh (pa pb va vb vc vl:Value) (p:az) (n:aw) (l:List (List Int)) (w:World) (hp:di w pa pb p) (h:aU w va vb vc n) (hl:a_ w vl l) (nq:dF p=true) (hn:aW n=true) (eJ:eo p n l=true) (zm:p.nodes.length<=1048576) (iI:p.ac3.length<=1048576) (wg:n.ids.length<=1048576):
  Calls Tryz.prog 11 #[.agg #[.int .i64 p.labels,.int .i64 p.degree,pa,pb],.agg #[va,vb,vc],vl] w fun e w'=>∃(u:Value) (ok:Bool) (M:List (List Int)) (S:List Nat),e=.returned (.tuple #[u,.bool ok])/\bz w' w.heap.size u (if ok=true then M else []) S/\Z4 p n l M/\(ok=false->∃v i,cD M v i/\ax M v i=0)/\Below w.heap.size w w':=by
 have aaa:=dE nq
 have ZM:dR p.nodes:=by
  have h9:=nq;unfold dF at h9;simp only[Bool.and_eq_true,aL]at h9;exact n_ h9.2.2.1
 have jP:=zh ZM;have qG:=zh aaa.1;have nr:=zh nq;have Hn:=zh hn;have fU:=zh eJ
 have ID:Hid (n.ids.length<=17592186044416):=by show _<=_;omega
 obtain⟨w0,ar⟩:∃w0,w0=((w).alloc (.cells #[.int .i64 p.labels,.int .i64 p.degree,pa,pb] 26)).alloc (.cells #[va,vb,vc] 30):=⟨_,rfl⟩
 have bG:Below w.heap.size w w0:=by rw[ar];exact(((Below.refl _ _).alloc (by simp <;> omega) _).alloc (by simp <;> omega) _)
 have H:=zh (h.ac2 bG);obtain⟨h1,h2,h3⟩:=h.ac2 bG;obtain⟨A,c,rfl,f_,hm,hA⟩:=h1;obtain⟨A2,c2,rfl,_,fq,_⟩:=h2;obtain⟨A3,c3,rfl,_,fF,_⟩:=h3;unfold maxLen at hm fq fF;have cZ:=hp.ac2 bG;have HP:=zh cZ;obtain⟨P0,eP,rfl,ji,dX,bZ⟩:=id cZ.1;unfold maxLen at dX;have jj:=zh bZ;clear bZ;obtain⟨P1,eB,rfl,jk,dY,b_⟩:=id cZ.2;unfold maxLen at dY;have jl:=zh b_;clear b_;clear cZ hp
 have gP:∀W,aa w0 W->W.cell? ⟨w.heap.size,0,none⟩=some (.int .i64 p.labels):=ab (by rw[ar];simp)
 have ig:∀W,aa w0 W->W.cell? ⟨w.heap.size,1,none⟩=some (.int .i64 p.degree):=ab (by rw[ar];simp)
 have ii:∀W,aa w0 W->W.cell? ⟨w.heap.size,2,none⟩=some (.slice P0 p.nodes.length eP):=ab (by rw[ar];simp)
 have mL:∀W,aa w0 W->W.cell? ⟨w.heap.size,3,none⟩=some (.slice P1 p.ac3.length eB):=ab (by rw[ar];simp)
 have rJ:∀W,aa w0 W->W.cell? ⟨w.heap.size+1,0,none⟩=some (.slice A n.ends.length c):=ab (by rw[ar];simp)
 have tD:∀W,aa w0 W->W.cell? ⟨w.heap.size+1,1,none⟩=some (.slice A2 n.ids.length c2):=ab (by rw[ar];simp)
 have tE:∀W,aa w0 W->W.cell? ⟨w.heap.size+1,2,none⟩=some (.slice A3 n.ac1.length c3):=ab (by rw[ar];simp)
 have bQ:=zh bG;have cS:=zh ar;have HA:=zh hA;clear hA h;clear bG ar;have f5:=zh (show ∀X,aa w0 X->di X (.slice P0 p.nodes.length eP) (.slice P1 p.ac3.length eB) p from fun X hX=>HP.out.ac2 hX)
 have iL:=zh (show ∀X,aa w0 X->aU X (.slice A n.ends.length c) (.slice A2 n.ids.length c2) (.slice A3 n.ac1.length c3) n from fun X hX=>H.out.ac2 hX.below)
 have HL:=zh (show ∀X,aa w0 X->a_ X vl l from fun X hX=>(hl.ac2 bQ.out).ac2 hX.below)
 obtain⟨AL,cL,rfl,-,-,-⟩:=hl;clear aaa ZM
 go_enter Tryz.func11,Tryz.ntmps11
 go_upto_region 1 with(fail);rw[<- cS.out];refine bD 15 (aa w0) (ad _) ?_;simp only[zT]
 refine bF rfl ?_;simp only[zA]
 refine cH ?_ rfl ?_ ?_;rotate_left;(intro W hW;unfold ba;go_simp;(with_reducible refine(hZ _ _ p W (f5.out W hW)).mono ?_);rintro e W' ⟨rfl,aG⟩;first | (refine⟨?_,aa.trans hW aG⟩;with_reducible rfl) | (subst aG;refine⟨?_,hW⟩;with_reducible rfl))
 simp only[zA]
 iterate 2 (refine bF rfl ?_;simp only[zA])
 refine gT rfl rfl ?_;simp only[zA]
 refine bv (v:=?_) rfl rfl ?_ ?_;rotate_left;(intro hb;intro W hW;unfold ba;go_simp;(with_reducible refine(g8 _ _ _ n W (iL.out W hW) ID.out).mono ?_);rintro e W' ⟨rfl,aG⟩;first | (refine⟨?_,aa.trans hW aG⟩;with_reducible rfl) | (subst aG;refine⟨?_,hW⟩;with_reducible rfl))
 simp only[zA]
 refine gT rfl rfl ?_;simp only[zA]
 (first | refine cd rfl rfl ?_ | (refine bF rfl ?_));simp only[zA]
 refine bF rfl ?_;simp only[zA]
 iterate 3 (refine gT rfl rfl ?_;simp only[zA])
 refine bv (v:=?_) rfl rfl ?_ ?_;rotate_left;(intro hb;intro W hW;unfold ba;go_simp;(with_reducible refine(k8 _ _ _ _ _ _ p n l W (f5.out W hW) (iL.out W hW) (HL.out W hW) qG.out).mono ?_);rintro e W' ⟨rfl,aG⟩;first | (refine⟨?_,aa.trans hW aG⟩;with_reducible rfl) | (subst aG;refine⟨?_,hW⟩;with_reducible rfl))
 simp only[zA]
 refine gT rfl rfl ?_;simp only[zA]
 (first | refine cd rfl rfl ?_ | (refine bF rfl ?_));simp only[zA]
 intro W hW
 have hg:(!dF p || !aW n || !eo p n l)=false:=by rw[nq,hn,eJ];rfl
 have HW:=zh hW;clear hW nq hn eJ;have hs:=HW.out;go_wp2_with fail;clear hs;refine(yF _ _ _ _ _ _ p n l _ (f5.out _ HW.out) (iL.out _ HW.out) (HL.out _ HW.out) nr.out Hn.out fU.out jP.out zm iI).mono ?_;rintro e W1 ⟨u,ok,M,S,rfl,hO,hR,hz,hb⟩;have HO:=zh hO;have HR:=zh hR;have Hz:=zh hz;have Hb:=zh hb;clear hO hR hz hb;go_wp2
 go_ret2
 exact⟨u,ok,M,S,rfl,aI.mono HO.out (Nat.le_trans bQ.out.size HW.out.below.size),HR.out,Hz.out,aa.after bQ.out (aa.trans HW.out Hb.out)⟩
theorem DA {p:az} {n:aw} {l s M:List (List Int)} (hl:eG n l) (h:Z4 p n l M) (hs:ET p n l s) (v i:Nat) (hi:cD s v i):e_ (ax M v i) (ax s v i).toNat=true:=
 h.sol s (PH.of hl hs) (fun v i h0 h1=>hs.off v i h0 h1) v i hi
theorem Jh {p:az} {n:aw} {l s M:List (List Int)} (hl:eG n l) (h:Z4 p n l M) (hs:ET p n l s) {v i:Nat} (hi:cD M v i):ax M v i≠0:=fun h0=>by
 have tZ:cD s v i:=(xN hl h.ms.shp hi).same hs.shp
 have:=DA hl h hs v i tZ
 rw[h0]at this;unfold e_ at this;simp at this
theorem MS {p:az} {n:aw} {l:List (List Int)} {most:Int} (h:aV p n l most=1):bn p n l most<=most:=by
 obtain⟨dJ,-⟩:=wR h;unfold bn;rw[if_pos dJ];unfold oz at dJ;simp only[Bool.and_eq_true]at dJ;have hm:=aL.1 dJ.2
 unfold Nq su
 split
 ·have hA:=rv Ah p n.ends (fB l) most (ap most 0 0) (ap most 0 0) () l 0 0 hm.1 (by omega) (by omega) (Nat.le_refl _) (Nat.le_refl _);rw[hA];have h6:=(vI p n.ends (fB l) most (ap most 0 0) l 0 0 hm.1 (by omega) (by omega) (Nat.le_refl _)).1;simp only[Ah]
  split
  ·exact h6
  ·exact h6
 ·exact hm.1
section
variable {p : az} {n : aw} {l0 : List (List Int)} {ps : List (Int × Int)} (hp : dF p = true) (hn : aW n = true) (bu : eG n l0) (hP : Vk l0 ps)
include hp hn bu hP
theorem i8.down {l:List (List Int)} (h:i8 p n l0 ps l ps.length) (h0:ps.length≠0):i8 p n l0 ps l (ps.length-1):=by
 have hh:=h.held;unfold s_ at hh;rw[List.getElem?_eq_none (Nat.le_refl _)]at hh;refine⟨h.shp,⟨h.st.len,fun j hj hl=>h.st.lo j (by omega) hl,fun hl=>?_,fun j hj hl=>?_⟩,h.off,Ar hp hn bu hP h.shp hh _⟩
 ·have:=h.st.lo (ps.length-1) (by omega) hl
  omega
 ·omega
theorem sm {σ:Type} (nx:σ->List (List Int)->Bool×σ) (J:σ->Prop) (hJ:∀s l,J s->i8 p n l0 ps l ps.length->J (nx s l).2) {most:Int}:∀(f:Nat) (s:σ) (l:List (List Int)) (k:Nat) (st:Int),i8 p n l0 ps l k->k<=ps.length->J s->J (bW nx p n.ends ps most f s l k st).1
 | 0,_,_,_,_,_,_,hs=>by simpa[bW]using hs
 | f+1,s,l,k,st,h,hk,hs=>by
  unfold bW;rw[if_neg (by omega)]
  by_cases h1:k=ps.length
  ·subst h1;rw[if_pos rfl];have dZ:=hJ s l hs h
   split
   ·by_cases h0:ps.length=0
    ·cases f with
     | zero=>simpa[bW]using dZ
     | succ f=>
      unfold bW;rw[if_pos (by omega)];exact dZ
    ·rw[show((ps.length:Nat):Int)-1=((ps.length-1:Nat):Int)by omega]
     exact sm nx J hJ f _ _ _ _ (h.down hp hn bu hP h0) (by omega) dZ
   ·exact dZ
  ·rw[if_neg (by omega)];obtain⟨e,he⟩:=ay ps k (by omega)
   rw[show(ps.getD (k:Int).toNat (0,0))=e by rw[Int.toNat_natCast];exact ak he]
   by_cases h2:cF l e=p.labels-1
   ·simp only[h2,if_true]
    by_cases h0:k=0
    ·subst h0
     cases f with
     | zero=>simpa[bW]using hs
     | succ f=>
      unfold bW;rw[if_pos (by omega)];exact hs
    ·rw[show(k:Int)-1=((k-1:Nat):Int)by omega]
     exact sm nx J hJ f _ _ _ _ (h.back hp hn bu hP he h0) (by omega) hs
   ·simp only[if_neg h2]
    by_cases h3:st=most
    ·rw[if_pos h3];exact hs
    ·simp only[if_neg h3];cases hg:(dL p ((dA l e (cF l e+1)).getD e.1.toNat [])&&fc p n.ends (dA l e (cF l e+1)) e)
     ·rw[if_neg (by simp)];exact sm nx J hJ f _ _ _ _ (h.stay hp hn bu hP he h2) hk hs
     ·rw[if_pos rfl];rw[show(k:Int)+1=((k+1:Nat):Int)by omega]
      exact sm nx J hJ f _ _ _ _ (h.on hp hn bu hP he h2 hg) (by omega) hs
end
theorem jg (p:az) (ends:List (List (Int×Int))) (ps:List (Int×Int)) (most k:Int) (hk:k<=50):∀(f:Nat) (s:List (List (List Int))) (l:List (List Int)) (aO st:Int),(s.length:Int)<k ->
  ((bW (k9 k) p ends ps most f s l aO st).2.1=2->(bW oy p ends ps most f (s.length:Int) l aO st).2.1=2/\(bW oy p ends ps most f (s.length:Int) l aO st).1=((bW (k9 k) p ends ps most f s l aO st).1.length:Int))/\((bW (k9 k) p ends ps most f s l aO st).2.1=1->k<=((bW (k9 k) p ends ps most f s l aO st).1.length:Int))
 | 0,s,l,aO,st,h=>by simp[bW]
 | f+1,s,l,aO,st,h=>by
  unfold bW
  by_cases h1:aO<0
  ·simp[if_pos h1]
  ·simp only[if_neg h1]
   by_cases h2:aO=ps.length
   ·simp only[if_pos h2,oy];rw[if_pos trivial]
    have hw:wrap64 ((s.length:Int)+1)=((s++[l]).length:Int):=by
     rw[List.length_append,List.length_singleton];unfold wrap64;omega
    by_cases h3:((s.length+1:Nat):Int)<k
    ·have e3:(k9 k s l).1=true:=by simp only[k9];exact decide_eq_true h3
     rw[if_pos e3,hw]
     exact jg p ends ps most k hk f (s++[l]) l (aO-1) st (by rw[List.length_append,List.length_singleton];exact h3)
    ·have e3:¬(k9 k s l).1=true:=by simp only[k9];simpa using h3
     rw[if_neg e3];refine⟨fun h=>(by cases h),fun _=>?_⟩
     simp only[k9];rw[List.length_append,List.length_singleton];omega
   ·simp only[if_neg h2]
    split
    ·exact jg p ends ps most k hk f _ _ _ _ h
    ·split
     ·exact⟨fun h=>(by cases h),fun h=>(by cases h)⟩
     ·split
      ·exact jg p ends ps most k hk f _ _ _ _ h
      ·exact jg p ends ps most k hk f _ _ _ _ h
theorem FP {σ:Type} (nx:σ->List (List Int)->Bool×σ) (p:az) (ends:List (List (Int×Int))) (ah:List (Int×Int)) (most:Int) (f:Nat) (s:σ) (l:List (List Int)) (aO st:Int) (ct:st<=most) (hp : -1<=aO) (sG:aO<=ah.length) (hf:ap most aO st<=f):
  (bW nx p ends ah most f s l aO st).2.1=1\/(bW nx p ends ah most f s l aO st).2.1=2\/(bW nx p ends ah most f s l aO st).2.1=3:=by
 unfold ap at hf
 induction f generalizing s l aO st with
 | zero=>omega
 | succ f ih=>
  simp only[bW]
  by_cases h1:aO<0
  ·rw[if_pos h1];simp
  ·rw[if_neg h1]
   by_cases h2:aO=ah.length
   ·rw[if_pos h2]
    split
    ·exact ih _ _ _ _ ct (by omega) (by omega) (by omega)
    ·simp
   ·rw[if_neg h2]
    split
    ·exact ih _ _ _ _ ct (by omega) (by omega) (by omega)
    ·split
     ·simp
     ·split
      ·exact ih _ _ _ _ (by omega) (by omega) (by omega) (by omega)
      ·exact ih _ _ _ _ (by omega) (by omega) (by omega) (by omega)
theorem UJ {p:az} {n:aw} {k:Int} {s:List (List Int)} (h:s∈aF p n k):mZ p n s=true/\ta p n s=true:=by
 unfold aF at h
 split at h
 ·rename_i dJ
  unfold rR at dJ;simp only[Bool.and_eq_true]at dJ;obtain⟨⟨h1,h2⟩,h3⟩:=dJ
  split at h
  ·cases h
  ·refine CQ h1 h2 (lc n) ?_
   unfold OD su at h
   split at h
   ·rename_i hh
    have fv:=(dE h1).1;have dH:rK (p.labels-1) (ef n):=ov (by omega)
    have hJ:=sm h1 h2 (lc n) (kG (ef n)) (most:=200000) (k9 k) (fun s=>∀x∈s,ET p n (ef n) x) (fun s l hs hl x hx=>by
     simp only[k9,List.mem_append,List.mem_singleton]at hx;rcases hx with hx | rfl
     ·exact hs x hx
     ·exact hl.sol (kG _) dH) (ap 200000 0 0) [] (ef n) 0 0 (zq h1 h2 (lc n) (kG _) dH hh) (Nat.zero_le _) (fun x hx=>by cases hx)
    exact hJ s h
   ·cases h
 ·cases h
theorem MT {p:az} {n:aw} {k:Int} (h1:bt p n k=true) (h2:((aF p n k).length:Int)<k):aK p n 200000=2/\aJ p n 200000=((aF p n k).length:Int):=by
 unfold bt at h1;rw[Bool.and_eq_true]at h1;obtain⟨dJ,h3⟩:=h1;have UK:=dJ;unfold rR at UK;simp only[Bool.and_eq_true]at UK;obtain⟨⟨g1,g2⟩,g3⟩:=UK;have hk:=aL.1 g3;have h4:¬(OD p n k).2.1=3:=by simpa using h3
 have G6:uj p n 200000=true:=by unfold uj;rw[g1,g2];rfl
 unfold aF at h2 ⊢
 rw[if_pos dJ,if_neg h4]at h2 ⊢
 unfold aK aJ
 rw[if_pos G6,if_pos G6]
 unfold WO su
 unfold OD su at h2 h4 ⊢
 split
 ·rename_i hh
  rw[if_pos hh]at h2 h4
  have hT:=jg p n.ends (fB (ef n)) 200000 k hk.2 (ap 200000 0 0) [] (ef n) 0 0 (by show(0:Int)<k;omega)
  have hE:=FP (k9 k) p n.ends (fB (ef n)) 200000 (ap 200000 0 0) [] (ef n) 0 0 (by omega) (by omega) (by omega) (Nat.le_refl _);rcases hE with hE | hE | hE
  ·have:=hT.2 hE
   omega
  ·exact hT.1 hE
  ·exact absurd hE h4
 ·exact⟨rfl,rfl⟩
end Go.Proofs.YtnioemnkfojmkaaGreat
