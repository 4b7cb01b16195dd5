/- Parts of the proof: walks of functions and plain laws. -/
import Derived.Test.YtgjggeapebbcbaaGreatP0
import Derived.Test.YtgjggeapebbcbaaGreatP3
import Derived.Test.YtgjggeapebbcbaaGreatP1
import Derived.Test.YtgjggeapebbcbaaGreatP5
import Derived.Test.YtgjggeapebbcbaaGreatP4
import Derived.Deep.CutRange
import Derived.Test.YtgjggeapebbcbaaGreatP2
set_option maxRecDepth 100000
set_option maxHeartbeats 16000000
namespace Go.Proofs.YtgjggeapebbcbaaGreat
open Go Go.RowKit
theorem aM.snoc {β:Type} {R:World->Nat->Value->β->List Nat->Prop} {e:TypeId} (L:cd R) {w w':World} {base g cap:Nat} {v u:Value} {xs:List β} {x:β} {S T:List Nat} (h:aM e R w base v xs S) (hu:R w base u x T) (hd:∀j∈T,j∉S)
  (vs:List Value) (Ss:List (List Nat)) (h1:w.ownsRow base e 1 v xs.length vs) (h2:Ss.length=xs.length) (h3:∀(k:Nat) u x T,vs[k]?=some u->xs[k]?=some x->Ss[k]?=some T->R w base u x T) (h4:S=v.ownBlock.toList++Ss.flatten) (h5:S.Nodup)
  (q1:w'.ownsRow base e 1 (.slice (some ⟨g,0,none⟩) (xs.length+1) cap) (xs.length+1) (vs++[u])) (q2:w.grownBy w' v.ownBlock) (q3:v.ownBlock=some g\/g=w.heap.size):
  ∃S',aM e R w' base (.slice (some ⟨g,0,none⟩) (xs.length+1) cap) (xs++[x]) S'/\(∀j∈S',j∈S\/j∈T\/j=w.heap.size):=by
 have hS:=(iE e L).range h;have Pe:=L.range hu;have pR:vs.length=xs.length:=by simpa using h1.1
 have lx:=h5;rw[h4,List.nodup_append]at lx
 have dY:∀j∈Ss.flatten,j∈S:=fun j hj=>by rw[h4];exact List.mem_append_right _ hj
 have eK:=aL.aaf q2;have Kb:∀j∈Ss.flatten,j∉v.ownBlock.toList:=fun j hj hv=>lx.2.2 j hv j hj rfl
 have Kc:∀j∈T,j∉v.ownBlock.toList:=fun j hj hv=>hd j hj (by rw[h4];exact List.mem_append_left _ hv)
 have hg:g∉Ss.flatten:=fun hg=>by
  rcases q3 with q3 | q3
  ·exact Kb g hg (by rw[q3];simp)
  ·have:=(hS g (dY g hg)).2;omega
 have xq:g∉T:=fun hg=>by
  rcases q3 with q3 | q3
  ·exact Kc g hg (by rw[q3];simp)
  ·have:=(Pe g hg).2;omega
 refine⟨[g]++(Ss++[T]).flatten,⟨vs++[u],Ss++[T],?_,by simp[h2],?_,by simp[Value.ownBlock],?_⟩,?_⟩
 ·rw[List.length_append];exact q1
 ·intro k u' x' T' sf uw mj;rcases Nat.lt_or_ge k xs.length with hk | hk
  ·rw[List.getElem?_append_left (by omega)]at sf uw mj;exact L.only (h3 k u' x' T' sf uw mj) eK (fun j hj=>Kb j (List.mem_flatten.2 ⟨T',List.mem_of_getElem? mj,hj⟩))
  ·have ld:k=xs.length:=by
    have:=ai uw
    simp at this;omega
   subst ld;rw[List.getElem?_append_right (Nat.le_refl _),Nat.sub_self]at uw;rw[<- pR,List.getElem?_append_right (Nat.le_refl _),Nat.sub_self]at sf;rw[<- h2,List.getElem?_append_right (Nat.le_refl _),Nat.sub_self]at mj;simp at sf uw mj
   subst sf uw mj;exact L.only hu eK Kc
 ·rw[List.flatten_append,List.nodup_append];refine⟨by simp,?_,?_⟩
  ·rw[List.nodup_append];refine⟨lx.2.1,by simpa using L.nodup hu,?_⟩
   intro a ha b hb e;simp at hb
   subst e;exact hd a hb (dY a ha)
  ·intro a ha b hb e;simp at ha
   subst e ha;rcases List.mem_append.1 hb with hb | hb
   ·exact hg hb
   ·simp at hb;exact xq hb
 ·intro j hj;rw[List.flatten_append]at hj;rcases List.mem_append.1 hj with hj | hj
  ·simp at hj
   subst hj;rcases q3 with q3 | q3
   ·left;rw[h4,q3];simp
   ·exact .inr (.inr q3)
  ·rcases List.mem_append.1 hj with hj | hj
   ·exact .inl (dY j hj)
   ·simp at hj;exact .inr (.inl hj)
theorem DK:(Tryz.prog.info? 25).map (fun i=>(i.zero,i.size,i.bytes))=some (some (.slice none 0 0),1,24):=by kernel_rfl
theorem m_ (b c:Nat) (x:Int) (w:World) (hc:w.cell? ⟨b,0,none⟩=some (.int .i64 x)):
  Calls Tryz.prog 74 #[.slice (some ⟨b,0,none⟩) 1 c,.int .i64 0] w fun e w'=>∃u,e=.returned u/\Own w' w.heap.size u []/\Below w.heap.size w w':=by
 have e1:IntKind.u64.wrap (0:Int)=0:=IntWalk.u64_in _ (by omega);have hm:=Tryz.bits_Mul 1 0 (by omega) (by omega) w;rw[show(1*0/18446744073709551616:Nat)=0 by omega,show(1*0%18446744073709551616:Nat)=0 by omega]at hm
 have Hm:=zh hm;have e2:IntKind.i64.wrap (0:Int)=0:=aR _ (by omega) (by omega);have m2:∀W:World,(Instr.makeSlice 25 (.int .i64 0) (.int .i64 0)).run Tryz.prog W=.ok (.slice (some ⟨W.heap.size,0,none⟩) 0 0) (W.alloc (.cells #[] 3)):=jL 0 (by omega);have Hc:=zh hc;clear hm hc
 go_enter Tryz.func74,Tryz.ntmps74
 go_wp2_with fail;refine Hm.out.mono ?_;rintro e w1 ⟨rfl,rfl⟩
 have Pp:Hid ((w1.alloc (.cells #[] 3)).heap[w1.heap.size]?=some (.cells (cg x 0 0).toArray 3 (0,0))):=by
  show(w1.heap.push _)[w1.heap.size]?=_
  rw[Array.getElem?_push_size];simp[cg]
 go_wp2_with (refine wpList_copy_splice rfl _ _ 25 25 rfl 3 Tryz.underlying25 (by kernel_rfl) (some ⟨w1.heap.size,0,none⟩) (some ⟨b,0,none⟩) 0 0 1 c rfl rfl w1.heap.size 0 (cg x 0 0) 3 Pp.out [] rfl (fun h=>by simp at h) (by simp) (by simp) w1.heap.size w1 (aj _ _) (Nat.le_refl _) ?_;intro w3 s9 aZ)
 have Pq:Hid (w3.heap[w1.heap.size]?=some (.cells (cg x 0 0).toArray 3 (0,0))):=by
  show _=_
  have:=s9.out
  simpa[splice,cg]using this
 have Kn:=zh aZ;clear s9 aZ;go_wp2
 go_loopw [8] (fun nv wr=>nv=.int .i64 0/\wr=w3) (fun _ _=>0)
 case atStart=>exact⟨rfl,rfl⟩
 case round=>
  obtain⟨rfl,rfl⟩:=hrel;go_wp2;go_ret;exact⟨_,rfl,xG (N:=0) Pq.out (Nat.le_refl _) (by omega),Kn.out⟩
theorem vr (b c:Nat) (x:Int) (N:Nat) (w:World) (ta:N<=1000000) (hc:w.cell? ⟨b,0,none⟩=some (.int .i64 x)):
  Calls Tryz.prog 74 #[.slice (some ⟨b,0,none⟩) 1 c,.int .i64 N] w fun e w'=>∃u,e=.returned u/\Own w' w.heap.size u (List.replicate N x)/\Below w.heap.size w w':=by
 rcases Nat.eq_zero_or_pos N with h | h
 ·subst h;exact m_ b c x w hc
 ·exact jR b c x N w h ta hc
theorem qd (v:Value) (bX:List (List Int)) (w:World) (h:bw w v bX) (vu:bX.length<=1048576) (hr:∀(v:Nat) (row:List Int),bX[v]?=some row->row.length<=17592186044416):
  Calls Tryz.prog 64 #[v] w fun e w'=>∃u S,e=.returned u/\dU w' w.heap.size u bX S/\Below w.heap.size w w':=by
 have H:=zh h;obtain⟨A,c,rfl,er,hm,-⟩:=h;unfold maxLen at hm;have Hr:=zh hr;clear hr
 go_enter Tryz.func64,Tryz.ntmps64
 go_wp2_with (at_make;refine sR _ rfl _ _ rfl bX.length rfl rfl vu ?_;intro w1 gu aJ)
 go_loopw [10] (fun i wr=>∃(k:Nat) (S:List Nat),k<=bX.length/\i=.int .i64 k/\dU wr w.heap.size (.slice (some ⟨w.heap.size,0,none⟩) bX.length bX.length) (bX.take k++List.replicate (bX.length-k) []) S/\Below w.heap.size w wr) (fun i _=>bX.length-(intOf i).toNat)
 case atStart=>exact⟨0,_,Nat.zero_le _,rfl,by simpa using gu,aJ⟩
 case round=>
  obtain⟨k,S,hk,rfl,ho,hb⟩:=hrel;clear gu aJ
  by_cases aH:k<bX.length
  ·obtain⟨x,b,off,A1,z1,hx,rfl,bS,cj,cX,kj⟩:=eJ H.out aH;have k1:=bc hb bS;have Hu:=zh (kj.aab hb);have Ho:=zh ho;have Hb:=zh hb;have Hx:=zh hx;clear hx bS ho hb kj;go_wp2_with fail;refine(qz _ x _ Hu.out (Hr.out k x Hx.out)).mono ?_;rintro e w2 ⟨v2,rfl,zt,hb2⟩;have GI:it w2 wr.heap.size v2 x v2.ownBlock.toList:=⟨zt,rfl⟩;have cy:=bA.aab Ho.out hb2
   obtain⟨y,hy⟩:=ax (bX.take k++List.replicate (bX.length-k) []) k (by simp;omega)
   obtain⟨_,_,y1,f1,_⟩:=aM.at_ cy hy;have hS:=bA.range Ho.out
   obtain⟨S3,fU,_⟩:=aM.store dF cy k (dF.mono GI Hb.out.size) (fun j hj Ps=>by have h1:=(dF.range GI j hj).1;have:=(hS _ Ps).2;omega)
   rw[oc [] bX k x Hx.out]at fU
   have qe:=zh fU;have uB:=zh ((Hb.out.trans (hb2.mono Hb.out.size)).setCell (p:=⟨w.heap.size,k,none⟩) (Nat.le_refl _) v2);obtain⟨B2,d2,rfl,_⟩:=id zt.ints;clear cy hy fU hb2 zt hS GI;go_wp2;go_roundw
   case rel=>exact⟨k+1,S3,by omega,by simp,qe.out,uB.out⟩
   case measure=>simp[intOf];omega
  ·have e1:bX.take k++List.replicate (bX.length-k) ([]:List Int)=bX:=by rw[List.take_of_length_le (by omega),show bX.length-k=0 by omega,List.replicate_zero,List.append_nil]
   rw[e1]at ho;have Ho:=zh ho;have Hb:=zh hb;clear ho hb e1;go_wp2;go_ret;exact⟨_,S,rfl,Ho.out,Hb.out⟩
def dc (n:am):List (List Int):=n.ends.map fun es=>List.replicate es.length (-1)
theorem qT (n:am):(dc n).length=n.ends.length:=by simp[dc]
theorem qU {n:am} {k:Nat} {es:List (Int×Int)} (h:n.ends[k]?=some es):(dc n)[k]?=some (List.replicate es.length (-1)):=by simp[dc,h]
theorem qf (ve vi vn:Value) (n:am) (w:World) (h:aI w ve vi vn n) (vu:n.ends.length<=1048576) (hr:∀(v:Nat) (es:List (Int×Int)),n.ends[v]?=some es->es.length<=1000000):
  Calls Tryz.prog 47 #[.agg #[ve,vi,vn]] w fun e w'=>∃u S,e=.returned u/\dU w' w.heap.size u (dc n) S/\Below w.heap.size w w':=by
 obtain⟨w0,A,c,A2,c2,A3,c3,rfl,rfl,rfl,er,hm,et,fG,HA,bM,aY,H,e8,fh,fi⟩:=zB h;clear h
 have Hr:=zh hr;clear hr;obtain⟨F,hF⟩:∃F,F=dc n:=⟨_,rfl⟩
 have Wt:F.length=n.ends.length:=by rw[hF];exact qT n
 rw[<- hF];have HF:=zh hF;clear hF
 go_enter Tryz.func47,Tryz.ntmps47
 go_upto_region 1 with(fail);rw[<- bM.out];have aX:aa w0 w0:=ab _
 go_upto_region 3 with(at_make;refine sR _ rfl _ _ rfl n.ends.length rfl rfl vu ?_;intro w1 gu aJ;have bu:aa w0 w1:=aJ)
 obtain⟨g,hg⟩:∃g,g=w0.heap.size:=⟨_,rfl⟩
 rw[<- hg]at gu ⊢;have bu:aa w0 w1:=aJ;have Hg:=zh hg;clear hg aJ;go_wp2
 go_loopw [13] (fun i wr=>∃(k:Nat) (S:List Nat),k<=n.ends.length/\i=.int .i64 k/\dU wr w0.heap.size (.slice (some ⟨g,0,none⟩) n.ends.length n.ends.length) (F.take k++List.replicate (F.length-k) []) S/\aa w0 wr) (fun i _=>n.ends.length-(intOf i).toNat)
 case atStart=>exact⟨0,_,Nat.zero_le _,rfl,by rw[Wt];have:=gu;simpa[Hg.out]using this,bu⟩
 case round=>
  obtain⟨k,S,hk,rfl,ho,hb⟩:=hrel;have Ho:=zh ho;have Hb:=zh hb;clear gu bu aX ho hb
  by_cases aH:k<n.ends.length
  ·obtain⟨es,ba⟩:=ax n.ends k aH;obtain⟨b,off,c',u,hA,Wu,bS,bT⟩:=fo H.out.es ba;cases hA;obtain⟨A1,z1,rfl,cj,cX,-⟩:=bT;have rF:=Hr.out k es ba;have k1:=bc Hb.out.below bS
   have Hx:Hid (F[k]?=some (List.replicate es.length (-1))):=by show _=_;rw[HF.out];exact qU ba
   clear bS ba;go_wp2_with fail;refine(vr wr.heap.size 1 (-1) es.length _ rF (by simp)).mono ?_;rintro e w2 ⟨v2,rfl,zt,hb2⟩;have GI:it w2 (wr.alloc (.cells #[.int .i64 (-1)] 3)).heap.size v2 (List.replicate es.length (-1)) v2.ownBlock.toList:=⟨zt,rfl⟩;have gO:wr.heap.size<=(wr.alloc (.cells #[.int .i64 (-1)] 3)).heap.size:=by simp
   have au:w0.heap.size<=wr.heap.size:=Hb.out.below.size;have cy:=bA.aab (bA.aab Ho.out (aj wr (.cells #[.int .i64 (-1)] 3))) hb2
   obtain⟨y,hy⟩:=ax (F.take k++List.replicate (F.length-k) []) k (by simp;omega)
   obtain⟨_,_,y1,f1,_⟩:=aM.at_ cy hy;have hS:=bA.range Ho.out
   obtain⟨S3,fU,_⟩:=aM.store dF cy k (dF.mono GI (by omega)) (fun j hj Ps=>by have h1:=(dF.range GI j hj).1;have:=(hS _ Ps).2;omega)
   rw[oc [] F k _ Hx.out]at fU
   have qe:=zh fU
   have uB:Hid (aa w0 (w2.setCell ⟨g,k,none⟩ v2)):=Below.setCell (aa.below ((ae _ Hb.out).trans hb2)) (by show w0.heap.size<=g;rw[Hg.out];exact Nat.le_refl _) _
   obtain⟨B2,d2,Fs,_⟩:=id zt.ints;rw[List.length_replicate]at Fs;subst Fs;clear cy hy fU hb2 zt hS GI gO au;go_wp2;go_roundw
   case rel=>exact⟨k+1,S3,by omega,by go_num,qe.out,uB.out⟩
   case measure=>simp[intOf];omega
  ·have e1:F.take k++List.replicate (F.length-k) ([]:List Int)=F:=by rw[List.take_of_length_le (by omega),show F.length-k=0 by omega,List.replicate_zero,List.append_nil]
   have HO:Hid (dU wr w0.heap.size (.slice (some ⟨g,0,none⟩) n.ends.length n.ends.length) F S):=by have:=Ho.out;rwa [e1]at this
   clear e1;go_wp2;go_ret;exact⟨_,S,rfl,bA.mono HO.out aY.out.size,aa.after aY.out Hb.out⟩
theorem dp.put {w:World} {b:Nat} {vs:Array Value} (h:dp w b vs) (i:Nat) (u:Value):dp (w.setCell ⟨b,i,none⟩ u) b (vs.setIfInBounds i u):=by
 obtain⟨r,h⟩:=h;refine⟨r,?_⟩;simp[World.setCell,Array.getElem?_modify,h]
theorem dp.grown {w w':World} {b:Nat} {vs:Array Value} {row:Option Nat} (h:dp w b vs) (hg:w.grownBy w' row) (hb:some b≠row):dp w' b vs:=by
 have aH:=h.lt;obtain⟨r,h'⟩:=h;exact⟨r,(hg.block b aH hb).trans h'⟩
theorem AA {w:World} {ops:Array Oper} {rest:List Oper} {o:Oper} {a:Act} {Q:Exit->Act->World->Prop} (gA:o.guard=none) (s x:Operand)
  (ho:o.op=.call { callee:=.builtin .append,args:=#[s,x],argTypes:=#[34,34] }) {base:Nat} {v:Value} {xs:List (Int×Int)} (hs:a.eval s=v) (h:∃T,co w base v xs T) (b:Nat) (y:Int×Int)
  (hx:a.eval x=.slice (some ⟨b,0,none⟩) 1 1) (hc:w.cell? ⟨b,0,none⟩=some (.int .i64 y.1)) (bS:w.cell? ⟨b,1,none⟩=some (.int .i64 y.2)) (hl:xs.length+1<=1000000) (lf:base<=w.heap.size)
  (k:∀g cap w',(∃T,co w' base (.slice (some ⟨g,0,none⟩) (xs.length+1) cap) (xs++[y]) T)->w.grownBy w' v.ownBlock->(∀j,v.ownBlock=some j->base<=j)->base<=g->wpList Tryz.prog ops Q rest (a.put o.dst (.slice (some ⟨g,0,none⟩) (xs.length+1) cap)) w'):wpList Tryz.prog ops Q (o::rest) a w:=by
 obtain⟨i0,hi,eS,cj,cX⟩:=info_parts oB;obtain⟨T,h⟩:=h
 refine wpList_append_lies w gA s x 34 ho base 36 i0 _ 2 16 Tryz.underlying34 hi eS cj cX rfl (by decide) v xs.length (xs.flatMap iF) hs h.1 ⟨b,0,none⟩ 1 1 [.int .i64 y.1,.int .i64 y.2] hx rfl
  (by intro j u hj;match j,hj with | 0,hj=>(simp at hj;subst hj;simpa[Addr.add]using hc) | 1,hj=>(simp at hj;subst hj;simpa[Addr.add]using bS) | j+2,hj=>simp at hj) (by simp[Value.oneCell']) (by omega) (by unfold maxLen;omega) (by omega) lf w.heap.size rfl ?_
 intro g cap w' q1 q2 q3 q4;have hq:w'.ownsRow base 36 2 (.slice (some ⟨g,0,none⟩) (xs.length+1) cap) (xs++[y]).length ((xs++[y]).flatMap iF):=by simpa[iF]using q1
 exact k g cap w' ⟨_,hq,rfl⟩ q2 (fun j hj=>(World.ownsRow.lt h.1 j hj).1) (World.ownsRow.lt hq g rfl).1
theorem oZ (v:Value) (bX:List (List Int)) (w:World) (B:Nat) (hB:B<=w.heap.size) (h:bw w v bX) (vu:bX.length<=1048576) (hr:∀(v:Nat) (row:List Int),bX[v]?=some row->row.length<=17592186044416):
  Calls Tryz.prog 64 #[v] w fun e w'=>∃u S,e=.returned u/\dU w' B u bX S/\Below w.heap.size w w':=(qd v bX w h vu hr).mono fun _ _ ⟨u,S,h1,h2,h3⟩=>⟨u,S,h1,bA.mono h2 hB,h3⟩
def lO (p:aN) (pa pb va vb vc ul uf:Value) (st:Int):Array Value:=#[.int .i64 p.labels,.int .i64 p.degree,pa,pb,va,vb,vc,ul,uf,.int .i64 st]
theorem qV (v:Nat) (row:List Int) (k:Nat):(f_ v row k).length<=k:=by
 unfold f_;rw[List.length_map];exact Nat.le_trans (List.length_filter_le _ _) (by simp)
theorem tc {l:List (List Int)} (h:∀(v:Nat) (row:List Int),l[v]?=some row->row.length<=6) (k:Nat):(gj l k).length<=6*k:=by
 induction k with
 | zero=>simp[gj]
 | succ k ih=>
  rw[oI,List.length_append]
  have:(qK k (l.getD k [])).length<=6:=by
   have h1:=qV k (l.getD k []) (l.getD k []).length
   have h2:(l.getD k []).length<=6:=by
    cases hk:l[k]? with
    | none=>simp[zDd,hk]
    | some row=>rw[ag hk];exact h k row hk
   exact Nat.le_trans h1 h2
  omega
def eD (w:World) (sb:Nat) (vs:Array Value) (l:List (List Int)) (al:List (Int×Int)) (ul uf:Value) (SL:List Nat) (B:Nat):Prop:=
 dp w sb vs/\dU w B ul l SL/\(∀k∈SL,k<sb)/\∃T,co w (sb+1) uf al T
theorem eD.push {wr w3:World} {sb:Nat} {vs:Array Value} {l:List (List Int)} {al:List (Int×Int)} {ul uf:Value} {SL:List Nat} {B:Nat} {o:Obj} (h:eD wr sb vs l al ul uf SL B) {y:Int×Int} {g cap:Nat}
  (fU:∃T,co w3 (sb+1) (.slice (some ⟨g,0,none⟩) (al.length+1) cap) (al++[y]) T) (s9:(wr.alloc o).grownBy w3 uf.ownBlock) (Ja:∀j,uf.ownBlock=some j->sb+1<=j) (hs:sb+1<=wr.heap.size):
  dp w3 sb vs/\eD (w3.setCell ⟨sb,8,none⟩ (.slice (some ⟨g,0,none⟩) (al.length+1) cap)) sb (vs.setIfInBounds 8 (.slice (some ⟨g,0,none⟩) (al.length+1) cap)) l (al++[y]) ul (.slice (some ⟨g,0,none⟩) (al.length+1) cap) SL B /\
   (∀w0:World,aa w0 wr->w0.heap.size<=sb->aa w0 (w3.setCell ⟨sb,8,none⟩ (.slice (some ⟨g,0,none⟩) (al.length+1) cap)))/\sb+1<=(w3.setCell ⟨sb,8,none⟩ (.slice (some ⟨g,0,none⟩) (al.length+1) cap)).heap.size:=by
 obtain⟨h1,h2,h3,h4⟩:=h
 have hb:dp w3 sb vs:=(h1.alloc o).grown s9 (fun e=>by have:=Ja sb e.symm;omega)
 have dM:wr.heap.size<=w3.heap.size:=by have:=s9.size;simp at this;omega
 refine⟨hb,⟨hb.put 8 _,?_,h3,?_⟩,?_,by rw[jf];omega⟩
 ·refine bA.aac h2 fun k hk=>?_
  have ld:=h3 k hk
  rw[Below.heap_setCell _ _ _ k (by show k≠sb;omega),s9.block k (by simp;omega) (fun e=>by have:=Ja k e.symm;omega)]
  exact Below.heap_alloc wr o k (by omega)
 ·obtain⟨T,fU⟩:=fU
  exact⟨T,cd.put fm fU (by show sb<sb+1;omega) _⟩
 ·intro w0 au sd
  refine Below.setCell (Below.grown (aa.below (ae o au)) s9 ?_ (fun j hj=>by have:=Ja j hj;omega)) (by show w0.heap.size<=sb;exact sd) _
  have:=(aa.below au).size
  simp;omega
theorem qg (pa pb ve vi vn vl:Value) (p:aN) (n:am) (l:List (List Int))  (w:World) (hp:el w pa pb p) (h:aI w ve vi vn n) (hl:bw w vl l) (Wv:l.length<=40) (Ay:∀(v:Nat) (row:List Int),l[v]?=some row->row.length<=6):
  Calls Tryz.prog 53 #[.agg #[.int .i64 p.labels,.int .i64 p.degree,pa,pb],.agg #[ve,vi,vn],vl] w fun e w'=>∃sb ul uf SL,e=.returned (.pointer (some ⟨sb,0,none⟩))/\eD w' sb (lO p pa pb ve vi vn ul uf 0) l (fZ l) ul uf SL w.heap.size/\w.heap.size<=sb/\Below w.heap.size w w':=by
 obtain⟨w0,au⟩:∃w0,w0=((w).alloc (.cells #[.int .i64 p.labels,.int .i64 p.degree,pa,pb] 40)).alloc (.cells #[ve,vi,vn] 27):=⟨_,rfl⟩
 have bO:Below w.heap.size w w0:=by rw[au];exact(((Below.refl _ _).alloc (by simp <;> omega) _).alloc (by simp <;> omega) _)
 have H:=zh (h.aab bO);obtain⟨h1,h2,h3⟩:=h.aab bO;obtain⟨A,c,rfl,er,hm,hA⟩:=h1;obtain⟨A2,c2,rfl,_,et,_⟩:=h2;obtain⟨A3,c3,rfl,_,fG,_⟩:=h3;unfold maxLen at hm et fG;have dV:=hp.aab bO;have HP:=zh dV;obtain⟨P0,gL,rfl,lJ,fw,cH⟩:=id dV.1;unfold maxLen at fw;have lK:=zh cH;clear cH;obtain⟨P1,g8,rfl,lL,fx,cJ⟩:=id dV.2;unfold maxLen at fx;have lM:=zh cJ;clear cJ;clear dV hp
 have e8:∀W,aa w0 W->W.cell? ⟨w.heap.size,0,none⟩=some (.int .i64 p.labels):=ad (by rw[au];simp)
 have fh:∀W,aa w0 W->W.cell? ⟨w.heap.size,1,none⟩=some (.int .i64 p.degree):=ad (by rw[au];simp)
 have fi:∀W,aa w0 W->W.cell? ⟨w.heap.size,2,none⟩=some (.slice P0 p.nodes.length gL):=ad (by rw[au];simp)
 have pT:∀W,aa w0 W->W.cell? ⟨w.heap.size,3,none⟩=some (.slice P1 p.aad.length g8):=ad (by rw[au];simp)
 have vj:∀W,aa w0 W->W.cell? ⟨w.heap.size+1,0,none⟩=some (.slice A n.ends.length c):=ad (by rw[au];simp)
 have C7:∀W,aa w0 W->W.cell? ⟨w.heap.size+1,1,none⟩=some (.slice A2 n.ids.length c2):=ad (by rw[au];simp)
 have C8:∀W,aa w0 W->W.cell? ⟨w.heap.size+1,2,none⟩=some (.slice A3 n.aaa.length c3):=ad (by rw[au];simp)
 have aY:=zh bO;have bM:=zh au;have HA:=zh hA;clear hA h;clear bO au;have HL:=zh (hl.aab aY.out);obtain⟨AL,cL,rfl,Pk,Fr,-⟩:=hl;unfold maxLen at Fr;have Nq:=zh Ay
 have Ww:Hid (∀(k j:Nat) (row:List Int),k<=l.length->j<=6->(gj l k++f_ k row j).length+1<=1000000):=by
  intro k j row hk hj;have h1:=tc Ay k;have h2:=qV k row j;rw[List.length_append];omega
 clear Ay
 go_enter Tryz.func53,Tryz.ntmps53
 go_upto_region 1 with(fail);rw[<- bM.out];refine nG (w0:=w0) 6 [false,false,false,true,true,true] (by kernel_rfl) (by kernel_rfl) (ab _) ?_;simp only[df,b8,zT]
 iterate 3 (apply ek rfl;(intro W hW;go_simp;with_reducible rfl);simp only[zA])
 intro W hW;refine Or.inl ⟨rfl,?_⟩
 go_simp
 (with_reducible refine(oZ _ l W w0.heap.size hW.below.size (HL.out.aab hW.below) (by omega) (fun v row hv=>Nat.le_trans (Nq.out v row hv) (by omega))).mono ?_)
 rintro e W' ⟨ul,SL,rfl,ho,hb⟩;refine⟨_,rfl,hW.trans hb,?_⟩
 replace hW:=hW.trans hb
 obtain⟨AU,mU,cU,rfl⟩:=bA.one ho;have Ko:=bA.range ho;have HO:=zh ho;have Wx:Hid (w0.heap.size<=W'.heap.size):=(aa.below hW).size;have Tz:Hid (∀k∈SL,k<W'.heap.size):=fun k hk=>(Ko k hk).2
 clear ho hb Ko
 (try simp only[zA])
 refine fP (v:=?_) rfl ?_ hW ?_;rotate_left;(go_simp;with_reducible rfl)
 simp only[zA]
 refine jP (v:=?_) (ob:=?_) rfl ?_ hW ?_;rotate_left 2
 (go_simp;first | with_reducible rfl | (refine⟨?_,?_⟩ <;> with_reducible rfl))
 intro w8 f6 gP
 replace hW:=gP
 clear gP;skip
 (try simp only[zA])
 simp only[aQ];obtain⟨sb,yq⟩:∃sb,sb=W'.heap.size:=⟨_,rfl⟩
 rw[<- yq]
 have TA:dp w8 sb (lO p (.slice P0 p.nodes.length gL) (.slice P1 p.aad.length g8) (.slice A n.ends.length c) (.slice A2 n.ids.length c2) (.slice A3 n.aaa.length c3) (.slice AU mU cU) (.slice none 0 0) 0):=by rw[f6,yq];exact dp.new _ _ _
 have Kp:Below W'.heap.size W' w8:=by rw[f6];exact aj _ _
 have Kq:w8.heap.size=sb+1:=by rw[f6,yq];simp
 have Ft:eD w8 sb (lO p (.slice P0 p.nodes.length gL) (.slice P1 p.aad.length g8) (.slice A n.ends.length c) (.slice A2 n.ids.length c2) (.slice A3 n.aaa.length c3) (.slice AU mU cU) (.slice none 0 0) 0) l [] (.slice AU mU cU) (.slice none 0 0) SL w0.heap.size:=⟨TA,bA.aab HO.out Kp,by rw[yq];exact Tz.out,⟨_,World.ownsRow_nil _ _ _ _,rfl⟩⟩
 have zu:=zh Ft;have iz:=zh Kq;have Wy:=zh hW
 have Kr:Hid (w0.heap.size<=sb):=by
  show _<=_
  rw[yq];exact Wx.out
 clear f6 yq TA Kp Kq Ft hW HO Tz;go_wp2
 go_loopw [19] (fun i wr=>∃(k:Nat) (uf:Value),k<=l.length/\i=.int .i64 k/\eD wr sb (lO p (.slice P0 p.nodes.length gL) (.slice P1 p.aad.length g8) (.slice A n.ends.length c) (.slice A2 n.ids.length c2) (.slice A3 n.aaa.length c3) (.slice AU mU cU) uf 0) l (gj l k) (.slice AU mU cU) uf SL w0.heap.size/\aa w0 wr/\sb+1<=wr.heap.size) (fun i _=>l.length-(intOf i).toNat)
 case atStart=>exact⟨0,_,Nat.zero_le _,rfl,zu.out,Wy.out,Nat.le_of_eq iz.out.symm⟩
 case round=>
  obtain⟨k,uf,hk,rfl,Ft,hb,dM⟩:=hrel;have zu:=zh Ft;have Hb:=zh hb;have li:=zh dM;clear Ft hb dM
  by_cases aH:k<l.length
  ·obtain⟨row,b,off,A1,z1,hx,rfl,bS,cj,cX,kj⟩:=eJ HL.out aH;have q1:=ad bS;have hq:=q1 _ Hb.out;have Ks:=Nq.out k row hx;have ir:=zh hx;have HX:=zh kj;clear bS kj hx;go_upto_region 6 with(fail)
   go_loopw [27] (fun i wr=>∃(j:Nat) (uf:Value),j<=row.length/\i=.int .i64 j/\eD wr sb (lO p (.slice P0 p.nodes.length gL) (.slice P1 p.aad.length g8) (.slice A n.ends.length c) (.slice A2 n.ids.length c2) (.slice A3 n.aaa.length c3) (.slice AU mU cU) uf 0) l (gj l k++f_ k row j) (.slice AU mU cU) uf SL w0.heap.size/\aa w0 wr/\sb+1<=wr.heap.size) (fun i _=>row.length-(intOf i).toNat)
   case atStart=>exact⟨0,uf,Nat.zero_le _,rfl,by have:=zu.out;simpa[f_]using this,Hb.out,li.out⟩
   case round=>
    obtain⟨j,ug,hj,rfl,Ft,hb,dM⟩:=hrel;have GJ:=zh Ft;have Nr:=zh hb;have vv:=zh dM;clear Ft hb dM hq
    by_cases vq:j<row.length
    ·obtain⟨A',c',e,-,-,gn⟩:=HX.out;cases e;obtain⟨x,b1,sD,hx,rfl,Ah⟩:=fq gn vq;have hqx:=ad Ah _ Nr.out
     have TB:Hid (f_ k row (j+1)=f_ k row j++(if x<0 then [((k:Int),(j:Int))] else [])):=by show _=_;rw[sN,ag hx]
     clear hx Ah gn
     by_cases sZ:x<0
     ·have dO:=zh (Ww.out k j row hk (by omega));obtain⟨PL,Pt⟩:∃PL,PL=gj l k++f_ k row j:=⟨_,rfl⟩
      rw[<- Pt]at GJ dO;have Wz:=zh Pt;clear Pt;have d8:=(GJ.out.1.cell 8 ug rfl).1
      have gO:sb+1<=(wr.alloc (.cells #[.int .i64 k,.int .i64 j] 36)).heap.size:=by have:=vv.out;simp;omega
      have WA:Hid (∃T,co (wr.alloc (.cells #[.int .i64 k,.int .i64 j] 36)) (sb+1) ug PL T):=by
       obtain⟨T,hT⟩:=GJ.out.2.2.2;exact⟨T,fm.aab hT (aj _ _)⟩
      have sj:=zh gO;clear gO;have d8b:(wr.alloc (.cells #[.int .i64 k,.int .i64 j] 36)).cell? ⟨sb,8,none⟩=some ug:=((GJ.out.1.alloc _).cell 8 ug rfl).1
      go_wp2_with (at_builtin;refine AA rfl _ _ rfl rfl WA.out wr.heap.size ((k:Int),(j:Int)) rfl (by simp[go_sem]) (by simp[go_sem]) dO.out sj.out ?_;intro g cap w3 fU s9 Ja Pu;obtain⟨kb,Nn,No,Kj⟩:=eD.push GJ.out fU s9 Ja vv.out;have Tx:=(kb.cell 8 ug rfl).1;have Tw:=(kb.cell 8 ug rfl).2;have WB:=zh Nn;have WC:=zh No;have Np:=zh Kj;clear Nn No Kj fU s9 Ja Pu kb)
      go_roundw
      case rel=>exact⟨j+1,_,by omega,by go_num,by rw[TB.out,if_pos sZ,<- List.append_assoc,<- Wz.out];exact WB.out,WC.out w0 Nr.out Kr.out,Np.out⟩
      case measure=>simp[intOf];omega
     ·go_wp2;go_roundw
      case rel=>exact⟨j+1,ug,by omega,by go_num,by rw[TB.out,if_neg sZ,List.append_nil];exact GJ.out,Nr.out,vv.out⟩
      case measure=>simp[intOf];omega
    ·obtain rfl:j=row.length:=by omega
     have Hn:Hid (gj l (k+1)=gj l k++f_ k row row.length):=by show _=_;rw[oI,ag ir.out];rfl
     go_wp2;go_roundw
     case rel=>exact⟨k+1,ug,by omega,by go_num,by rw[Hn.out];exact GJ.out,Nr.out,vv.out⟩
     case measure=>simp[intOf];omega
  ·obtain rfl:k=l.length:=by omega
   have Hf:Hid (eD wr sb (lO p (.slice P0 p.nodes.length gL) (.slice P1 p.aad.length g8) (.slice A n.ends.length c) (.slice A2 n.ids.length c2) (.slice A3 n.aaa.length c3) (.slice AU mU cU) uf 0) l (fZ l) (.slice AU mU cU) uf SL w0.heap.size):=zu.out;have TC:=aY.out.size;go_wp2;go_ret;exact⟨sb,_,uf,SL,rfl,⟨Hf.out.1,bA.mono Hf.out.2.1 TC,Hf.out.2.2⟩,Nat.le_trans TC Kr.out,aa.after aY.out Hb.out⟩
theorem eD.aao {w w':World} {sb:Nat} {vs:Array Value} {l:List (List Int)} {al:List (Int×Int)} {ul uf:Value} {SL:List Nat} {B:Nat} (h:eD w sb vs l al ul uf SL B) (hb:Below w.heap.size w w'):eD w' sb vs l al ul uf SL B:=by
 obtain⟨h1,h2,h3,T,h4⟩:=h;exact⟨h1.below hb h1.lt,bA.aab h2 hb,h3,T,fm.aab h4 hb⟩
theorem eD.rows {w:World} {sb:Nat} {vs:Array Value} {l:List (List Int)} {al:List (Int×Int)} {ul uf:Value} {SL:List Nat} {B:Nat} (h:eD w sb vs l al ul uf SL B):bw w ul l:=by
 obtain⟨-,h2,-⟩:=h;exact h2.read
theorem eD.field {w:World} {sb:Nat} {vs:Array Value} {l:List (List Int)} {al:List (Int×Int)} {ul uf:Value} {SL:List Nat} {B:Nat} (h:eD w sb vs l al ul uf SL B) (hB:B<=sb) (i:Nat) (u:Value):
  eD (w.setCell ⟨sb,i,none⟩ u) sb (vs.setIfInBounds i u) l al ul uf SL B/\Below B w (w.setCell ⟨sb,i,none⟩ u)/\aL (sb::SL) w (w.setCell ⟨sb,i,none⟩ u):=by
 obtain⟨h1,h2,h3,T,h4⟩:=h;have aH:=h1.lt
 refine⟨⟨h1.put i u,bA.aac h2 fun k hk=>Below.heap_setCell _ _ _ k (by have:=h3 k hk;show k≠sb;omega),h3,T,cd.put fm h4 (by show sb<sb+1;omega) u⟩,(Below.refl _ _).setCell (show B<=sb from hB) u,(aL.refl _ _).setCell (.inl (by simp)) u⟩
theorem eD.label {w:World} {sb:Nat} {vs:Array Value} {l:List (List Int)} {al:List (Int×Int)} {ul uf:Value} {SL:List Nat} {B:Nat} (h:eD w sb vs l al ul uf SL B) {v i:Nat} {row:List Int} {x:Int} (hv:l[v]?=some row) (hi:row[i]?=some x):
  ∃gl cl gr cr,ul=.slice (some ⟨gl,0,none⟩) l.length cl/\w.cell? ⟨gl,v,none⟩=some (.slice (some ⟨gr,0,none⟩) row.length cr)/\w.cell? ⟨gr,i,none⟩=some (.int .i64 x)/\w.frozen? ⟨gr,i,none⟩=false/\gr∈SL /\
   ∀y,eD (w.setCell ⟨gr,i,none⟩ (.int .i64 y)) sb vs (bH l ((v:Int),(i:Int)) y) al ul uf SL B/\Below B w (w.setCell ⟨gr,i,none⟩ (.int .i64 y))/\aL (sb::SL) w (w.setCell ⟨gr,i,none⟩ (.int .i64 y)):=by
 obtain⟨h1,h2,h3,T4,h4⟩:=h;have hr:=h2.read;obtain⟨AL,cl,rfl,nR,-,-⟩:=hr
 have Kt:∃gl,AL=some ⟨gl,0,none⟩:=by
  obtain⟨vs',Ss,r1,-⟩:=h2;rcases dL r1 with⟨e,h0⟩ | ⟨g,c,e,-⟩
  ·have:=ai hv;omega
  ·cases e;exact⟨g,rfl⟩
 obtain⟨gl,rfl⟩:=Kt;obtain⟨u,T,c1,hu,hT,oS⟩:=aM.aaH dF h2 hv;obtain⟨GK,TD⟩:=hu;rcases GK.cases with⟨rfl,h0⟩ | ⟨gr,cr,rfl,uy,xx⟩
 ·subst h0;simp at hi
 ·have xq:gr∈T:=by rw[TD];simp[Value.ownBlock]
  have qG:=hT gr xq;have WD:=h3 gr qG;refine⟨gl,cl,gr,cr,rfl,c1,GK.cell hi,GK.free i,qG,fun y=>?_⟩
  have eK:aL T w (w.setCell ⟨gr,i,none⟩ (.int .i64 y)):=(aL.refl _ _).setCell (.inl xq) _
  have hn:=oS (row.set i y) _ ⟨by have:=GK.set (k:=i) y;simpa using this,TD⟩ eK
  refine⟨⟨h1.set (by show gr≠sb;omega),?_,h3,T4,cd.put fm h4 (by show gr<sb+1;omega) _⟩,(Below.refl _ _).setCell (show B<=gr from(bA.range h2 gr qG).1) _,(aL.refl _ _).setCell (.inl (List.mem_cons_of_mem _ qG)) _⟩
  unfold bH;simp only[Int.toNat_natCast];rw[ag hv];have e:(l.set v (row.set i y)).length=l.length:=List.length_set;exact hn
theorem dZ {W:World} {sb:Nat} {p:aN} {pa pb va vb vc ul uf:Value} {st:Int} (h:dp W sb (lO p pa pb va vb vc ul uf st)):W.cell? ⟨sb,0,none⟩=some (.int .i64 p.labels)/\W.cell? ⟨sb,1,none⟩=some (.int .i64 p.degree)/\W.cell? ⟨sb,2,none⟩=some (pa)/\W.cell? ⟨sb,3,none⟩=some (pb)/\W.cell? ⟨sb,4,none⟩=some (va)/\W.cell? ⟨sb,5,none⟩=some (vb)/\W.cell? ⟨sb,6,none⟩=some (vc)/\W.cell? ⟨sb,7,none⟩=some (ul)/\W.cell? ⟨sb,8,none⟩=some (uf)/\W.cell? ⟨sb,9,none⟩=some (.int .i64 st):=
 ⟨(h.cell 0 _ rfl).1,(h.cell 1 _ rfl).1,(h.cell 2 _ rfl).1,(h.cell 3 _ rfl).1,(h.cell 4 _ rfl).1,(h.cell 5 _ rfl).1,(h.cell 6 _ rfl).1,(h.cell 7 _ rfl).1,(h.cell 8 _ rfl).1,(h.cell 9 _ rfl).1⟩
def DL (hi:Int) (l:List (List Int)):Prop:=∀(v:Nat) (row:List Int) (i:Nat) (x:Int),l[v]?=some row->row[i]?=some x -> -1<=x/\x<=hi
theorem lP {l:List (List Int)} {v i:Nat} {row:List Int} {y:Int} (hv:l[v]?=some row) (hi:i<row.length):
  (bH l ((v:Int),(i:Int)) y)[v]?=some (row.set i y)/\∀k,k≠v->(bH l ((v:Int),(i:Int)) y)[k]?=l[k]?:=by
 unfold bH;simp only[Int.toNat_natCast];rw[ag hv];exact⟨List.getElem?_set_self (ai hv),fun k hk=>List.getElem?_set_ne (Ne.symm hk)⟩
theorem td {l:List (List Int)} {v i:Nat} {row:List Int} {y hi:Int} (h:DL hi l) (hv:l[v]?=some row) (qh:i<row.length) (hy : -1<=y/\y<=hi):DL hi (bH l ((v:Int),(i:Int)) y):=by
 obtain⟨p1,p2⟩:=lP (y:=y) hv qh;intro k r j x hk hj
 by_cases Ku:k=v
 ·subst Ku;rw[p1]at hk;cases hk
  by_cases kK:j=i
  ·subst kK;rw[List.getElem?_set_self qh]at hj
   cases hj;exact hy
  ·rw[List.getElem?_set_ne (Ne.symm kK)]at hj;exact h k row j x hv hj
 ·rw[p2 k Ku]at hk;exact h k r j x hk hj
theorem AB (l:List (List Int)) (e:Int×Int) (y:Int):(bH l e y).length=l.length:=by unfold bH;simp
theorem o7 {bX:List (List (Int×Int))} {l:List (List Int)} {v i:Nat} {row:List Int} {y:Int} (h:ju bX l) (hv:l[v]?=some row) (qh:i<row.length):ju bX (bH l ((v:Int),(i:Int)) y):=by
 obtain⟨p1,p2⟩:=lP (y:=y) hv qh
 refine⟨by rw[AB];exact h.1,fun k es r ba hk=>?_⟩
 by_cases Ku:k=v
 ·subst Ku;rw[p1]at hk;cases hk;rw[List.length_set];exact h.2 k es row ba hv
 ·rw[p2 k Ku]at hk;exact h.2 k es r ba hk
def xH (bX:List (List (Int×Int))) (al:List (Int×Int)):Prop:=∀(k:Nat) (e:Int×Int),al[k]?=some e->∃(v i:Nat) (es:List (Int×Int)),e=((v:Int),(i:Int))/\bX[v]?=some es/\i<es.length
theorem yJ {l:List (List Int)} {k:Nat} {e:Int×Int} (h:e∈gj l k):∃(v i:Nat) (row:List Int),e=((v:Int),(i:Int))/\v<k/\l.getD v []=row/\i<row.length:=by
 unfold gj at h;rw[List.mem_flatMap]at h;obtain⟨v,hv,he⟩:=h;unfold qK at he;rw[List.mem_map]at he;obtain⟨i,hi,rfl⟩:=he;rw[List.mem_filter]at hi;exact⟨v,i,_,rfl,List.mem_range.1 hv,rfl,List.mem_range.1 hi.1⟩
theorem AC {bX:List (List (Int×Int))} {l:List (List Int)} (h:ju bX l):xH bX (fZ l):=by
 intro k e hk;obtain⟨v,i,row,rfl,hv,hr,hi⟩:=yJ (List.mem_of_getElem? hk);obtain⟨cK,bT⟩:=ax l v hv;rw[ag bT]at hr;subst hr
 obtain⟨es,ba⟩:=ax bX v (by rw[<- h.1];exact hv)
 exact⟨v,i,es,rfl,ba,by rw[<- h.2 v es cK ba bT];exact hi⟩
def yK (w:World) (b i:Nat):Int:=match w.cell? ⟨b,i,none⟩with | some (.int .i64 z)=>z | _=>0
theorem nW {w:World} {b i:Nat} {z:Int} (h:w.cell? ⟨b,i,none⟩=some (.int .i64 z)):yK w b i=z:=by unfold yK;rw[h]
theorem AD {w:World} {base:Nat} {uf:Value} {al:List (Int×Int)} {T:List Nat} (h:co w base uf al T):∃A c,uf=.slice A al.length c/\al.length<=c/\c<=maxLen/\∀(k:Nat) (e:Int×Int),al[k]?=some e->∃b off,A=some ⟨b,off,none⟩/\w.cell? ⟨b,off+k*2,none⟩=some (.int .i64 e.1)/\w.cell? ⟨b,off+k*2+1,none⟩=some (.int .i64 e.2):=by
 obtain⟨A,c,rfl,h1,h2,h3⟩:=h.read;exact⟨A,c,rfl,h1,h2,h3⟩
theorem eD.aaw {w:World} {sb:Nat} {vs:Array Value} {l:List (List Int)} {al:List (Int×Int)} {uf:Value} {SL:List Nat} {B gl gr k cl m cr:Nat} (h:eD w sb vs l al (.slice (some ⟨gl,0,none⟩) k cl) uf SL B) {v i:Nat} {row:List Int} {x:Int} (hv:l[v]?=some row) (hi:row[i]?=some x)
  (hc:w.cell? ⟨gl,v,none⟩=some (.slice (some ⟨gr,0,none⟩) m cr)):w.cell? ⟨gr,i,none⟩=some (.int .i64 x)/\w.frozen? ⟨gr,i,none⟩=false/\gr∈SL /\
   ∀y,eD (w.setCell ⟨gr,i,none⟩ (.int .i64 y)) sb vs (bH l ((v:Int),(i:Int)) y) al (.slice (some ⟨gl,0,none⟩) k cl) uf SL B/\Below B w (w.setCell ⟨gr,i,none⟩ (.int .i64 y))/\aL (sb::SL) w (w.setCell ⟨gr,i,none⟩ (.int .i64 y)):=by
 obtain⟨gl',cl',gr',cr',e,h1,h2,h3,h4,h5⟩:=h.label hv hi;simp only[Value.slice.injEq,Option.some.injEq,Addr.mk.injEq,and_true]at e;obtain⟨rfl,-,-⟩:=e;rw[h1]at hc;simp only[Option.some.injEq,Value.slice.injEq,Addr.mk.injEq,and_true]at hc;obtain⟨rfl,-,-⟩:=hc;exact⟨h2,h3,h4,h5⟩
section
variable (p : aN) (ends : List (List (Int × Int))) (al : List (Int × Int)) (most : Int) (F : Nat) {l : List (List Int)} {q v i : Nat} {st : Int} {row : List Int} {x : Int}
theorem AF (hv:l[v]?=some row) (hi:row[i]?=some x):bj l ((v:Int),(i:Int))=x:=by
 unfold bj;simp only[Int.toNat_natCast];rw[ag hv,ag hi]
theorem AH {σ:Type} (nx:σ->List (List Int)->Bool×σ) (s:σ) (hq:al[q]?=some ((v:Int),(i:Int))) (hv:l[v]?=some row) (hi:row[i]?=some x) (fY:st<=most) (hf:aP most q st<=F):
  cD nx p ends al most F s l q st=(if x=p.labels-1 then cD nx p ends al most F s (bH l ((v:Int),(i:Int)) (-1)) ((q:Int)-1) st
   else if st=most then (s,3,l,(q:Int),st)
   else if (dk p (row.set i (x+1))&&fa p ends (bH l ((v:Int),(i:Int)) (x+1)) ((v:Int),(i:Int)))=true then cD nx p ends al most F s (bH l ((v:Int),(i:Int)) (x+1)) ((q:Int)+1) (st+1)
   else cD nx p ends al most F s (bH l ((v:Int),(i:Int)) (x+1)) q (st+1)):=by
 have Kv:=ai hq;rw[je nx p ends al most F s l q st fY (by omega) hf,if_neg (by omega),if_neg (by omega)];simp only[Int.toNat_natCast,ag hq,AF hv hi];rw[ag (lP (y:=x+1) hv (ai hi)).1]
end
def AJ {σ:Type} (nx:σ->List (List Int)->Bool×σ) (p:aN) (ends:List (List (Int×Int))) (al:List (Int×Int)) (most:Int) (s:σ) (l:List (List Int)):σ×JY:=
 if dn p ends l=true then cD nx p ends al most (aP most 0 0) s l 0 0 else (s,2,l,0,0)
theorem DM {σ:Type} (nx:σ->List (List Int)->Bool×σ) (J:σ->World->Prop) (iq:FuncId) (fj:Array Value) (p:aN) (n:am) (pa pb va vb vc ul uf:Value) (sb:Nat) (SL:List Nat) (B:Nat) (al:List (Int×Int)) (most:Int) (s0:σ) (l0:List (List Int)) (w:World)
  (ew:∀args w,(callFunc iq args).run Tryz.prog w=.ok (.enter iq args) w) (Jb:B<=sb)
  (Ns:∀X,Below B w X->el X pa pb p) (Kw:∀X,Below B w X->aI X va vb vc n) (TF:∀s W W',J s W->aL (sb::SL) W W'->J s W')
  (nR:∀s l st W,Below B w W->eD W sb (lO p pa pb va vb vc ul uf st) l al ul uf SL B->J s W->Calls Tryz.prog iq fj W fun e W'=>e=.returned (.bool (nx s l).1)/\J (nx s l).2 W'/\eD W' sb (lO p pa pb va vb vc ul uf st) l al ul uf SL B/\Below B W W')
  (hS:eD w sb (lO p pa pb va vb vc ul uf 0) l0 al ul uf SL B) (hJ:J s0 w) (hn:aw n=true) (fY:eW p.aad) (rF:p.aad.length<=1048576) (jC:1<=p.labels/\p.labels<=8) (gb:ju n.ends l0) (dY:DL (p.labels-1) l0) (TG:xH n.ends al) (GL:al.length<=1000) (zv:0<=most/\most<=200000)
  (Ay:∀(v:Nat) (es:List (Int×Int)),n.ends[v]?=some es->es.length<=6):
  Calls Tryz.prog 54 #[.pointer (some ⟨sb,0,none⟩),.int .i64 most,.func (.func iq) #[] fj] w fun e w'=>
   e=.returned (.int .i64 (AJ nx p n.ends al most s0 l0).2.1)/\eD w' sb (lO p pa pb va vb vc ul uf (AJ nx p n.ends al most s0 l0).2.2.2.2) (AJ nx p n.ends al most s0 l0).2.2.1 al ul uf SL B/\J (AJ nx p n.ends al most s0 l0).1 w'/\Below B w w':=by
 have yF:B<=w.heap.size:=Nat.le_trans Jb (Nat.le_of_lt hS.1.lt);obtain⟨A5,c5,GM,-⟩:=id hS.2.1.read;obtain⟨TE,TH⟩:=hS.2.2.2;obtain⟨A6,c6,WE,-,-,-⟩:=AD TH;obtain⟨A1,c1,WF,-⟩:=id (Ns w (Below.refl _ _)).1;obtain⟨A2,c2,dy,-⟩:=id (Ns w (Below.refl _ _)).2;obtain⟨A3,c3,WG,-⟩:=id (Kw w (Below.refl _ _)).1;obtain⟨A4,c4,WH,-⟩:=id (Kw w (Below.refl _ _)).2.1;obtain⟨A7,c7,WI,-⟩:=id (Kw w (Below.refl _ _)).2.2;subst GM WE WF dy WG WH WI;have hwl:IntKind.i64.wrap (p.labels-1)=p.labels-1:=aR _ (by omega) (by omega);have eg:=ew;have ma:=zh Ns;have qi:=zh Kw;have Jc:=zh TF;have WJ:=zh nR;have HS:=zh hS;have HJ:=zh hJ;have yH:=zh fY;have rG:=zh gb;have vw:=zh dY;have Nt:=zh TG;have Nq:=zh Ay
 have Fq:Hid (∀(v:Nat) (row:List Int),l0[v]?=some row->row.length<=1000000):=fun v row hv=>by
  obtain⟨es,ba⟩:=ax n.ends v (by rw[<- gb.1];exact ai hv)
  have:=gb.2 v es row ba hv
  have:=Ay v es ba
  omega
 obtain⟨k0,k1,k2,k3,k4,k5,k6,k7,-,-⟩:=dZ hS.1
 replace k0:=ad k0
 replace k1:=ad k1
 replace k2:=ad k2
 replace k3:=ad k3
 replace k4:=ad k4
 replace k5:=ad k5
 replace k6:=ad k6
 replace k7:=ad k7
 clear Ns Kw TF nR hS hJ fY gb dY TG Ay TH ew;obtain⟨WK,Fu⟩:∃b,dn p n.ends l0=b:=⟨_,rfl⟩
 have Pv:=zh Fu;clear Fu;obtain⟨R,hR⟩:∃R,AJ nx p n.ends al most s0 l0=R:=⟨_,rfl⟩
 have HR:=zh hR;rw[hR];clear hR
 go_enter Tryz.func54,Tryz.ntmps54
 go_upto_region 1 with(fail);refine aq 14 (aa w) (by kernel_rfl) (by kernel_rfl) (by simp) (ah (ab _)) ?_;simp only[zT]
 iterate 12 (refine cY rfl ?_;simp only[zA])
 refine ej ?_ rfl ?_ ?_;rotate_left;(intro W hW;unfold bN;go_simp;(with_reducible refine(yI _ _ _ _ _ _ p n l0 W (ma.out W (hW.below.mono yF)) (qi.out W (hW.below.mono yF)) (HS.out.aao hW.below).rows hn rG.out yH.out rF Fq.out).mono ?_);rintro e W' ⟨rfl,aZ⟩;first | (refine⟨?_,aa.trans hW aZ⟩;with_reducible rfl) | (subst aZ;refine⟨?_,hW⟩;with_reducible rfl))
 simp only[zA]
 refine cY rfl ?_;simp only[zA]
 intro W hW;have HW:=zh hW;clear hW k0 k1 k2 k3 k4 k5 k6 k7;rw[Pv.out];cases WK
 ·have Pw:Hid (R=(s0,2,l0,0,0)):=by show _=_;rw[<- HR.out];unfold AJ;rw[if_neg (by rw[Pv.out];simp)]
  go_wp2;go_ret;rw[Pw.out];exact⟨rfl,HS.out.aao HW.out.below,Jc.out _ _ _ HJ.out (aL.aai HW.out.below),HW.out.below.mono yF⟩
 ·obtain⟨F,hF⟩:∃F,F=aP most 0 0:=⟨_,rfl⟩
  have Pw:Hid (R=cD nx p n.ends al most F s0 l0 0 0):=by show _=_;rw[<- HR.out,hF];unfold AJ;rw[if_pos Pv.out]
  have WL:Hid (aP most 0 0<=F):=by show _<=_;rw[hF];exact Nat.le_refl _
  clear hF;obtain⟨gU,TI⟩:∃z,z=sb:=⟨_,rfl⟩
  have HgU:=zh TI;clear TI;go_wp2
  go_loopw [7] (fun a wr=>∃(s:σ) (l:List (List Int)) (bv st:Int),a=.int .i64 bv /\ -1<=bv/\bv<=al.length/\0<=st/\st<=most/\(R=cD nx p n.ends al most F s l bv st/\aP most bv st<=F)/\(eD wr sb (lO p (.slice A1 p.nodes.length c1) (.slice A2 p.aad.length c2) (.slice A3 n.ends.length c3) (.slice A4 n.ids.length c4) (.slice A7 n.aaa.length c7) (.slice A5 l0.length c5) (.slice A6 al.length c6) st) l al (.slice A5 l0.length c5) (.slice A6 al.length c6) SL B/\J s wr)/\(ju n.ends l/\DL (p.labels-1) l)/\Below B w wr) (fun a wr=>aP most (intOf a) (yK wr sb 9))
  case atStart=>exact⟨s0,l0,0,0,rfl,by omega,by omega,by omega,zv.1,⟨Pw.out,WL.out⟩,⟨HS.out.aao HW.out.below,Jc.out _ _ _ HJ.out (aL.aai HW.out.below)⟩,⟨rG.out,vw.out⟩,HW.out.below.mono yF⟩
  case round=>
   obtain⟨s,l,bv,st,rfl,AK,C4,bu,dS,xy,me,hinv,hb⟩:=hrel;have p9:=zh xy;have GN:=zh me;have vx:=zh hinv;have Hb:=zh hb;obtain⟨d0,d1,d2,d3,d4,d5,d6,d7,d8,d9⟩:=dZ me.1.1;have TJ:Hid (yK wr sb 9=st):=nW d9;have WM:Hid (st=yK wr sb 9):=TJ.out.symm
   have Kx:Hid (l0.length=l.length):=by show _=_;have h1:=me.1.rows;obtain⟨_,_,e,-⟩:=h1;simp only[Value.slice.injEq]at e;exact e.2.1
   clear xy me hinv hb d0 d1 d2 d3 d4 d5 d6 d7 d9;have TM:Hid (aP most bv st<=F):=p9.out.2;obtain⟨M0,Px⟩:∃z,aP most (intOf (Value.int .i64 bv)) (yK wr sb 9)=z:=⟨_,rfl⟩
   have Py:=zh Px
   have Nu:Hid (aP most bv st=M0):=by show _=_;rw[<- Px,TJ.out];rfl
   clear Px
   go_upto_if 30 with(fail)
   go_cut [7]from 24 to 121 (fun a wx=>∃(s1:σ) (iO:Int),a=.int .i64 iO /\ -1<=iO/\iO<al.length/\aP most iO st<=M0/\R=cD nx p n.ends al most F s1 l iO st/\(eD wx sb (lO p (.slice A1 p.nodes.length c1) (.slice A2 p.aad.length c2) (.slice A3 n.ends.length c3) (.slice A4 n.ids.length c4) (.slice A7 n.aaa.length c7) (.slice A5 l0.length c5) (.slice A6 al.length c6) st) l al (.slice A5 l0.length c5) (.slice A6 al.length c6) SL B/\J s1 wx)/\Below B w wx)
   case first=>
    by_cases dO:bv=al.length
    ·have jI:(bv==(al.length:Int))=true:=by simpa using dO
     have ib:=zh (je nx p n.ends al most F s l bv st dS AK p9.out.2);have iM:=zh (WJ.out s l st wr Hb.out GN.out.1 GN.out.2);obtain⟨bo,nd⟩:∃b,(nx s l).1=b:=⟨_,rfl⟩
     have zw:=zh nd;obtain⟨s1,Ky⟩:∃x,(nx s l).2=x:=⟨_,rfl⟩
     have iu:=zh Ky
     have Fv:Hid (∀b,(nx s l).1=b->R=if b=true then cD nx p n.ends al most F s1 l (bv-1) st else (s1,1,l,bv,st)):=by
      intro b hb;rw[p9.out.1,ib.out,if_neg (by omega),if_pos dO,hb,iu.out]
     obtain⟨iO,AS⟩:∃z,bv-1=z:=⟨_,rfl⟩
     have wp1:IntKind.i64.wrap (bv-1)=iO:=by rw[aR _ (by omega) (by omega)];exact AS
     have lQ : -1<=iO:=by omega
     have xF:iO<al.length:=by omega
     have Kz:Hid (aP most iO st<=M0):=by show _<=_;rw[<- Nu.out];unfold aP;omega
     have KA:Hid (aP most iO st<=F):=by show _<=_;have:=Kz.out;rw[<- Nu.out]at this;exact Nat.le_trans this TM.out
     have Nv:=zh AS;clear nd Ky dO AS AK C4 ib;go_wp2_with fail;refine iM.out.mono ?_;rw[zw.out,iu.out];rintro e w1 ⟨rfl,TO,jA,aJ⟩;have qW:=zh (And.intro jA TO);have fL:=zh (Hb.out.trans aJ);clear TO jA aJ;cases bo
     ·have GO:Hid (R=(s1,1,l,bv,st)):=by show _=_;rw[Fv.out false zw.out,if_neg (by simp)]
      go_wp2;go_ret;rw[GO.out];exact⟨rfl,qW.out.1,qW.out.2,fL.out⟩
     have DN:Hid (R=cD nx p n.ends al most F s1 l iO st):=by show _=_;rw[Fv.out true zw.out,if_pos rfl,Nv.out]
     go_wp2;go_meet
     case rel=>exact⟨s1,iO,rfl,lQ,xF,Kz.out,DN.out,qW.out,fL.out⟩
    ·have jI:(bv==(al.length:Int))=false:=by simpa using dO
     have xF:bv<al.length:=by omega
     clear dO;go_wp2;go_meet
     case rel=>exact⟨s,bv,rfl,AK,xF,by rw[<- Nu.out];exact Nat.le_refl _,p9.out.1,GN.out,Hb.out⟩
   case rest=>
    obtain⟨s1,iO,rfl,lQ,xF,sd,si,tb,aJ⟩:=hcut;obtain⟨w1,pS⟩:∃z,z=wc:=⟨_,rfl⟩
    have Kz:Hid (aP most iO st<=M0):=sd
    have KA:Hid (aP most iO st<=F):=by show _<=_;rw[<- Nu.out]at sd;exact Nat.le_trans sd TM.out
    have DN:=zh si;have qW:=zh tb;have fL:=zh aJ;clear sd si tb aJ pS w1 d8 AK C4
    by_cases lz:iO<0
    ·have GO:Hid (R=(s1,2,l,iO,st)):=by show _=_;rw[DN.out,je nx p n.ends al most F s1 l iO st dS lQ KA.out,if_pos lz]
     go_wp2;go_ret;rw[GO.out];exact⟨rfl,qW.out.1,qW.out.2,fL.out⟩
    ·obtain⟨q,rfl⟩:=Int.eq_ofNat_of_zero_le (show 0<=iO by omega)
     have Kv:q<al.length:=by omega
     obtain⟨e,he⟩:=ax al q Kv;obtain⟨v,i,es,rfl,ba,Ty⟩:=Nt.out q e he
     have pR:v<l.length:=by rw[vx.out.1.1];exact ai ba
     obtain⟨row,bT⟩:=ax l v pR;have I8:=vx.out.1.2 v es row ba bT;have Ay:=Nq.out v es ba;have Jd:i<row.length:=by omega
     have Ks:row.length<=6:=by omega
     obtain⟨x,hx⟩:=ax row i Jd;have C_:=vx.out.2 v row i x bT hx;have qX:=zh (AH p n.ends al most F nx s1 he bT hx dS KA.out);obtain⟨gl,cl,gr,cr,e5,f1,f2,f3,f4,-⟩:=qW.out.1.label bT hx
     injection e5 with ea eb' ec
     subst ea ec;obtain⟨TE1,KB⟩:=qW.out.1.2.2.2;obtain⟨A6',c6',e6,-,-,Fw⟩:=AD KB;obtain⟨b6,o6,e7,t1,t2⟩:=Fw q _ he
     injection e6 with ea6 eb6 ec6
     subst ec6;rw[<- ea6]at e7;subst e7;obtain⟨d0,d1,d2,d3,d4,d5,d6,d7,d8,d9⟩:=dZ qW.out.1.1
     have Nc:v<l0.length:=by rw[Kx.out];exact pR
     have qI:sb<wc.heap.size:=qW.out.1.1.lt;have Pz:gr<sb:=qW.out.1.2.2.1 gr f4;have ir:=zh bT;have Hx:=zh hx;have kB:=zh ba;clear he ba Ty bT hx I8 ea6 eb6 eb' Fw KB f3 pR d1 d2 d3 d4 d5 d6 lz lQ xF;go_upto_region 11 with(fail);obtain⟨eb,nX⟩:∃eb,eb=wc.heap.size:=⟨_,rfl⟩
     obtain⟨w2,eY⟩:∃w2,w2=wc.alloc (.cells #[.int .i64 v,.int .i64 i] 36):=⟨_,rfl⟩
     have vy:aa wc w2:=by rw[eY];exact ae _ (ab _)
     have HE:Hid (dp w2 eb #[.int .i64 v,.int .i64 i]):=by rw[nX,eY];exact dp.new _ _ _
     have WN:sb<eb:=by rw[nX];exact qI
     rw[<- eY,<- nX];have g0:∀W,aa w2 W->W.cell? ⟨eb,0,none⟩=some (.int .i64 v):=ad (HE.out.cell 0 _ rfl).1;have g1:∀W,aa w2 W->W.cell? ⟨eb,1,none⟩=some (.int .i64 i):=ad (HE.out.cell 1 _ rfl).1;have l7:=ak (ad d7) vy;have l1:=ak (ad f1) vy;have l2:=ak (ad f2) vy;have TP:=ak (ad d0) vy;have l9:=ak (ad d9) vy;have KC:=zh vy;clear eY nX vy d0 d7 d8 d9 f1 f2 t1 t2 qI;refine aq 12 (aa w2) (by kernel_rfl) (by kernel_rfl) (by simp) (ah (ab _)) ?_;simp only[zT]
     iterate 12 (refine cY rfl ?_;simp only[zA])
     intro W3 vk;have m2:=ak l2 vk;have Je:=ak TP vk;have Nw:=zh (ak l1 vk);have KD:=zh (ak l9 vk);have C9:=zh vk;have WO:=zh Je;clear g0 g1 l7 l1 l2 TP l9 vk;go_upto_region 12 with(fail)
     by_cases gC:x=p.labels-1
     ·have dx:(x==p.labels-1)=true:=by simpa using gC
      have pU:=zh gC;clear gC;refine aq 10 (aa W3) (by kernel_rfl) (by kernel_rfl) (by simp) (ah (ab _)) ?_;simp only[zT]
      iterate 10 (refine cY rfl ?_;simp only[zA])
      intro W4 te;have Da:=zh (KC.out.after (C9.out.after te));obtain⟨y1,y2,y3,y4⟩:=(qW.out.1.aao Da.out.below).aaw ir.out Hx.out (Nw.out W4 te);obtain⟨n1,n2,n3⟩:=y4 (-1);have PC:=zh n1;have sk:=zh (fL.out.trans ((Da.out.below.mono (Nat.le_trans Jb (Nat.le_of_lt qW.out.1.1.lt))).trans n2));have Nx:=zh (Jc.out _ _ _ qW.out.2 ((aL.aai Da.out.below).trans n3));clear y4 n1 n2 n3 te m2 Je dx
      have ng:Hid (R=cD nx p n.ends al most F s1 (bH l ((v:Int),(i:Int)) (-1)) ((q:Int)-1) st):=by show _=_;rw[DN.out,qX.out,if_pos pU.out]
      have wq:IntKind.i64.wrap ((q:Int)-1)=(q:Int)-1:=aR _ (by omega) (by omega)
      have Fx:Hid (aP most ((q:Int)-1) st<M0/\aP most ((q:Int)-1) st<=F):=by have:=Kz.out;have:=KA.out;unfold aP at *;exact⟨by omega,by omega⟩
      by_cases Ny:(q:Int)-1<0
      ·have GO:Hid (R=(s1,2,bH l ((v:Int),(i:Int)) (-1),(q:Int)-1,st)):=by show _=_;rw[ng.out,je nx p n.ends al most F s1 _ ((q:Int)-1) st dS (by omega) Fx.out.2,if_pos Ny]
       go_wp2;go_ret;rw[GO.out];exact⟨rfl,PC.out,Nx.out,sk.out⟩
      ·go_wp2;go_roundw
       case rel=>exact⟨s1,_,(q:Int)-1,st,by go_num,by omega,by omega,bu,dS,⟨ng.out,Fx.out.2⟩,⟨PC.out,Nx.out⟩,⟨o7 vx.out.1 ir.out Jd,td vx.out.2 ir.out Jd ⟨by omega,by omega⟩⟩,sk.out⟩
       case measure=>
        rw[Py.out,nW (dZ PC.out.1).2.2.2.2.2.2.2.2.2];exact Fx.out.1
     ·have dx:(x==p.labels-1)=false:=by simpa using gC
      have pU:=zh gC;clear gC;refine aq 10 (aa W3) (by kernel_rfl) (by kernel_rfl) (by simp) (ah (ab _)) ?_;simp only[zT]
      iterate 10 (refine cY rfl ?_;simp only[zA])
      intro W4 te;have Da:=zh (KC.out.after (C9.out.after te));obtain⟨y1,y2,y3,y4⟩:=(qW.out.1.aao Da.out.below).aaw ir.out Hx.out (Nw.out W4 te);have y9:=KD.out W4 te;have PD:=zh (qW.out.1.aao Da.out.below);have WP:=zh (HE.out.below (C9.out.after te).below HE.out.lt);clear te m2 Je dx
      by_cases Jf:st=most
      ·have GP:(st==most)=true:=by simpa using Jf
       have GO:Hid (R=(s1,3,l,(q:Int),st)):=by show _=_;rw[DN.out,qX.out,if_neg pU.out,if_pos Jf]
       clear Jf y1 y2 y3 y4;go_wp2;go_ret;rw[GO.out];exact⟨rfl,PD.out,Jc.out _ _ _ qW.out.2 (aL.aai Da.out.below),fL.out.trans (Da.out.below.mono (Nat.le_trans Jb (Nat.le_of_lt qW.out.1.1.lt)))⟩
      ·have GP:(st==most)=false:=by simpa using Jf
       have Nz:=zh Jf;obtain⟨n1,n2,n3⟩:=y4 (x+1);obtain⟨m1,m2,m3⟩:=n1.field Jb 9 (.int .i64 (st+1));have wx:IntKind.i64.wrap (x+1)=x+1:=aR _ (by omega) (by omega);have ws:IntKind.i64.wrap (st+1)=st+1:=aR _ (by omega) (by omega);obtain⟨W5,C5⟩:∃W5,W5=W4.setCell ⟨gr,i,none⟩ (.int .i64 (x+1)):=⟨_,rfl⟩
       rw[<- C5]at n1 n2 n3 m1 m2 m3;obtain⟨W6,NA⟩:∃W6,W6=W5.setCell ⟨sb,9,none⟩ (.int .i64 (st+1)):=⟨_,rfl⟩
       rw[<- NA]at m1 m2 m3
       have TQ:Hid (dp W6 eb #[.int .i64 v,.int .i64 i]):=by
        rw[NA,C5];exact(WP.out.set (p:=⟨gr,i,none⟩) (show gr≠eb by omega)).set (p:=⟨sb,9,none⟩) (show sb≠eb by omega)
       have z9:=(n1.1.cell 9 (.int .i64 st) rfl).1;have zf:=(n1.1.cell 9 (.int .i64 st) rfl).2;have GQ:W4.cell? ⟨sb,9,none⟩=some (.int .i64 st):=y9;obtain⟨lp,Jg⟩:∃lp,lp=bH l ((v:Int),(i:Int)) (x+1):=⟨_,rfl⟩
       rw[<- Jg]at m1 n1;have Hlp:=zh Jg;have KE:Hid (eD W6 sb (lO p (.slice A1 p.nodes.length c1) (.slice A2 p.aad.length c2) (.slice A3 n.ends.length c3) (.slice A4 n.ids.length c4) (.slice A7 n.aaa.length c7) (.slice (some ⟨gl,0,none⟩) l0.length c5) (.slice (some ⟨b6,o6,none⟩) al.length c6) (st+1)) lp al (.slice (some ⟨gl,0,none⟩) l0.length c5) (.slice (some ⟨b6,o6,none⟩) al.length c6) SL B):=m1;have Jh:=zh (fL.out.trans ((Da.out.below.mono (Nat.le_trans Jb (Nat.le_of_lt qW.out.1.1.lt))).trans (n2.trans m2)));have WQ:=zh (Jc.out _ _ _ qW.out.2 ((aL.aai Da.out.below).trans (n3.trans m3)))
       have PG:Hid (lp[v]?=some (row.set i (x+1))):=by show _=_;rw[Jg];exact(lP ir.out Jd).1
       have PH:Hid (ju n.ends lp/\DL (p.labels-1) lp):=by rw[Jg];exact⟨o7 vx.out.1 ir.out Jd,td vx.out.2 ir.out Jd ⟨by omega,by have:=pU.out;omega⟩⟩
       obtain⟨rp,PI⟩:∃rp,rp=row.set i (x+1):=⟨_,rfl⟩
       have WR:rp.length=row.length:=by rw[PI,List.length_set]
       rw[<- PI]at PG qX;rw[<- Jg]at qX;have I0:=zh C5;have WS:=zh NA;clear Jg PI n1 n2 n3 m1 m2 m3 y3 y4 Jf C5 NA;go_upto_region 20 with(fail);rw[<- I0.out];clear y1 y2 y9 GQ;go_upto_region 21 with(fail);rw[<- WS.out];clear z9 zf;obtain⟨d0,d1,d2,d3,d4,d5,d6,d7,d8,d9⟩:=dZ KE.out.1;have a0:=ad d0;have a1:=ad d1;have a2:=ad d2;have a3:=ad d3;have a4:=ad d4;have a5:=ad d5;have a6:=ad d6;have a7:=ad d7;have g0:∀W,aa W6 W->W.cell? ⟨eb,0,none⟩=some (.int .i64 v):=ad (TQ.out.cell 0 _ rfl).1;have g1:∀W,aa W6 W->W.cell? ⟨eb,1,none⟩=some (.int .i64 i):=ad (TQ.out.cell 1 _ rfl).1;have NB:B<=W6.heap.size:=Nat.le_trans Jb (Nat.le_of_lt KE.out.1.lt);have PJ:i<rp.length:=by omega
       clear d0 d1 d2 d3 d4 d5 d6 d7 d8 d9;refine aq 30 (aa W6) (by kernel_rfl) (by kernel_rfl) (by simp) (ah (ab _)) ?_;simp only[zT]
       iterate 16 (refine cY rfl ?_;simp only[zA])
       refine ej ?_ rfl ?_ ?_;rotate_left;(intro W hW;unfold bN;go_simp;(with_reducible refine(iy _ _ _ _ _ _ p n lp v i rp W (ma.out W (Jh.out.trans (hW.below.mono NB))) (qi.out W (Jh.out.trans (hW.below.mono NB))) (KE.out.aao hW.below).rows hn PH.out.1 yH.out rF PG.out PJ).mono ?_);rintro e W' ⟨rfl,aZ⟩;first | (refine⟨?_,aa.trans hW aZ⟩;with_reducible rfl) | (subst aZ;refine⟨?_,hW⟩;with_reducible rfl))
       simp only[zA]
       refine cY rfl ?_;simp only[zA]
       iterate 10 (refine kA rfl rfl ?_;simp only[zA])
       refine ck (v:=?_) rfl rfl ?_ ?_;rotate_left;(intro hb;intro W hW;unfold bN;go_simp;(with_reducible refine(ix _ _ _ p lp v rp W (ma.out W (Jh.out.trans (hW.below.mono NB))) (KE.out.aao hW.below).rows PG.out (by omega)).mono ?_);rintro e W' ⟨rfl,aZ⟩;first | (refine⟨?_,aa.trans hW aZ⟩;with_reducible rfl) | (subst aZ;refine⟨?_,hW⟩;with_reducible rfl))
       simp only[zA]
       (first | refine eH rfl rfl ?_ | (refine cY rfl ?_));simp only[zA]
       intro W7 NC;have ND:=zh (KE.out.aao NC.below);have KF:=zh (Jh.out.trans (NC.below.mono NB));have TR:=zh (Jc.out _ _ _ WQ.out (aL.aai NC.below));clear a0 a1 a2 a3 a4 a5 a6 a7 g0 g1 NC
       have Fx:Hid ((aP most (q:Int) (st+1)<M0/\aP most (q:Int) (st+1)<=F)/\(aP most ((q:Int)+1) (st+1)<M0/\aP most ((q:Int)+1) (st+1)<=F)):=by have:=Kz.out;have:=KA.out;unfold aP at *;exact⟨⟨by omega,by omega⟩,⟨by omega,by omega⟩⟩
       have wq:IntKind.i64.wrap ((q:Int)+1)=(q:Int)+1:=aR _ (by omega) (by omega);cases hg:(fa p n.ends lp ((v:Int),(i:Int))&&dk p rp)
       ·have ng:Hid (R=cD nx p n.ends al most F s1 lp q (st+1)):=by show _=_;rw[DN.out,qX.out,if_neg pU.out,if_neg Nz.out,if_neg (by rw[Bool.and_comm,hg];simp)]
        go_wp2;go_roundw
        case rel=>exact⟨s1,lp,q,st+1,rfl,by omega,by omega,by omega,by have:=Nz.out;omega,⟨ng.out,Fx.out.1.2⟩,⟨ND.out,TR.out⟩,PH.out,KF.out⟩
        case measure=>
         rw[Py.out,nW (dZ ND.out.1).2.2.2.2.2.2.2.2.2];exact Fx.out.1.1
       ·have ng:Hid (R=cD nx p n.ends al most F s1 lp ((q:Int)+1) (st+1)):=by show _=_;rw[DN.out,qX.out,if_neg pU.out,if_neg Nz.out,if_pos (by rw[Bool.and_comm,hg])]
        go_wp2;go_roundw
        case rel=>exact⟨s1,lp,(q:Int)+1,st+1,by go_num,by omega,by omega,by omega,by have:=Nz.out;omega,⟨ng.out,Fx.out.2.2⟩,⟨ND.out,TR.out⟩,PH.out,KF.out⟩
        case measure=>
         rw[Py.out,nW (dZ ND.out.1).2.2.2.2.2.2.2.2.2]
         exact Fx.out.2.1
theorem vz {n:am}:ju n.ends (dc n):=by
 refine⟨qT n,fun v es row ba hr=>?_⟩
 rw[qU ba]at hr;cases hr;simp
theorem o8 {n:am} (h:aw n=true):n.ends.length<=40/\∀(v:Nat) (es:List (Int×Int)),n.ends[v]?=some es->es.length<=6:=by
 have h':=h;unfold aw at h;simp only[Bool.and_eq_true,List.all_eq_true,aC]at h;refine⟨by omega,fun v es ba=>?_⟩
 have:=h.2 v (List.mem_range.2 (ai ba))
 rw[ag ba]at this;unfold dP at this;simp only[Bool.and_eq_true,decide_eq_true_eq]at this;exact this.1
theorem yL {l:List (List Int)} (h1:l.length<=40) (h2:∀(v:Nat) (row:List Int),l[v]?=some row->row.length<=6):(fZ l).length<=1000:=by
 have:=tc h2 l.length
 unfold fZ;omega
theorem jj {p:aN} (h:eA p=true):(1<=p.labels/\p.labels<=8)/\eW p.aad:=by
 unfold eA at h;simp only[Bool.and_eq_true,aC]at h;exact⟨h.1,mT h.2.2.2⟩
theorem eD.mono {w:World} {sb:Nat} {vs:Array Value} {l:List (List Int)} {al:List (Int×Int)} {ul uf:Value} {SL:List Nat} {B B':Nat} (h:eD w sb vs l al ul uf SL B) (hB:B'<=B):eD w sb vs l al ul uf SL B':=by
 obtain⟨h1,h2,h3,h4⟩:=h;exact⟨h1,bA.mono h2 hB,h3,h4⟩
end Go.Proofs.YtgjggeapebbcbaaGreat
