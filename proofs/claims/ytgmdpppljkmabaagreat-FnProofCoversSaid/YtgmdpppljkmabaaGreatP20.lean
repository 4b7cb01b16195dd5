/- Parts of the proof: walks of functions and plain laws. -/
import Derived.Test.YtgmdpppljkmabaaGreatP0
import Derived.Test.YtgmdpppljkmabaaGreatP19
import Derived.Test.YtgmdpppljkmabaaGreatP6
import Derived.Test.YtgmdpppljkmabaaGreatP1
import Derived.Test.YtgmdpppljkmabaaGreatP11
set_option maxRecDepth 100000
set_option maxHeartbeats 16000000
namespace Go.Proofs.YtgmdpppljkmabaaGreat
open Go Go.RowKit
section
variable {P : Program} {ops : Array Oper}
theorem jq {Q:Exit->Act->World->Prop} {Dr:Nat} {a:Act} {w:World} (k:Nat) (cs:List Nat) (R:Nat->Value->World->Prop) (Inv:Nat->World->Prop) (Th:World->World->Prop) (hrel:∀j u W W',Th W W'->R j u W->R j u W')
  (hm:P.follows .mixedOrders=true) (hf:p7 ops k=true) (CJ:decide (k<=ops.size)=true) (hnd:cs.Nodup) (iy:WN ops k cs=true) (h0:Inv 0 w.drew)
  (fw:∀i o,i<k->ops[i]?=some o->∀V W q,Inv q W->(∀r,cs.findIdx? (fun x=>x==i)=some r->r=q)->(∀d∈bg o,R d (V d) W)->Region.wanted o (yielded ops (ap ops (List.range k) V a).tmps)=true/\nC P o (ap ops (List.range k) V a) W (fun u W'=>Inv (if (cs.findIdx? (fun x=>x==i)).isSome then q+1 else q) W'/\Th W W'/\R i u W'))
  (oZ:∀V W q,Inv q W->q<=cs.length->(∀i r,i<k->cs.findIdx? (fun x=>x==i)=some r->r<q)->(∀j,j<k->R j (V j) W)->wpList P ops Q (ops.toList.drop k) (ap ops (List.range k) V a) W):(Code.region Dr ops true).wp P Q a w:=by
 have ge:=nG hf;have CJ:=of_decide_eq_true CJ
 have frame:∀V,aL a ops V (fun j=>j<k) (ap ops (List.range k) V a):=fun V=>by
  have:=j3 (a:=a) ge.acB CJ V (List.range k) (fun _=>False) a (fun _ h=>h.elim) (fun j hj=>⟨List.mem_range.1 hj,id⟩) List.nodup_range (aL.start a V)
  exact this.same (fun j=>by simp)
 have WO:∀i o r,i<k->ops[i]?=some o->cs.findIdx? (fun x=>x==i)=some r->r=0\/∃j∈bg o,cs.findIdx? (fun x=>x==j)=some (r-1):=by
  intro i o r hi ho hr;have h1:=List.all_eq_true.1 iy i (List.mem_range.2 hi);rw[ho]at h1;simp only[hr]at h1;rw[Bool.or_eq_true]at h1;rcases h1 with h1 | h1
  ·left;simpa using h1
  ·cases hj:cs[r-1]? with
   | none=>rw[hj]at h1;cases h1
   | some j=>
    rw[hj]at h1
    right
    refine⟨j,by simpa using h1,?_⟩
    rw[List.findIdx?_eq_some_iff_getElem];have az:=al hj
    have hge:cs[r-1]=j:=by
     have:=List.getElem?_eq_getElem az
     rw[hj]at this;exact(Option.some.inj this).symm
    refine⟨az,by simpa using hge,fun m hm=>?_⟩
    intro hc;have Bb:cs[m]=j:=by simpa using hc
    have Of:=List.pairwise_iff_getElem.1 hnd m (r-1) (by omega) az hm;exact Of (Bb.trans hge.symm)
 let J:(Nat->Prop)->Act->World->Prop:=fun D a' W=>
  (∃q,Inv q W/\q<=cs.length/\(∀i r,cs.findIdx? (fun x=>x==i)=some r->(D i↔r<q))/\(∀j,D j->j<k)/\∃V,aL a ops V D a'/\∀j,D j->R j (V j) W) \/
  (∃m,k<=m/\m<=ops.size/\(∀j,j<ops.size->(D j↔j<m))/\wpList P ops Q (ops.toList.drop m) a' W)
 have tQ:∀D a' W,J D a' W->(∀j,j<k->D j)->∃m,k<=m/\m<=ops.size/\(∀j,j<ops.size->(D j↔j<m))/\wpList P ops Q (ops.toList.drop m) a' W:=by
  intro D a' W hJ hD;rcases hJ with⟨q,hq,BK,PR,lA,V,iZ,hV⟩ | hJ
  ·have e:a'=ap ops (List.range k) V a:=iZ.ext (frame V) (fun j _=>⟨lA j,hD j⟩)
   subst e;exact⟨k,Nat.le_refl _,CJ,fun j _=>⟨lA j,hD j⟩,oZ V W q hq BK (fun i r hi hr=>(PR i r hr).1 (hD i hi)) (fun j hj=>hV j (hD j hj))⟩
  ·exact hJ
 refine iP hm ge.back J (.inl ⟨0,h0,Nat.zero_le _,fun i r _=>⟨fun h=>h.elim,fun h=>by omega⟩,fun j hj=>hj.elim,fun _=>undef,aL.start a _,fun j hj=>hj.elim⟩) ?_ ?_
 ·intro D a' W i o hJ ho lB gD eG;have d_:i<ops.size:=(Array.getElem?_eq_some_iff.1 ho).1
  by_cases jo:i<k
  ·rcases hJ with⟨q,hq,BK,PR,lA,V,iZ,hV⟩ | ⟨m,h1,h2,h3,_⟩
   rotate_left
   ·exact absurd ((h3 i d_).2 (by omega)) lB
   have WP:∀r,cs.findIdx? (fun x=>x==i)=some r->r=q:=by
    intro r hr;have h1:¬r<q:=fun h=>lB ((PR i r hr).2 h)
    rcases WO i o r jo ho hr with h2 | ⟨j,hj,h2⟩
    ·omega
    ·have:=(PR j _ h2).1 (gD j hj)
     omega
   obtain⟨hw,j8⟩:=fw i o jo ho V W q hq WP (fun d hd=>hV d (gD d hd))
   obtain⟨he,tR⟩:=eX (ops:=ops) (a':=a') (A:=ap ops (List.range k) V a) (fun t ht=>iZ.agree (frame V) t (fun j oj hj ez hd=>by
    have ld:j<k:=hj.elim (fun h=>lA j h) id
    exact⟨gD j (ge.looks i o jo ho t ht j oj ld ez hd),ld⟩)) (fun cs b=>ge.acA i o cs b ho)
   have next:∀u W',Inv (if (cs.findIdx? (fun x=>x==i)).isSome then q+1 else q) W'->Th W W'->R i u W'->J (fun j=>D j\/j=i) (a'.put o.dst u) W':=by
    intro u W' hI aaR hRi;refine .inl ⟨_,hI,?_,fun i' r' IM=>?_,fun j hj=>hj.elim (lA j) (fun e=>by omega),CT V i u,?_,fun j hj=>?_⟩
    ·cases hr:cs.findIdx? (fun x=>x==i) with
     | none=>simpa using BK
     | some r=>
      have:=WP r hr
      obtain⟨az,-,-⟩:=List.findIdx?_eq_some_iff_getElem.1 hr
      simp;omega
    ·cases hr:cs.findIdx? (fun x=>x==i) with
     | none=>
      simp only[Option.isSome_none,Bool.false_eq_true,if_false];constructor
      ·rintro(h | rfl)
       ·exact(PR i' r' IM).1 h
       ·rw[hr]at IM;cases IM
      ·exact fun h=>.inl ((PR i' r' IM).2 h)
     | some r=>
      have hrq:=WP r hr;simp only[Option.isSome_some,if_true];constructor
      ·rintro(h | rfl)
       ·have:=(PR i' r' IM).1 h;omega
       ·rw[hr]at IM;cases IM;omega
      ·intro h
       by_cases h':r'<q
       ·exact .inl ((PR i' r' IM).2 h')
       ·have e:r'=r:=by omega
        subst e;exact .inr (xe IM hr)
    ·have:=(iZ.acy (v':=CT V i u) (fun j _ hj=>(px V u (fun e=>by subst e;exact lB hj)).symm)).put (i:=i) ho (fun j oj d hj ez hd gC=>by
      have:=ge.acB i o jo ho j oj (lA j hj) ez d hd gC
      subst this
      exact lB hj)
     rwa [eU]at this
    ·rcases hj with hj | rfl
     ·have nH:j≠i:=fun e=>by subst e;exact lB hj
      rw[px V u nH];exact hrel _ _ _ _ aaR (hV j hj)
     ·rw[eU];exact hRi
   rw[if_pos (tR.trans hw)];refine .inl ?_;unfold Oper.wp;rw[he];unfold nC at j8
   generalize (execOp (ap ops (List.range k) V a).eval o).run P W=r at j8 ⊢
   cases r with
   | ok nx W'=>
    cases nx with
    | value u=>exact next u W' j8.1 j8.2.1 j8.2.2
    | skip=>exact next undef W' j8.1 j8.2.1 j8.2.2
    | enter f args=>
     simp only[Oper.upon]
     exact Calls.mono j8 fun e lU ⟨u,z_,h3,h4,h5⟩=>by subst z_;exact next u lU h3 h4 h5
    | _=>exact j8.elim
   | halt x W'=>exact j8.elim
  ·have bH:∀j,j<i->D j:=fun j hj=>fV eG ho gD (ge.tail i (by omega) d_ j hj)
   obtain⟨m,h1,h2,h3,h4⟩:=tQ D a' W hJ (fun j hj=>bH j (by omega))
   have MF:m=i:=by
    by_cases e1:i<m
    ·exact absurd ((h3 i d_).2 e1) lB
    ·by_cases e2:m<i
     ·have:=(h3 m (by omega)).1 (bH m e2);omega
     ·omega
   subst MF
   have CL:ops.toList.drop m=o::ops.toList.drop (m+1):=by
    have:m<ops.toList.length:=by simpa using d_
    rw[List.drop_eq_getElem_cons this];congr 1
    have:=(Array.getElem?_eq_some_iff.1 ho).2
    simpa using this
   rw[CL]at h4;unfold wpList at h4
   have next:∀a W,wpList P ops Q (ops.toList.drop (m+1)) a W->J (fun j=>D j\/j=m) a W:=fun a W h=>.inr ⟨m+1,by omega,by omega,fun j hj=>by
    constructor
    ·rintro(h | rfl)
     ·have:=(h3 j hj).1 h;omega
     ·omega
    ·intro h
     by_cases e:j=m
     ·exact .inr e
     ·exact .inl ((h3 j hj).2 (by omega)),h⟩
   split
   ·rename_i hw
    rw[if_pos hw]at h4;exact h4.imp (Oper.wp_mono next) id
   ·rename_i hw
    rw[if_neg hw]at h4;exact next _ _ h4
 ·intro D a' W hJ bH;obtain⟨m,h1,h2,h3,h4⟩:=tQ D a' W hJ (fun j hj=>bH j (by omega))
  have Qe:m=ops.size:=by
   by_cases e:m<ops.size
   ·have:=(h3 m e).1 (bH m e);omega
   ·omega
  subst Qe;rw[List.drop_eq_nil_of_le (by simp)]at h4;exact h4
def RW (l:List (Value->World->Prop)):Nat->Value->World->Prop:=fun j u W=>match l[j]? with | some r=>r u W | none=>True
theorem RW.rel {l:List (Value->World->Prop)} {Th:World->World->Prop} (h:∀r∈l,∀u W W',Th W W'->r u W->r u W'):∀j u W W',Th W W'->RW l j u W->RW l j u W':=by
 intro j u W W' hr hw
 unfold RW at hw ⊢
 cases e:l[j]? with
 | none=>trivial
 | some r=>rw[e]at hw;exact h r (List.mem_of_getElem? e) u W W' hr hw
end
structure C2 (cb rb:Nat) (W W':World):Prop where
 os:W'.os=W.os
 tape:W'.tape=W.tape
 output:W'.output=W.output
 size:W.heap.size<=W'.heap.size
 block:∀k,k<W.heap.size->k≠cb->k≠rb->W'.heap[k]?=W.heap[k]?
theorem C2.refl (cb rb:Nat) (W:World):C2 cb rb W W:=⟨rfl,rfl,rfl,Nat.le_refl _,fun _ _ _ _=>rfl⟩
theorem C2.trans {cb rb:Nat} {a b d:World} (h:C2 cb rb a b) (k:C2 cb rb b d):C2 cb rb a d:=
 ⟨k.os.trans h.os,k.tape.trans h.tape,k.output.trans h.output,Nat.le_trans h.size k.size,fun i hi hn mi=>(k.block i (by have:=h.size;omega) hn mi).trans (h.block i hi hn mi)⟩
theorem C2.of {cb rb:Nat} {W W':World} (h:dK cb W W'):C2 cb rb W W':=⟨h.os,h.tape,h.output,h.size,fun k hk hn _=>h.block k hk hn⟩
theorem C2.since {cb rb:Nat} {W W':World} (h:ab W W'):C2 cb rb W W':=.of ((dK.refl cb W).after h)
theorem C2.set (cb rb:Nat) (W:World) (x y z:Value):C2 cb rb W (acr W rb x y z):=by
 have h:CB rb W.heap.size W (acr W rb x y z):=(((CB.refl rb W.heap.size W).setCell (p:=⟨rb,0,none⟩) (.inr rfl) x).setCell (p:=⟨rb,1,none⟩) (.inr rfl) y).setCell (p:=⟨rb,2,none⟩) (.inr rfl) z;exact⟨h.os,h.tape,h.output,h.size,fun k hk _ hn=>h.block k hk hn⟩
theorem C2.own {cb rb B:Nat} {W W':World} (h:C2 cb rb W W') (hc:cb<B) (hr:rb<B) {v:Value} {xs:List Int} (ho:Own W B v xs):Own W' B v xs:=
 aG ho fun k hk=>h.block k (World.ownsRow.lt ho k (by simpa using hk)).2 (by have:=(World.ownsRow.lt ho k (by simpa using hk)).1;omega) (by have:=(World.ownsRow.lt ho k (by simpa using hk)).1;omega)
theorem C2.net {cb rb B:Nat} {W W':World} (h:C2 cb rb W W') (hc:cb<B) (hr:rb<B) {ve vi vn:Value} {N:aj} {S:List Nat} (ho:ar W B ve vi vn N S):ar W' B ve vi vn N S:=
 ho.aco fun k hk=>h.block k (ho.range k hk).2 (by have:=(ho.range k hk).1;omega) (by have:=(ho.range k hk).1;omega)
theorem C2.cell {cb rb:Nat} {W W':World} (h:C2 cb rb W W') {p:Addr} {v:Value} (hp:W.cell? p=some v) (h1:p.block≠cb) (h2:p.block≠rb):W'.cell? p=some v:=by
 rw[World.cell?_of_block (w:=W) (h.block p.block (y4 hp) h1 h2)];exact hp
theorem C2.below {cb rb B:Nat} {w W W':World} (h:C2 cb rb W W') (h0:Below B w W) (hB:B<=rb) (hc:B<=cb) (hz:B<=W.heap.size):Below B w W':=
 Below.trans h0 ⟨h.os,h.tape,h.output,h.size,fun k hk=>h.block k (by omega) (by omega) (by omega)⟩
def jF (z:Int) (u:Value) (_:World):Prop:=∃x:Nat,u=.int .i64 x/\(x=0\/(x:Int)<z)
def dk (v:Value) (u:Value) (_:World):Prop:=u=v
structure sW (cb rb:Nat) (A:Option Addr) (L c P0 K nc:Nat) (wS:World) (T:World->Prop) (q:Nat) (W:World):Prop where
 cur:q<=nc->cG W cb A L c (P0+K*q)
 rel:C2 cb rb wS W
 box:q<=nc->aS W rb (.slice none 0 0) (.slice none 0 0) (.slice none 0 0)
 done:nc<q->T W
section
variable {cb rb : Nat} {A : Option Addr} {L c P0 K nc : Nat} {wS W W' : World} {T : World → Prop} {q : Nat}
theorem sW.start (hc:cG wS cb A L c P0) (hb:aS wS rb (.slice none 0 0) (.slice none 0 0) (.slice none 0 0)) (hs:ab wS W):sW cb rb A L c P0 K nc wS T 0 W:=
 ⟨fun _=>hc.since hs,C2.since hs,fun _=>hb.since hs,fun h=>by omega⟩
theorem sW.call (h:sW cb rb A L c P0 K nc wS T q W) (hq:q<nc) (hC:CB cb W.heap.size W W') {P':Nat} (eQ:cG W' cb A L c P') (hP:P'<=P0+K*q+K) (hn:rb≠cb):sW cb rb A L c P0 K nc wS T (q+1) W':=
 ⟨fun _=>eQ.mono (by rw[Nat.mul_add];omega),h.rel.trans (C2.of hC),fun _=>(hC.block _ (h.box (by omega)).lt hn).trans (h.box (by omega)),fun h=>by omega⟩
theorem sW.store (h:sW cb rb A L c P0 K nc wS T q W) (hq:q=nc) {x y z:Value} (hT:T (acr W rb x y z)):sW cb rb A L c P0 K nc wS T (q+1) (acr W rb x y z):=
 ⟨fun h=>by omega,h.rel.trans (C2.set _ _ _ _ _ _),fun h=>by omega,fun _=>hT⟩
end
theorem aS.acr {W:World} {b:Nat} {x y z:Value} (h:aS W b x y z) (x' y' z':Value):aS (Go.Proofs.YtgmdpppljkmabaaGreat.acr W b x' y' z') b x' y' z':=by
 unfold Go.Proofs.YtgmdpppljkmabaaGreat.acr;exact((h.acF _).acI _).acJ _
theorem Lr (cb:Nat) (A:Option Addr) (L c P:Nat) (w:World) (h:cG w cb A L c P) (hP:P<=4611686018427387000):
  Calls Tryz.prog 114 #[.pointer (some ⟨cb,0,none⟩)] w fun e w'=>∃x:Int,e=.returned (.int .i64 x)/\(0<=x/\x<=6)/\cG w' cb A L c (P+2)/\CB cb w.heap.size w w':=by
 obtain⟨wL,FX⟩:∃z,z=w.alloc (.cells #[.int .i64 1,.int .i64 2,.int .i64 3,.int .i64 4,.int .i64 5,.int .i64 1,.int .i64 2,.int .i64 3,.int .i64 4,.int .i64 5,.int .i64 1,.int .i64 2,.int .i64 3,.int .i64 4,.int .i64 5,.int .i64 0,.int .i64 6] 3):=⟨_,rfl⟩
 obtain⟨gl,tq⟩:∃z,z=w.heap.size:=⟨_,rfl⟩
 have I0:ab w wL:=by rw[FX];exact ad _ (aa _)
 have PS:Own wL w.heap.size (.slice (some ⟨gl,0,none⟩) 17 17) [1,2,3,4,5,1,2,3,4,5,1,2,3,4,5,0,6]:=by rw[FX,tq];exact fD w [1,2,3,4,5,1,2,3,4,5,1,2,3,4,5,0,6] (by simp[maxLen])
 have RK:=zh h.lt;have Ls:=zh (h.since I0);have HsL:=zh I0;have WQ:=zh PS;have WR:=zh FX;have SN:=zh tq;clear h I0 PS FX tq
 go_enter Tryz.func114,Tryz.ntmps114
 go_wp2_with fail;rw[<- WR.out,<- SN.out];refine(nY cb A L c P w.heap.size gl 17 17 _ wL Ls.out hP WQ.out rfl RK.out (by simp) (by simp)).mono ?_;rintro e w1 ⟨x,rfl,hx,eQ,hC⟩
 have hx6:0<=x/\x<=6:=by
  simp only[List.mem_cons,List.not_mem_nil,or_false]at hx;omega
 have Hx:=zh hx6;have zg:=zh eQ;have HC:Hid (CB cb w.heap.size w w1):=(CB.of HsL.out.below).trans (hC.mono HsL.out.below.size);clear hx hx6 eQ hC;go_wp2;go_ret;exact⟨x,rfl,Hx.out,zg.out,HC.out⟩
theorem Lu (v:Value) (a b c d:Int) (w:World) (h:aO w v [a,b,c,d]):
  Calls Tryz.prog 167 #[.int .i64 5,v] w fun e w'=>(∃x:Int,e=.returned (.int .i64 x))/\Below w.heap.size w w':=by
 obtain⟨B,off,cp,rfl,hB,eG⟩:=h.lit;have c0:=eG 0 a rfl;have c1:=eG 1 b rfl;have c2:=eG 2 c rfl;have c3:=eG 3 d rfl;clear eG h;simp only[Nat.add_zero]at c0
 go_enter Tryz.func167,Tryz.ntmps167
 go_wp2_with fail;refine(eS _ _).mono ?_;rintro e w1 ⟨u,rfl,ho,aN⟩;obtain⟨g,cc,rfl,hg,l7,xG,eG⟩:=Own.lit (show Own w1 _ u (100::[10,2])from ho);have r0:=eG 0 100 rfl;have r1:=eG 1 10 rfl;have r2:=eG 2 2 rfl;clear eG;have d0:=(aN.cell (p:=⟨B,off,none⟩) hB).trans c0;have d1:=(aN.cell (p:=⟨B,off+1,none⟩) hB).trans c1;have d2:=(aN.cell (p:=⟨B,off+2,none⟩) hB).trans c2;have d3:=(aN.cell (p:=⟨B,off+3,none⟩) hB).trans c3;have gO:=zh aN;clear ho aN c0 c1 c2 c3;go_wp2;refine wp_loop_rounds 4 ?_
 iterate 4
  rw[rounds_succ];go_wp2
 go_ret;exact⟨⟨_,rfl⟩,gO.out⟩
theorem Lv (v:Value) (a b:Int) (w:World) (h:aO w v [a,b]):
  Calls Tryz.prog 167 #[.int .i64 4,v] w fun e w'=>(∃x:Int,e=.returned (.int .i64 x))/\Below w.heap.size w w':=by
 obtain⟨B,off,cp,rfl,hB,eG⟩:=h.lit;have c0:=eG 0 a rfl;have c1:=eG 1 b rfl;clear eG h;simp only[Nat.add_zero]at c0
 go_enter Tryz.func167,Tryz.ntmps167
 go_wp2_with fail;refine(eS _ _).mono ?_;rintro e w1 ⟨u,rfl,ho,aN⟩;obtain⟨g,cc,rfl,hg,l7,xG,eG⟩:=Own.lit (show Own w1 _ u (100::[])from ho);have r0:=eG 0 100 rfl;clear eG;have d0:=(aN.cell (p:=⟨B,off,none⟩) hB).trans c0;have d1:=(aN.cell (p:=⟨B,off+1,none⟩) hB).trans c1;have gO:=zh aN;clear ho aN c0 c1;go_wp2;refine wp_loop_rounds 2 ?_
 iterate 2
  rw[rounds_succ];go_wp2
 go_ret;exact⟨⟨_,rfl⟩,gO.out⟩
theorem Og (cb:Nat) (A:Option Addr) (L c P aJ M:Nat) (w:World) (hc:cG w cb A L c P) (hP:P<=3800000000000000000) (zi:1<=aJ) (mm:aJ<=M) (hM:M<=38):
  Calls Tryz.prog 178 #[.pointer (some ⟨cb,0,none⟩),.int .i64 aJ] w (sR cb w.heap.size A L c (P+220000000000000000) w Bd):=by
 have ig:=hc.lt;obtain⟨B,rS⟩:∃z,z=w.heap.size+1:=⟨_,rfl⟩
 obtain⟨w0,bQ⟩:∃z,z=w.alloc (.cells #[.slice none 0 0,.slice none 0 0,.slice none 0 0] 27):=⟨_,rfl⟩
 have aU:ab w w0:=by rw[bQ];exact ad _ (aa _)
 have gx:w0.heap.size=B:=by rw[bQ,rS];simp
 have iy:aS w0 w.heap.size (.slice none 0 0) (.slice none 0 0) (.slice none 0 0):=by
  rw[bQ];show(w.heap.push _)[w.heap.size]?=_
  rw[Array.getElem?_push_size]
 have iH:=zh iy;have jj:=zh aU;have bS:=zh bQ;have el:=zh rS;have mA:=zh gx;have Ez:=zh (hc.since aU);clear iy aU bQ hc rS gx
 go_enter Tryz.func178,Tryz.ntmps178
 go_upto_region 1 with(fail);rw[<- bS.out];go_wp2_with fail;refine(db cb A L c P 8 w0 Ez.out (by omega) (by omega)).mono ?_;rintro e w1 ⟨x,rfl,hx,lM,lL⟩;have kB:=zh lM
 have vV:Hid (CB cb B w0 w1):=by show CB _ _ _ _;rw[<- mA.out];exact lL
 have ia:B<=w1.heap.size:=by rw[<- mA.out];exact lL.size
 have jR:cb<B:=by have:=el.out;omega
 have hx8:x<8:=by omega
 clear lM lL hx;rcases(show x=0\/x=1\/x=2\/x=3\/x=4\/x=5\/x=6\/x=7 by omega)with rfl | rfl | rfl | rfl | rfl | rfl | rfl | rfl
 ·skip;go_wp2_with fail;refine(vg cb A L c (P+2) aJ M w1 kB.out (by omega) zi mm (by omega)).mono ?_;rintro e w6 ⟨CV,CW,CX,N6,S6,rfl,dB,lv,dq,ic⟩;obtain⟨D0,d0,rfl,-,-,-⟩:=id dB.read.1;obtain⟨D1,d1,rfl,-,-,-⟩:=id dB.read.2.1;obtain⟨D2,d2,rfl,-,-,-⟩:=id dB.read.2.2;have aD:CB cb B w0 w6:=vV.out.trans (ic.mono ia)
  have dJ:=aD.acv iH.out (by have:=el.out;omega) (by omega)
  obtain⟨e0,e1,e2,f0,f1,f2⟩:=dJ.box.cells;have aI:=dB.mono ia;rw[el.out]at aI aD;have bZ:=zh (cO jj.out aI dq aD ig);have pL:Hid (Bd N6):=lv.1.bd (by omega) (by omega);clear aD dJ aI dq ic dB;go_wp2;refine bodyPost_ret (v:=.agg #[.slice D0 N6.ends.length d0,.slice D1 N6.ids.length d1,.slice D2 N6.acn.length d2]) (by simp[results,Tryz.results178,go_sem, *]) rfl ?_;obtain⟨r1,r2,r3⟩:=bZ.out;exact⟨_,_,_,N6,S6,rfl,r1,pL.out,r2.mono (by omega),r3⟩
 ·skip;go_wp2_with fail;refine(vg cb A L c (P+2) aJ M w1 kB.out (by omega) zi mm (by omega)).mono ?_;rintro e w6 ⟨CV,CW,CX,N6,S6,rfl,dB,lv,dq,ic⟩;obtain⟨D0,d0,rfl,-,-,-⟩:=id dB.read.1;obtain⟨D1,d1,rfl,-,-,-⟩:=id dB.read.2.1;obtain⟨D2,d2,rfl,-,-,-⟩:=id dB.read.2.2;have aD:CB cb B w0 w6:=vV.out.trans (ic.mono ia)
  have dJ:=aD.acv iH.out (by have:=el.out;omega) (by omega)
  obtain⟨e0,e1,e2,f0,f1,f2⟩:=dJ.box.cells;have aI:=dB.mono ia;rw[el.out]at aI aD;have bZ:=zh (cO jj.out aI dq aD ig);have pL:Hid (Bd N6):=lv.1.bd (by omega) (by omega);clear aD dJ aI dq ic dB;go_wp2;refine bodyPost_ret (v:=.agg #[.slice D0 N6.ends.length d0,.slice D1 N6.ids.length d1,.slice D2 N6.acn.length d2]) (by simp[results,Tryz.results178,go_sem, *]) rfl ?_;obtain⟨r1,r2,r3⟩:=bZ.out;exact⟨_,_,_,N6,S6,rfl,r1,pL.out,r2.mono (by omega),r3⟩
 ·skip;go_wp2_with fail;refine(nz cb A L c (P+2) aJ M w1 kB.out (by omega) zi mm (by omega)).mono ?_;rintro e w6 ⟨CV,CW,CX,N6,S6,rfl,dB,lv,dq,ic⟩;obtain⟨D0,d0,rfl,-,-,-⟩:=id dB.read.1;obtain⟨D1,d1,rfl,-,-,-⟩:=id dB.read.2.1;obtain⟨D2,d2,rfl,-,-,-⟩:=id dB.read.2.2;have aD:CB cb B w0 w6:=vV.out.trans (ic.mono ia)
  have dJ:=aD.acv iH.out (by have:=el.out;omega) (by omega)
  obtain⟨e0,e1,e2,f0,f1,f2⟩:=dJ.box.cells;have aI:=dB.mono ia;rw[el.out]at aI aD;have bZ:=zh (cO jj.out aI dq aD ig);have pL:Hid (Bd N6):=lv.1.bd (by omega) (by omega);clear aD dJ aI dq ic dB;go_wp2;refine bodyPost_ret (v:=.agg #[.slice D0 N6.ends.length d0,.slice D1 N6.ids.length d1,.slice D2 N6.acn.length d2]) (by simp[results,Tryz.results178,go_sem, *]) rfl ?_;obtain⟨r1,r2,r3⟩:=bZ.out;exact⟨_,_,_,N6,S6,rfl,r1,pL.out,r2.mono (by omega),r3⟩
 ·skip;go_wp2_with fail;refine(nz cb A L c (P+2) aJ M w1 kB.out (by omega) zi mm (by omega)).mono ?_;rintro e w6 ⟨CV,CW,CX,N6,S6,rfl,dB,lv,dq,ic⟩;obtain⟨D0,d0,rfl,-,-,-⟩:=id dB.read.1;obtain⟨D1,d1,rfl,-,-,-⟩:=id dB.read.2.1;obtain⟨D2,d2,rfl,-,-,-⟩:=id dB.read.2.2;have aD:CB cb B w0 w6:=vV.out.trans (ic.mono ia)
  have dJ:=aD.acv iH.out (by have:=el.out;omega) (by omega)
  obtain⟨e0,e1,e2,f0,f1,f2⟩:=dJ.box.cells;have aI:=dB.mono ia;rw[el.out]at aI aD;have bZ:=zh (cO jj.out aI dq aD ig);have pL:Hid (Bd N6):=lv.1.bd (by omega) (by omega);clear aD dJ aI dq ic dB;go_wp2;refine bodyPost_ret (v:=.agg #[.slice D0 N6.ends.length d0,.slice D1 N6.ids.length d1,.slice D2 N6.acn.length d2]) (by simp[results,Tryz.results178,go_sem, *]) rfl ?_;obtain⟨r1,r2,r3⟩:=bZ.out;exact⟨_,_,_,N6,S6,rfl,r1,pL.out,r2.mono (by omega),r3⟩
 ·skip;go_wp2_with fail;refine(Ey cb A L c (P+2) aJ M w1 kB.out (by omega) zi mm (by omega)).mono ?_;rintro e w6 ⟨CV,CW,CX,N6,S6,rfl,dB,lv,dq,ic⟩;obtain⟨D0,d0,rfl,-,-,-⟩:=id dB.read.1;obtain⟨D1,d1,rfl,-,-,-⟩:=id dB.read.2.1;obtain⟨D2,d2,rfl,-,-,-⟩:=id dB.read.2.2;have aD:CB cb B w0 w6:=vV.out.trans (ic.mono ia)
  have dJ:=aD.acv iH.out (by have:=el.out;omega) (by omega)
  obtain⟨e0,e1,e2,f0,f1,f2⟩:=dJ.box.cells;have aI:=dB.mono ia;rw[el.out]at aI aD;have bZ:=zh (cO jj.out aI dq aD ig);have pL:Hid (Bd N6):=lv.1.bd (by omega) (by omega);clear aD dJ aI dq ic dB;go_wp2;refine bodyPost_ret (v:=.agg #[.slice D0 N6.ends.length d0,.slice D1 N6.ids.length d1,.slice D2 N6.acn.length d2]) (by simp[results,Tryz.results178,go_sem, *]) rfl ?_;obtain⟨r1,r2,r3⟩:=bZ.out;exact⟨_,_,_,N6,S6,rfl,r1,pL.out,r2.mono (by omega),r3⟩
 ·skip;go_wp2_with fail;refine(Lm cb A L c (P+2) aJ M w1 kB.out (by omega) zi mm (by omega)).mono ?_;rintro e w6 ⟨CV,CW,CX,N6,S6,rfl,dB,lv,dq,ic⟩;obtain⟨D0,d0,rfl,-,-,-⟩:=id dB.read.1;obtain⟨D1,d1,rfl,-,-,-⟩:=id dB.read.2.1;obtain⟨D2,d2,rfl,-,-,-⟩:=id dB.read.2.2;have aD:CB cb B w0 w6:=vV.out.trans (ic.mono ia)
  have dJ:=aD.acv iH.out (by have:=el.out;omega) (by omega)
  obtain⟨e0,e1,e2,f0,f1,f2⟩:=dJ.box.cells;have aI:=dB.mono ia;rw[el.out]at aI aD;have bZ:=zh (cO jj.out aI dq aD ig);have pL:Hid (Bd N6):=lv;clear aD dJ aI dq ic dB;go_wp2;refine bodyPost_ret (v:=.agg #[.slice D0 N6.ends.length d0,.slice D1 N6.ids.length d1,.slice D2 N6.acn.length d2]) (by simp[results,Tryz.results178,go_sem, *]) rfl ?_;obtain⟨r1,r2,r3⟩:=bZ.out;exact⟨_,_,_,N6,S6,rfl,r1,pL.out,r2.mono (by omega),r3⟩
 ·skip;go_wp2_with fail;refine(Le cb A L c (P+2) aJ M w1 kB.out (by omega) zi mm (by omega)).mono ?_;rintro e w6 ⟨CV,CW,CX,N6,S6,rfl,dB,lv,dq,ic⟩;obtain⟨D0,d0,rfl,-,-,-⟩:=id dB.read.1;obtain⟨D1,d1,rfl,-,-,-⟩:=id dB.read.2.1;obtain⟨D2,d2,rfl,-,-,-⟩:=id dB.read.2.2;have aD:CB cb B w0 w6:=vV.out.trans (ic.mono ia)
  have dJ:=aD.acv iH.out (by have:=el.out;omega) (by omega)
  obtain⟨e0,e1,e2,f0,f1,f2⟩:=dJ.box.cells;have aI:=dB.mono ia;rw[el.out]at aI aD;have bZ:=zh (cO jj.out aI dq aD ig);have pL:Hid (Bd N6):=lv.1.bd (by omega) (by omega);clear aD dJ aI dq ic dB;go_wp2;refine bodyPost_ret (v:=.agg #[.slice D0 N6.ends.length d0,.slice D1 N6.ids.length d1,.slice D2 N6.acn.length d2]) (by simp[results,Tryz.results178,go_sem, *]) rfl ?_;obtain⟨r1,r2,r3⟩:=bZ.out;exact⟨_,_,_,N6,S6,rfl,r1,pL.out,r2.mono (by omega),r3⟩
 ·skip;go_wp2_with fail;refine(Le cb A L c (P+2) aJ M w1 kB.out (by omega) zi mm (by omega)).mono ?_;rintro e w6 ⟨CV,CW,CX,N6,S6,rfl,dB,lv,dq,ic⟩;obtain⟨D0,d0,rfl,-,-,-⟩:=id dB.read.1;obtain⟨D1,d1,rfl,-,-,-⟩:=id dB.read.2.1;obtain⟨D2,d2,rfl,-,-,-⟩:=id dB.read.2.2;have aD:CB cb B w0 w6:=vV.out.trans (ic.mono ia)
  have dJ:=aD.acv iH.out (by have:=el.out;omega) (by omega)
  obtain⟨e0,e1,e2,f0,f1,f2⟩:=dJ.box.cells;have aI:=dB.mono ia;rw[el.out]at aI aD;have bZ:=zh (cO jj.out aI dq aD ig);have pL:Hid (Bd N6):=lv.1.bd (by omega) (by omega);clear aD dJ aI dq ic dB;go_wp2;refine bodyPost_ret (v:=.agg #[.slice D0 N6.ends.length d0,.slice D1 N6.ids.length d1,.slice D2 N6.acn.length d2]) (by simp[results,Tryz.results178,go_sem, *]) rfl ?_;obtain⟨r1,r2,r3⟩:=bZ.out;exact⟨_,_,_,N6,S6,rfl,r1,pL.out,r2.mono (by omega),r3⟩
def j5 (n:aj):aj:={ ends:=n.ends,ids:=[],acn:=List.replicate n.ends.length 0 }
theorem vy {n:aj} (h:ak (j5 n)=true):1<=n.ends.length/\n.ends.length<=40:=aB (n:=j5 n) h
theorem Lw {n:aj} (h:ak (j5 n)=true) {k:Nat} {es:List (Int×Int)} (bM:n.ends[k]?=some es):es.length<=6/\∀e∈es,0<=e.1/\e.1<n.ends.length:=bV (n:=j5 n) h bM
theorem Lx {n:aj} (h:ak (j5 n)=true) {cur:Int} (hc:0<=cur/\cur<n.ends.length):∀x∈dW n cur,0<=x/\x<n.ends.length:=lZ (n:=j5 n) h hc
theorem vz (n:aj):∀(f:Nat) (st:List Int×List Int) (i:Nat),qp (j5 n) f st i=qp n f st i
 | 0,_,_=>rfl
 | f+1,st,i=>by
  unfold qp;rw[vz n f];rfl
theorem x_ (n:aj) (v:Nat):bC (j5 n) v=bC n v:=vz n _ _ _
theorem Ly {n:aj} (h:ak (j5 n)=true) (f:Nat) (st:List Int×List Int) (i:Nat) (hB:BI n.ends.length st):(qp n f st i).length=n.ends.length:=by
 rw[<- vz];exact j2 (n:=j5 n) h f st i hB
theorem Ij (n:aj) (v:Nat) (r:Int) (k:Nat):eK (j5 n) v r k=eK n v r k:=by
 unfold eK;rw[x_]
theorem EM (n:aj) (v:Nat):am (j5 n) v=am n v:=by
 unfold am;rw[x_];rfl
theorem EO {n:aj} (h:ak (j5 n)=true) {v:Nat} (hv:v<n.ends.length):(eK n v 40 n.ends.length)[0]?=some (am n v:Int):=by
 have:=uj (n:=j5 n) h (v:=v) hv
 rw[Ij,EM]at this;exact this
theorem Cl (ve vi vn:Value) (n:aj) (v:Nat) (w:World) (h:aC w ve vi vn n) (hn:ak (j5 n)=true) (hv:v<n.ends.length):
  Calls Tryz.prog 166 #[.agg #[ve,vi,vn],.int .i64 v] w fun e w'=>∃u,e=.returned u/\Own w' w.heap.size u (bC n v)/\Below w.heap.size w w':=by
 have gT:=vy hn;have Hn:=zh hn
 obtain⟨w0,A,c,A2,c2,A3,c3,rfl,rfl,rfl,fg,hm,f8,fP,HA,bS,aT,H,dP,d9,dV⟩:=zB h;clear h
 obtain⟨cA,TM⟩:∃x,x=c:=⟨_,rfl⟩
 subst TM;obtain⟨R,hR⟩:∃R,R=bC n v:=⟨_,rfl⟩
 have HR:=zh hR;rw[<- hR];have aU:ab w0 w0:=aa _;clear hn hR
 go_enter Tryz.func166,Tryz.ntmps166
 go_upto_region 1 with(fail);rw[<- bS.out]
 go_wp2_with (at_make;refine jm _ rfl _ _ rfl _ _ n.ends.length rfl rfl rfl rfl (by omega) ?_;intro w1 gR aN dh)
 obtain⟨g,hg⟩:∃g,g=w0.heap.size:=⟨_,rfl⟩
 rw[<- hg]at gR dh ⊢;have Hg:=zh hg;clear hg dh;go_wp2
 go_loopw [17] (fun i wr=>∃k:Nat,k<=n.ends.length/\i=.int .i64 k/\Own wr w0.heap.size (.slice (some ⟨g,0,none⟩) n.ends.length n.ends.length) (List.replicate k (-1)++List.replicate (n.ends.length-k) 0)/\ab w0 wr) (fun i _=>n.ends.length-(intOf i).toNat)
 case atStart=>exact⟨0,Nat.zero_le _,rfl,by have:=gR;simpa[Hg.out]using this,aN⟩
 case round=>
  obtain⟨k,hk,rfl,ho,hs⟩:=hrel;have Ho:=zh ho;have Hs:=zh hs;clear gR aN ho hs aU
  by_cases az:k<n.ends.length
  ·obtain⟨y,hy⟩:=aA (List.replicate k (-1:Int)++List.replicate (n.ends.length-k) 0) k (by simp;omega)
   have cz:=Ho.out.cell hy;have fz:=Ho.out.free k;clear hy;go_wp2;go_roundw
   case rel=>
    refine⟨k+1,by omega,by go_num,?_,Below.setCell Hs.out (by show w0.heap.size<=g;rw[Hg.out];exact Nat.le_refl _) _⟩
    have:=Ho.out.set (k:=k) (-1)
    have e:(List.replicate k (-1:Int)++List.replicate (n.ends.length-k) 0).set k (-1)=List.replicate (k+1) (-1)++List.replicate (n.ends.length-(k+1)) 0:=by
     rw[List.set_append_right _ _ (by simp),List.length_replicate,Nat.sub_self,show n.ends.length-k=(n.ends.length-(k+1))+1 by omega,List.replicate_succ,List.set_cons_zero,List.replicate_succ',List.append_assoc]
     rfl
    rwa [e]at this
   case measure=>simp[intOf];omega
  ·obtain rfl:k=n.ends.length:=by omega
   have fG:Hid (Own wr w0.heap.size (.slice (some ⟨g,0,none⟩) n.ends.length n.ends.length) (List.replicate n.ends.length (-1))):=by
    have:=Ho.out
    rwa [Nat.sub_self,List.replicate_zero,List.append_nil]at this
   have cz:=fG.out.cell (iq (show v<(List.replicate n.ends.length (-1:Int)).length by simpa using hv))
   have fz:=fG.out.free v
   have Mc:Hid (w0.heap.size<=g):=by rw[Hg.out];exact Nat.le_refl _
   obtain⟨w3,i8⟩:∃w3,w3=wr.setCell ⟨g,v,none⟩ (.int .i64 0):=⟨_,rfl⟩
   have jy:Hid (Own w3 w0.heap.size (.slice (some ⟨g,0,none⟩) n.ends.length n.ends.length) (bn n v).1):=by rw[i8];exact fG.out.set (k:=v) 0
   have gZ:Hid (ab w0 w3):=by rw[i8];exact Below.setCell Hs.out Mc.out _
   obtain⟨g2,l7⟩:∃g2,g2=wr.heap.size:=⟨_,rfl⟩
   have e3:w3.heap.size=wr.heap.size:=by rw[i8];simp
   obtain⟨w4,gU⟩:∃w4,w4=w3.alloc (.cells #[.int .i64 v] 3):=⟨_,rfl⟩
   have vN:Hid (Own w4 w0.heap.size (.slice (some ⟨g,0,none⟩) n.ends.length n.ends.length) (bn n v).1):=by rw[gU];exact jy.out.since (ad _ (aa _))
   have ZJ:Hid (Own w4 w0.heap.size (.slice (some ⟨g2,0,none⟩) (bn n v).2.length 1) (bn n v).2):=by
    rw[gU,l7,<- e3]
    have:=fD w3 [(v:Int)] (by simp[maxLen])
    exact this.mono gZ.out.below.size
   have te:Hid (ab w0 w4):=by rw[gU];exact ad _ gZ.out
   have mE:g2≠g:=by have:=(World.ownsRow.lt jy.out g rfl).2;omega
   clear e3;have AC:=zh i8;have Ju:=zh gU;have yv:=zh l7;clear i8 gU l7;go_upto_region 9 with(fail);rw[<- AC.out,<- yv.out,<- Ju.out];clear cz fz;go_wp2
   go_loopw [7,8] (fun u i wr=>∃(f k:Nat) (st:List Int×List Int) (gu cu:Nat),i=.int .i64 k/\u=.slice (some ⟨gu,0,none⟩) st.2.length cu/\gu≠g/\BI n.ends.length st/\qp n f st k=R/\n.ends.length+1<=f+k/\k<=st.2.length/\Own wr w0.heap.size (.slice (some ⟨g,0,none⟩) n.ends.length n.ends.length) st.1/\Own wr w0.heap.size u st.2/\ab w0 wr) (fun _ i _=>n.ends.length+1-(intOf i).toNat)
   case atStart=>exact⟨n.ends.length+1,0,bn n v,g2,1,rfl,rfl,mE,BI.start hv,HR.out.symm,by omega,Nat.zero_le _,vN.out,ZJ.out,te.out⟩
   case round=>
    obtain⟨f,k,st,gu,cu,rfl,rfl,OY,AD,xt,hf,hk,ho,OZ,hs⟩:=hrel;have O0:=zh AD;have Aa:=zh xt;have Ho:=zh ho;have Jv:=zh OZ;have Hs:=zh hs;have vO:=AD.bd;clear AD xt ho OZ hs mE
    by_cases az:k<st.2.length
    ·obtain⟨f,rfl⟩:∃f',f=f'+1:=⟨f-1,by omega⟩
     obtain⟨x,hx⟩:=aA st.2 k az;have yw:=O0.out.walk x (List.mem_of_getElem? hx);obtain⟨c,rfl⟩:=Int.eq_ofNat_of_zero_le yw.1;have hc:c<n.ends.length:=by omega
     have cx:=ae (Jv.out.cell hx);have Qj:=zh yw
     have TO:Hid (st.2.getD k 0=(c:Int)):=by show _=_;rw[zDd,hx];rfl
     have Hx:=zh hx;obtain⟨es,bM⟩:=aA n.ends c hc;obtain⟨sI,-⟩:=Lw Hn.out bM;have jZ:=zh bM;obtain⟨i9,rD⟩:∃s,s=dW n c:=⟨_,rfl⟩
     have n_:Hid (es.map (·.1)=i9):=by show _=_;rw[rD,dW,Int.toNat_natCast,zDd,bM];rfl
     have Qk:Hid (∀y∈i9,0<=y/\y<n.ends.length):=by rw[rD];exact Lx Hn.out Qj.out
     have Jw:=zh rD
     have yx:i9.length<=6:=by rw[<- n_.out,List.length_map];exact sI
     have AG:Hid (∀W,ab wr W->Calls Tryz.prog 186 #[.agg #[.slice A n.ends.length cA,.slice A2 n.ids.length c2,.slice A3 n.acn.length c3],.int .i64 c] W fun e w'=>∃u,e=.returned u/\Own w' wr.heap.size u i9/\Below W.heap.size W w'):=fun W hW=>by
      have:=iu _ _ _ n c es W (H.out.keep (Hs.out.after hW).below) jZ.out (by omega)
      rw[n_.out]at this;exact this.mono fun e w' ⟨u,h1,h2,h3⟩=>⟨u,h1,h2.mono (ab.below hW).size,h3⟩
     have q0:=ag dP Hs.out;have q1:=ag d9 Hs.out;have q2:=ag dV Hs.out;clear hx yw bM rD;go_upto_region 12 with(fail);refine eP (w0:=wr) 8 [false,false,false,false,false,true,true,false] (by kernel_rfl) (by kernel_rfl) (aa _) ?_;simp only[er,dS,zT]
     iterate 6 (apply bv rfl;(intro W hW;go_simp;with_reducible rfl);simp only[zA])
     intro W hW;refine Or.inl ⟨rfl,?_⟩
     go_simp
     (with_reducible refine(AG.out W hW).mono ?_)
     rintro e W' ⟨un,rfl,eH,hb⟩;refine⟨_,rfl,hW.trans hb,?_⟩
     replace hW:=hW.trans hb
     obtain⟨Bn,dn,rfl,_⟩:=id eH.ints
     (try simp only[zA])
     refine de (v:=?_) rfl ?_ hW ?_;rotate_left;(go_simp;with_reducible rfl)
     simp only[zA];simp only[bh];have sJ:=zh (eH.mono Hs.out.below.size);have yy:=fun q hq=>(World.ownsRow.lt eH q hq).1
     have O1:(Value.slice Bn i9.length dn).ownBlock≠some g:=fun e=>by have:=yy g e;have:=(World.ownsRow.lt Ho.out g rfl).2;omega
     have TP:(Value.slice Bn i9.length dn).ownBlock≠some gu:=fun e=>by have:=yy gu e;have:=(World.ownsRow.lt Jv.out gu rfl).2;omega
     have Jy:=zh (Ho.out.since hW);have Ql:=zh (Jv.out.since hW);have tf:=zh (Hs.out.after hW);have ZK:=zh O1;have ZL:=zh TP;have O2:Hid (∀j,∃ys,((i9.take j).foldl (aQ c) st).2=st.2++ys):=fun j=>jg _ _ _
     clear eH yy O1 TP hW cx q0 q1 q2;go_wp2
     go_loopw [7,42] (fun u i wr=>∃(j gu cu:Nat) (dp:List Int×List Int),j<=i9.length/\i=.int .i64 j/\dp=(i9.take j).foldl (aQ c) st/\u=.slice (some ⟨gu,0,none⟩) dp.2.length cu/\gu≠g/\BI n.ends.length dp/\Own wr w0.heap.size (.slice (some ⟨g,0,none⟩) n.ends.length n.ends.length) dp.1/\Own wr w0.heap.size u dp.2 /\
      Own wr w0.heap.size (.slice Bn i9.length dn) i9/\(Value.slice Bn i9.length dn).ownBlock≠some gu/\ab w0 wr) (fun _ i _=>i9.length-(intOf i).toNat)
     case atStart=>exact⟨0,gu,cu,st,Nat.zero_le _,rfl,rfl,rfl,OY,O0.out,Jy.out,Ql.out,sJ.out,ZL.out,tf.out⟩
     case round=>
      obtain⟨j,gv,cv,dp,hj,rfl,tV,rfl,kF,tW,kR,Jz,JA,JB,MM⟩:=hrel;have mP:=zh tW;have AH:=zh kR;have yz:=zh Jz;have yA:=zh JA;have IJ:=zh MM;have oe:=zh tV;have Qm:=zh JB;have TQ:=tW.bd;clear tV tW kR Jz JA MM JB OY
      by_cases lq:j<i9.length
      ·obtain⟨y,hy⟩:=aA i9 j lq;have JC:=Qk.out y (List.mem_of_getElem? hy);obtain⟨d,rfl⟩:=Int.eq_ofNat_of_zero_le JC.1;have hd:d<n.ends.length:=by omega
       rcases yA.out.cases with⟨-,e1⟩ | ⟨gn,cn,en,ZM,ZN⟩
       ·rw[e1]at lq;simp at lq
       injection en with en1 en2 en3
       subst en1;have cy:=yA.out.cell hy;have vP:dp.1.length=n.ends.length:=mP.out.len;have cd:=AH.out.cell (iq (show d<dp.1.length by omega))
       have fd:=AH.out.free d;obtain⟨z,hz⟩:∃z,z=dp.1.getD d 0:=⟨_,rfl⟩
       rw[<- hz]at cd;have Hz:=zh hz;have Hy:=zh hy
       have pP:Hid ((i9.take (j+1)).foldl (aQ c) st=aQ c dp d):=by show _=_;rw[rv hy,<- oe.out]
       have Sx:=zh vP;have m3:IntKind.i64.wrap ((j:Int)+1)=(j:Int)+1:=aH _ (by omega) (by omega);clear hz hy JC vP en2 en3
       by_cases mv:z<0
       ·have eG:c<dp.1.length:=by rw[Sx.out];exact hc
        obtain⟨q,hq⟩:∃q,q=dp.1.getD c 0:=⟨_,rfl⟩
        have cq:=AH.out.cell (iq eG);rw[<- hq]at cq
        have ZO : -1<=q/\q<dp.2.length:=by rw[hq];exact mP.out.val _ (List.mem_of_getElem? (iq eG))
        obtain⟨ys,zE⟩:=O2.out j
        have cw:=yz.out.cell (yu (show dp.2=st.2++ys by rw[oe.out];exact zE) Hx.out)
        have pQ:k<dp.2.length:=al (yu (show dp.2=st.2++ys by rw[oe.out];exact zE) Hx.out)
        have m4:IntKind.i64.wrap (q+1)=q+1:=aH _ (by omega) (by omega)
        have tX:Hid (aQ c dp d=(dp.1.set d (q+1),dp.2++[(d:Int)])):=by show _=_;unfold aQ;rw[Int.toNat_natCast,Int.toNat_natCast,<- Hz.out,if_pos mv,<- hq]
        have TR:Hid (BI n.ends.length (aQ c dp d)):=mP.out.step (by omega) (by omega);obtain⟨w5,mG⟩:∃w5,w5=wr.setCell ⟨g,d,none⟩ (.int .i64 (q+1)):=⟨_,rfl⟩
        have JD:Hid (Own w5 w0.heap.size (.slice (some ⟨g,0,none⟩) n.ends.length n.ends.length) (dp.1.set d (q+1))):=by rw[mG];exact AH.out.set (k:=d) (q+1)
        have AO:Hid (Own w5 w0.heap.size (.slice (some ⟨gv,0,none⟩) dp.2.length cv) dp.2):=by rw[mG];exact nL yz.out (by simpa[Value.ownBlock]using kF) _
        have AW:Hid (Own w5 w0.heap.size (.slice (some ⟨gn,0,none⟩) i9.length dn) i9):=by rw[mG];exact nL yA.out ZK.out _
        have Ds:Hid (ab w0 w5):=by rw[mG];exact Below.setCell IJ.out Mc.out _
        have Dt:=zh mG;have Fm:=zh kF
        have dz:Hid (dp.2.length+1<=17592186044416):=by show _<=_;omega
        clear hq mG zE;go_upto_region 17 with(fail);rw[<- Dt.out];clear cy cd fd cq cw m4
        go_wp2_with (at_builtin;refine nJ rfl _ _ rfl rfl (AO.out.since (ad _ (aa _))) w5.heap.size d rfl (by simp[go_sem]) dz.out (by have:=Ds.out.below.size;simp;omega) ?_;intro g7 c7 w7 TS Fo sK _)
        change World.grownBy _ w7 (some gv)at Fo
        change (some gv=some g7\/g7=_)at sK
        have Gn:Hid (Own w7 w0.heap.size (.slice (some ⟨g,0,none⟩) n.ends.length n.ends.length) (dp.1.set d (q+1))):=Own.grown (JD.out.keep (ai w5 _)) Fo (fun x hx e=>by simp[Value.ownBlock]at hx;cases e;exact Fm.out hx.symm)
        have Qn:Hid (Own w7 w0.heap.size (.slice (some ⟨gn,0,none⟩) i9.length dn) i9):=Own.grown (AW.out.keep (ai w5 _)) Fo (fun x hx e=>by cases e;exact Qm.out hx)
        have Qo:Hid (Own w7 w0.heap.size (.slice (some ⟨g7,0,none⟩) (dp.2.length+1) c7) (dp.2++[(d:Int)])):=TS;have JE:=zh (World.ownsRow.lt JD.out g rfl).2;have Qp:=zh (World.ownsRow.lt AW.out gn rfl).2
        have TT:Hid (g7≠g):=by
         rcases sK with e | e
         ·cases e;exact Fm.out
         ·simp at e;exact fun e2=>by have:=JE.out;omega
        have Qq:Hid ((Value.slice (some ⟨gn,0,none⟩) i9.length dn).ownBlock≠some g7):=by
         rcases sK with e | e
         ·cases e;exact Qm.out
         ·simp at e;exact fun e2=>by simp[Value.ownBlock]at e2;have:=Qp.out;omega
        have Gp:Hid (ab w0 w7):=Below.grown (show Below w0.heap.size w0 _ from ad _ Ds.out) Fo (by have:=Ds.out.below.size;simp;omega) (fun x hx=>by cases hx;exact(World.ownsRow.lt AO.out gv rfl).1)
        clear TS Fo sK;go_wp2;go_roundw
        case rel=>exact⟨j+1,g7,c7,aQ c dp d,by omega,by go_num,pP.out.symm,by rw[tX.out];simp,TT.out,TR.out,by rw[tX.out];exact Gn.out,by rw[tX.out];exact Qo.out,Qn.out,Qq.out,Gp.out⟩
        case measure=>simp[intOf];omega
       ·have AY:Hid (aQ c dp d=dp):=by show _=_;unfold aQ;rw[Int.toNat_natCast,<- Hz.out,if_neg mv]
        go_wp2;go_roundw
        case rel=>exact⟨j+1,gv,cv,dp,by omega,by go_num,by rw[pP.out,AY.out],rfl,kF,mP.out,AH.out,yz.out,yA.out,Qm.out,IJ.out⟩
        case measure=>simp[intOf];omega
      ·obtain rfl:j=i9.length:=by omega
       have yB:Hid (dp=i9.foldl (aQ c) st):=by show _=_;rw[oe.out,List.take_length]
       have TU:Hid (qp n f dp (k+1)=R):=by
        show _=_
        rw[<- Aa.out,qp,if_pos az,TO.out,<- Jw.out,<- yB.out]
       have Qr:Hid (k+1<=dp.2.length):=by
        obtain⟨ys,zE⟩:=O2.out i9.length;show _<=_
        rw[oe.out,zE,List.length_append];omega
       have m3:IntKind.i64.wrap ((k:Int)+1)=(k:Int)+1:=aH _ (by omega) (by omega);go_wp2;go_roundw
       case rel=>exact⟨f,k+1,dp,gv,cv,by go_num,rfl,kF,mP.out,TU.out,by omega,Qr.out,AH.out,yz.out,IJ.out⟩
       case measure=>simp[intOf];omega
    ·have TV:Hid (R=st.1):=by
      rw[<- Aa.out]
      obtain⟨f,rfl⟩ | h0:(∃f',f=f'+1)\/f=0:=by
       rcases Nat.eq_zero_or_pos f with h | h
       ·exact .inr h
       ·exact .inl ⟨f-1,by omega⟩
      ·show qp _ _ _ _=_
       rw[qp,if_neg az]
      ·subst h0;exact rfl
     go_wp2;go_ret
     exact⟨_,rfl,by rw[TV.out];exact Ho.out.mono aT.out.size,ab.after aT.out Hs.out⟩
theorem Cm (ve vi vn:Value) (n:aj) (v:Nat) (r:Int) (w:World) (h:aC w ve vi vn n) (hn:ak (j5 n)=true) (hv:v<n.ends.length):
  Calls Tryz.prog 210 #[.agg #[ve,vi,vn],.int .i64 v,.int .i64 r] w fun e w'=>∃u,e=.returned u/\Own w' w.heap.size u (eK n v r n.ends.length)/\Below w.heap.size w w':=by
 have gT:=vy hn;have ul:=gT.1;have uq:=gT.2;have Hn:=zh hn
 obtain⟨w0,A,c,A2,c2,A3,c3,rfl,rfl,rfl,fg,hm,f8,fP,HA,bS,aT,H,dP,d9,dV⟩:=zB h;clear h
 have aU:ab w0 w0:=aa _;clear hn gT
 go_enter Tryz.func210,Tryz.ntmps210
 go_upto_region 1 with(fail);rw[<- bS.out];go_wp2_with fail;refine(Cl _ _ _ n v w0 H.out Hn.out hv).mono ?_;obtain⟨ds,xF⟩:∃ds,ds=bC n v:=⟨_,rfl⟩
 rw[<- xF];rintro e w2 ⟨u2,rfl,cZ,bx⟩
 have zF:ds.length=n.ends.length:=by rw[xF];exact Ly Hn.out _ _ _ (BI.start hv)
 obtain⟨gd,cd,rfl⟩:∃gd cd,u2=.slice (some ⟨gd,0,none⟩) n.ends.length cd:=by
  rcases cZ.cases with⟨-,e1⟩ | ⟨gd,cd,rfl,kE,l7⟩
  ·have:=congrArg List.length e1;rw[List.length_nil]at this;omega
  ·exact⟨gd,cd,by rw[zF]⟩
 have fG:=zh cZ;have cW:=zh (aU.trans bx);have T_:=zh xF;have Qt:=zh zF;clear cZ bx xF zF aU;go_wp2
 go_loopw [7,14] (fun u i wr=>∃k:Nat,k<=n.ends.length/\i=.int .i64 k/\Own wr w2.heap.size u (eK n v r k)/\ab w2 wr) (fun _ i _=>n.ends.length-(intOf i).toNat)
 case atStart=>exact⟨0,Nat.zero_le _,rfl,by simpa[eK]using bU _ w2.heap.size,aa _⟩
 case round=>
  obtain⟨k,hk,rfl,ho,bG⟩:=hrel;have Ho:=zh ho;have Hs:=zh bG;clear ho bG
  by_cases az:k<n.ends.length
  ·have m3:IntKind.i64.wrap ((k:Int)+1)=(k:Int)+1:=aH _ (by omega) (by omega)
   obtain⟨d,hd⟩:=aA ds k (by rw[Qt.out];exact az)
   have JM:=(fG.out.since Hs.out).cell hd
   have kG:=zh (sc (r:=r) (show(bC n v)[k]?=some d by rw[<- T_.out];exact hd))
   have dz:Hid ((eK n v r k).length+1<=17592186044416):=by show _<=_;have:=uh n v r k;omega
   clear hd;go_upto_region 5 with(fail);go_wp2_with fail;refine(jK _ _ _ _).mono ?_;rintro e w' ⟨rfl,rfl⟩;cases hb:fF 0 r d
   ·rw[hb]at kG;clear JM;go_wp2;go_roundw
    case rel=>exact⟨k+1,by omega,by first | rfl | go_num,by rw[kG.out];exact Ho.out,Hs.out⟩
    case measure=>simp[intOf];omega
   ·rw[hb]at kG;clear JM
    go_wp2_with (at_builtin;refine c_ rfl _ _ rfl rfl (Ho.out.since (ad _ (aa _))) wr.heap.size k rfl (by simp[go_sem]) dz.out (ad _ Hs.out) ?_;intro g cc w3 ex jJ)
    have jy:=zh ex;have gZ:=zh jJ;clear ex jJ;go_wp2;go_roundw
    case rel=>exact⟨k+1,by omega,by first | rfl | go_num,by rw[kG.out,if_pos trivial];exact jy.out,gZ.out⟩
    case measure=>simp[intOf];omega
  ·obtain rfl:k=n.ends.length:=by omega
   clear hk az;go_wp2;go_ret;exact⟨_,rfl,Ho.out.mono (Nat.le_trans aT.out.size cW.out.below.size),ab.after aT.out (cW.out.after Hs.out)⟩
theorem Ik (ve vi vn:Value) (n:aj) (w:World) (h:aC w ve vi vn n) (hn:ak (j5 n)=true):
  Calls Tryz.prog 164 #[.agg #[ve,vi,vn]] w fun e w'=>∃u,e=.returned u/\Own w' w.heap.size u (bW n)/\Below w.heap.size w w':=by
 have gT:=vy hn;have ul:=gT.1;have uq:=gT.2;have Hn:=zh hn
 obtain⟨w0,A,c,A2,c2,A3,c3,rfl,rfl,rfl,fg,hm,f8,fP,HA,bS,aT,H,dP,d9,dV⟩:=zB h;clear h
 have aU:ab w0 w0:=aa _;clear hn gT;unfold bW
 go_enter Tryz.func164,Tryz.ntmps164
 go_upto_region 1 with(fail);rw[<- bS.out];go_wp2
 go_loopw [3,8] (fun u i wr=>∃k:Nat,k<=n.ends.length/\i=.int .i64 k/\Own wr w0.heap.size u ((List.range k).map fun v=>(am n v:Int))/\ab w0 wr) (fun _ i _=>n.ends.length-(intOf i).toNat)
 case atStart=>exact⟨0,Nat.zero_le _,rfl,by simpa using bU _ w0.heap.size,aU⟩
 case round=>
  obtain⟨k,hk,rfl,ho,bG⟩:=hrel;have Ho:=zh ho;have Hs:=zh bG;clear ho aU
  by_cases az:k<n.ends.length
  ·have m3:IntKind.i64.wrap ((k:Int)+1)=(k:Int)+1:=aH _ (by omega) (by omega)
   have dz:Hid (((List.range k).map fun v=>(am n v:Int)).length+1<=17592186044416):=by show _<=_;simp;omega
   have kG:=zh (uN n k);go_wp2_with fail;refine(Cm _ _ _ n k 40 wr (H.out.keep Hs.out.below) Hn.out az).mono ?_;rintro e w2 ⟨u2,rfl,cZ,bx⟩;have hl:=EO Hn.out az
   obtain⟨gd,m,cd,rfl,hm⟩:∃gd m cd,u2=.slice (some ⟨gd,0,none⟩) m cd/\0<m:=by
    rcases cZ.cases with⟨-,e1⟩ | ⟨gd,cd,rfl,kE,l7⟩
    ·rw[e1]at hl;cases hl
    ·refine⟨gd,_,cd,rfl,?_⟩
     cases hq:eK n k 40 n.ends.length with
     | nil=>rw[hq]at hl;cases hl
     | cons a b=>simp
   obtain⟨y,hy⟩:∃y,y=(am n k:Int):=⟨_,rfl⟩
   rw[<- hy]at hl kG;have JM:=cZ.cell hl;have ru:(0:Int)<m:=by omega
   have cW:=zh (Hs.out.after bx);have fG:=zh (Ho.out.since bx);have Hy:=zh hy;clear cZ bx hl bG hy
   go_wp2_with (at_builtin;refine c_ rfl _ _ rfl rfl (fG.out.since (ad _ (aa _))) w2.heap.size y rfl (by simp[go_sem]) dz.out (ad _ cW.out) ?_;intro g cc w3 ex jJ)
   have jy:=zh ex;have gZ:=zh jJ;clear ex jJ;go_wp2;go_roundw
   case rel=>exact⟨k+1,by omega,by first | rfl | go_num,by rw[kG.out];have:=jy.out;simpa using this,gZ.out⟩
   case measure=>simp[intOf];omega
  ·obtain rfl:k=n.ends.length:=by omega
   clear hk az;go_wp2;go_ret;exact⟨_,rfl,Ho.out.mono aT.out.size,ab.after aT.out Hs.out⟩
end Go.Proofs.YtgmdpppljkmabaaGreat
