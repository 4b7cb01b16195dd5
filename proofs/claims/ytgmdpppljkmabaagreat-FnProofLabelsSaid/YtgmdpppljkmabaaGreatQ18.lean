/- Parts of the proof: walks of functions and plain laws. -/
import Derived.Test.YtgmdpppljkmabaaGreatQ0
import Derived.Test.YtgmdpppljkmabaaGreatQ17
import Derived.Test.YtgmdpppljkmabaaGreatQ6
import Derived.Test.YtgmdpppljkmabaaGreatQ1
import Derived.Test.YtgmdpppljkmabaaGreatQ9
import Derived.Test.YtgmdpppljkmabaaGreatQ10
set_option maxRecDepth 100000
set_option maxHeartbeats 16000000
namespace Go.Proofs.YtgmdpppljkmabaaGreat
open Go Go.RowKit
section
variable {P : Program} {ops : Array Oper}
theorem j3 {Q:Exit->Act->World->Prop} {ME:Nat} {a:Act} {w:World} (k:Nat) (cs:List Nat) (R:Nat->Value->World->Prop) (Inv:Nat->World->Prop) (Xi:World->World->Prop) (hrel:∀j u W W',Xi W W'->R j u W->R j u W')
  (hm:P.follows .mixedOrders=true) (hf:wJ ops k=true) (MF:decide (k<=ops.size)=true) (hnd:cs.Nodup) (gY:aai ops k cs=true) (h0:Inv 0 w.drew)
  (gJ:∀i o,i<k->ops[i]?=some o->∀V W q,Inv q W->(∀r,cs.findIdx? (fun x=>x==i)=some r->r=q)->(∀d∈bM o,R d (V d) W)->Region.wanted o (yielded ops (aN ops (List.range k) V a).tmps)=true/\pF P o (aN ops (List.range k) V a) W (fun u W'=>Inv (if (cs.findIdx? (fun x=>x==i)).isSome then q+1 else q) W'/\Xi W W'/\R i u W'))
  (wK:∀V W q,Inv q W->q<=cs.length->(∀i r,i<k->cs.findIdx? (fun x=>x==i)=some r->r<q)->(∀j,j<k->R j (V j) W)->wpList P ops Q (ops.toList.drop k) (aN ops (List.range k) V a) W):(Code.region ME ops true).wp P Q a w:=by
 have gP:=rV hf;have MF:=of_decide_eq_true MF
 have frame:∀V,aZ a ops V (fun j=>j<k) (aN ops (List.range k) V a):=fun V=>by
  have:=ny (a:=a) gP.aes MF V (List.range k) (fun _=>False) a (fun _ h=>h.elim) (fun j hj=>⟨List.mem_range.1 hj,id⟩) List.nodup_range (aZ.start a V)
  exact this.same (fun j=>by simp)
 have aaj:∀i o r,i<k->ops[i]?=some o->cs.findIdx? (fun x=>x==i)=some r->r=0\/∃j∈bM o,cs.findIdx? (fun x=>x==j)=some (r-1):=by
  intro i o r hi ho hr;have h1:=List.all_eq_true.1 gY i (List.mem_range.2 hi);rw[ho]at h1;simp only[hr]at h1;rw[Bool.or_eq_true]at h1;rcases h1 with h1 | h1
  ·left;simpa using h1
  ·cases hj:cs[r-1]? with
   | none=>rw[hj]at h1;cases h1
   | some j=>
    rw[hj]at h1
    right
    refine⟨j,by simpa using h1,?_⟩
    rw[List.findIdx?_eq_some_iff_getElem];have hlt:=an hj
    have hge:cs[r-1]=j:=by
     have:=List.getElem?_eq_getElem hlt
     rw[hj]at this;exact(Option.some.inj this).symm
    refine⟨hlt,by simpa using hge,fun m hm=>?_⟩
    intro hc;have MN:cs[m]=j:=by simpa using hc
    have K6:=List.pairwise_iff_getElem.1 hnd m (r-1) (by omega) hlt hm;exact K6 (MN.trans hge.symm)
 let J:(Nat->Prop)->Act->World->Prop:=fun D a' W=>
  (∃q,Inv q W/\q<=cs.length/\(∀i r,cs.findIdx? (fun x=>x==i)=some r->(D i↔r<q))/\(∀j,D j->j<k)/\∃V,aZ a ops V D a'/\∀j,D j->R j (V j) W) \/
  (∃m,k<=m/\m<=ops.size/\(∀j,j<ops.size->(D j↔j<m))/\wpList P ops Q (ops.toList.drop m) a' W)
 have Db:∀D a' W,J D a' W->(∀j,j<k->D j)->∃m,k<=m/\m<=ops.size/\(∀j,j<ops.size->(D j↔j<m))/\wpList P ops Q (ops.toList.drop m) a' W:=by
  intro D a' W hJ hD;rcases hJ with⟨q,hq,DM,Qj,pQ,V,j5,hV⟩ | hJ
  ·have e:a'=aN ops (List.range k) V a:=j5.ext (frame V) (fun j _=>⟨pQ j,hD j⟩)
   subst e;exact⟨k,Nat.le_refl _,MF,fun j _=>⟨pQ j,hD j⟩,wK V W q hq DM (fun i r hi hr=>(Qj i r hr).1 (hD i hi)) (fun j hj=>hV j (hD j hj))⟩
  ·exact hJ
 refine lf hm gP.back J (.inl ⟨0,h0,Nat.zero_le _,fun i r _=>⟨fun h=>h.elim,fun h=>by omega⟩,fun j hj=>hj.elim,fun _=>undef,aZ.start a _,fun j hj=>hj.elim⟩) ?_ ?_
 ·intro D a' W i o hJ ho pR iX d9;have eU:i<ops.size:=(Array.getElem?_eq_some_iff.1 ho).1
  by_cases kF:i<k
  ·rcases hJ with⟨q,hq,DM,Qj,pQ,V,j5,hV⟩ | ⟨m,h1,h2,h3,_⟩
   rotate_left
   ·exact absurd ((h3 i eU).2 (by omega)) pR
   have hri:∀r,cs.findIdx? (fun x=>x==i)=some r->r=q:=by
    intro r hr;have h1:¬r<q:=fun h=>pR ((Qj i r hr).2 h)
    rcases aaj i o r kF ho hr with h2 | ⟨j,hj,h2⟩
    ·omega
    ·have:=(Qj j _ h2).1 (iX j hj)
     omega
   obtain⟨hw,jd⟩:=gJ i o kF ho V W q hq hri (fun d hd=>hV d (iX d hd))
   obtain⟨he,yW⟩:=gm (ops:=ops) (a':=a') (A:=aN ops (List.range k) V a) (fun t ht=>j5.agree (frame V) t (fun j oj hj fZ hd=>by
    have nV:j<k:=hj.elim (fun h=>pQ j h) id
    exact⟨iX j (gP.looks i o kF ho t ht j oj nV fZ hd),nV⟩)) (fun cs b=>gP.aeo i o cs b ho)
   have next:∀u W',Inv (if (cs.findIdx? (fun x=>x==i)).isSome then q+1 else q) W'->Xi W W'->R i u W'->J (fun j=>D j\/j=i) (a'.put o.dst u) W':=by
    intro u W' hI acq hRi;refine .inl ⟨_,hI,?_,fun i' r' L4=>?_,fun j hj=>hj.elim (pQ j) (fun e=>by omega),upd V i u,?_,fun j hj=>?_⟩
    ·cases hr:cs.findIdx? (fun x=>x==i) with
     | none=>simpa using DM
     | some r=>
      have:=hri r hr
      obtain⟨hlt,-,-⟩:=List.findIdx?_eq_some_iff_getElem.1 hr
      simp;omega
    ·cases hr:cs.findIdx? (fun x=>x==i) with
     | none=>
      simp only[Option.isSome_none,Bool.false_eq_true,if_false];constructor
      ·rintro(h | rfl)
       ·exact(Qj i' r' L4).1 h
       ·rw[hr]at L4;cases L4
      ·exact fun h=>.inl ((Qj i' r' L4).2 h)
     | some r=>
      have hrq:=hri r hr;simp only[Option.isSome_some,if_true];constructor
      ·rintro(h | rfl)
       ·have:=(Qj i' r' L4).1 h;omega
       ·rw[hr]at L4;cases L4;omega
      ·intro h
       by_cases h':r'<q
       ·exact .inl ((Qj i' r' L4).2 h')
       ·have e:r'=r:=by omega
        subst e;exact .inr (zo L4 hr)
    ·have:=(j5.aem (v':=upd V i u) (fun j _ hj=>(OL V u (fun e=>by subst e;exact pR hj)).symm)).put (i:=i) ho (fun j oj d hj fZ hd iq=>by
      have:=gP.aes i o kF ho j oj (pQ j hj) fZ d hd iq
      subst this
      exact pR hj)
     rwa [Em]at this
    ·rcases hj with hj | rfl
     ·have oo:j≠i:=fun e=>by subst e;exact pR hj
      rw[OL V u oo];exact hrel _ _ _ _ acq (hV j hj)
     ·rw[Em];exact hRi
   rw[if_pos (yW.trans hw)];refine .inl ?_;unfold Oper.wp;rw[he];unfold pF at jd
   generalize (execOp (aN ops (List.range k) V a).eval o).run P W=r at jd ⊢
   cases r with
   | ok nx W'=>
    cases nx with
    | value u=>exact next u W' jd.1 jd.2.1 jd.2.2
    | skip=>exact next undef W' jd.1 jd.2.1 jd.2.2
    | enter f args=>
     simp only[Oper.upon]
     exact Calls.mono jd fun e oN ⟨u,FA,h3,h4,h5⟩=>by subst FA;exact next u oN h3 h4 h5
    | _=>exact jd.elim
   | halt x W'=>exact jd.elim
  ·have bZ:∀j,j<i->D j:=fun j hj=>it d9 ho iX (gP.tail i (by omega) eU j hj)
   obtain⟨m,h1,h2,h3,h4⟩:=Db D a' W hJ (fun j hj=>bZ j (by omega))
   have Bg:m=i:=by
    by_cases e1:i<m
    ·exact absurd ((h3 i eU).2 e1) pR
    ·by_cases e2:m<i
     ·have:=(h3 m (by omega)).1 (bZ m e2);omega
     ·omega
   subst Bg
   have IJ:ops.toList.drop m=o::ops.toList.drop (m+1):=by
    have:m<ops.toList.length:=by simpa using eU
    rw[List.drop_eq_getElem_cons this];congr 1
    have:=(Array.getElem?_eq_some_iff.1 ho).2
    simpa using this
   rw[IJ]at h4;unfold wpList at h4
   have next:∀a W,wpList P ops Q (ops.toList.drop (m+1)) a W->J (fun j=>D j\/j=m) a W:=fun a W h=>.inr ⟨m+1,by omega,by omega,fun j hj=>by
    constructor
    ·rintro(h | rfl)
     ·have:=(h3 j hj).1 h;omega
     ·omega
    ·intro h
     by_cases e:j=m
     ·exact .inr e
     ·exact .inl ((h3 j hj).2 (by omega)),h⟩
   split
   ·rename_i hw
    rw[if_pos hw]at h4;exact h4.imp (Oper.wp_mono next) id
   ·rename_i hw
    rw[if_neg hw]at h4;exact next _ _ h4
 ·intro D a' W hJ bZ;obtain⟨m,h1,h2,h3,h4⟩:=Db D a' W hJ (fun j hj=>bZ j (by omega))
  have XJ:m=ops.size:=by
   by_cases e:m<ops.size
   ·have:=(h3 m e).1 (bZ m e);omega
   ·omega
  subst XJ;rw[List.drop_eq_nil_of_le (by simp)]at h4;exact h4
def RW (l:List (Value->World->Prop)):Nat->Value->World->Prop:=fun j u W=>match l[j]? with | some r=>r u W | none=>True
theorem RW.rel {l:List (Value->World->Prop)} {Xi:World->World->Prop} (h:∀r∈l,∀u W W',Xi W W'->r u W->r u W'):∀j u W W',Xi W W'->RW l j u W->RW l j u W':=by
 intro j u W W' hr hw
 unfold RW at hw ⊢
 cases e:l[j]? with
 | none=>trivial
 | some r=>rw[e]at hw;exact h r (List.mem_of_getElem? e) u W W' hr hw
end
structure C2 (cb rb:Nat) (W W':World):Prop where
 os:W'.os=W.os
 tape:W'.tape=W.tape
 output:W'.output=W.output
 size:W.heap.size<=W'.heap.size
 block:∀k,k<W.heap.size->k≠cb->k≠rb->W'.heap[k]?=W.heap[k]?
theorem C2.refl (cb rb:Nat) (W:World):C2 cb rb W W:=⟨rfl,rfl,rfl,Nat.le_refl _,fun _ _ _ _=>rfl⟩
theorem C2.trans {cb rb:Nat} {a b d:World} (h:C2 cb rb a b) (k:C2 cb rb b d):C2 cb rb a d:=
 ⟨k.os.trans h.os,k.tape.trans h.tape,k.output.trans h.output,Nat.le_trans h.size k.size,fun i hi hn np=>(k.block i (by have:=h.size;omega) hn np).trans (h.block i hi hn np)⟩
theorem C2.of {cb rb:Nat} {W W':World} (h:eF cb W W'):C2 cb rb W W':=⟨h.os,h.tape,h.output,h.size,fun k hk hn _=>h.block k hk hn⟩
theorem C2.since {cb rb:Nat} {W W':World} (h:aa W W'):C2 cb rb W W':=.of ((eF.refl cb W).after h)
theorem C2.set (cb rb:Nat) (W:World) (x y z:Value):C2 cb rb W (aed W rb x y z):=by
 have h:CB rb W.heap.size W (aed W rb x y z):=(((CB.refl rb W.heap.size W).setCell (p:=⟨rb,0,none⟩) (.inr rfl) x).setCell (p:=⟨rb,1,none⟩) (.inr rfl) y).setCell (p:=⟨rb,2,none⟩) (.inr rfl) z;exact⟨h.os,h.tape,h.output,h.size,fun k hk _ hn=>h.block k hk hn⟩
theorem C2.own {cb rb B:Nat} {W W':World} (h:C2 cb rb W W') (hc:cb<B) (hr:rb<B) {v:Value} {xs:List Int} (ho:Own W B v xs):Own W' B v xs:=
 aK ho fun k hk=>h.block k (World.ownsRow.lt ho k (by simpa using hk)).2 (by have:=(World.ownsRow.lt ho k (by simpa using hk)).1;omega) (by have:=(World.ownsRow.lt ho k (by simpa using hk)).1;omega)
theorem C2.net {cb rb B:Nat} {W W':World} (h:C2 cb rb W W') (hc:cb<B) (hr:rb<B) {ve vi vn:Value} {N:ak} {S:List Nat} (ho:az W B ve vi vn N S):az W' B ve vi vn N S:=
 ho.aeb fun k hk=>h.block k (ho.range k hk).2 (by have:=(ho.range k hk).1;omega) (by have:=(ho.range k hk).1;omega)
theorem C2.cell {cb rb:Nat} {W W':World} (h:C2 cb rb W W') {p:Addr} {v:Value} (hp:W.cell? p=some v) (h1:p.block≠cb) (h2:p.block≠rb):W'.cell? p=some v:=by
 rw[World.cell?_of_block (w:=W) (h.block p.block (vV hp) h1 h2)];exact hp
theorem C2.below {cb rb B:Nat} {w W W':World} (h:C2 cb rb W W') (h0:Below B w W) (hB:B<=rb) (hc:B<=cb) (hz:B<=W.heap.size):Below B w W':=
 Below.trans h0 ⟨h.os,h.tape,h.output,h.size,fun k hk=>h.block k (by omega) (by omega) (by omega)⟩
def kn (z:Int) (u:Value) (_:World):Prop:=∃x:Nat,u=.int .i64 x/\(x=0\/(x:Int)<z)
def dM (v:Value) (u:Value) (_:World):Prop:=u=v
structure vD (cb rb:Nat) (A:Option Addr) (L c P0 K nc:Nat) (wS:World) (T:World->Prop) (q:Nat) (W:World):Prop where
 cur:q<=nc->dm W cb A L c (P0+K*q)
 rel:C2 cb rb wS W
 box:q<=nc->bx W rb (.slice none 0 0) (.slice none 0 0) (.slice none 0 0)
 done:nc<q->T W
section
variable {cb rb : Nat} {A : Option Addr} {L c P0 K nc : Nat} {wS W W' : World} {T : World → Prop} {q : Nat}
theorem vD.start (hc:dm wS cb A L c P0) (hb:bx wS rb (.slice none 0 0) (.slice none 0 0) (.slice none 0 0)) (hs:aa wS W):vD cb rb A L c P0 K nc wS T 0 W:=
 ⟨fun _=>hc.since hs,C2.since hs,fun _=>hb.since hs,fun h=>by omega⟩
theorem vD.call (h:vD cb rb A L c P0 K nc wS T q W) (hq:q<nc) (hC:CB cb W.heap.size W W') {P':Nat} (fh:dm W' cb A L c P') (hP:P'<=P0+K*q+K) (hn:rb≠cb):vD cb rb A L c P0 K nc wS T (q+1) W':=
 ⟨fun _=>fh.mono (by rw[Nat.mul_add];omega),h.rel.trans (C2.of hC),fun _=>(hC.block _ (h.box (by omega)).lt hn).trans (h.box (by omega)),fun h=>by omega⟩
theorem vD.store (h:vD cb rb A L c P0 K nc wS T q W) (hq:q=nc) {x y z:Value} (hT:T (aed W rb x y z)):vD cb rb A L c P0 K nc wS T (q+1) (aed W rb x y z):=
 ⟨fun h=>by omega,h.rel.trans (C2.set _ _ _ _ _ _),fun h=>by omega,fun _=>hT⟩
end
theorem bx.aed {W:World} {b:Nat} {x y z:Value} (h:bx W b x y z) (x' y' z':Value):bx (Go.Proofs.YtgmdpppljkmabaaGreat.aed W b x' y' z') b x' y' z':=by
 unfold Go.Proofs.YtgmdpppljkmabaaGreat.aed;exact((h.aev _).aew _).aex _
theorem Eo (cb:Nat) (A:Option Addr) (L c P:Nat) (w:World) (h:dm w cb A L c P) (hP:P<=4611686018427387000):
  Calls Tryz.prog 114 #[.pointer (some ⟨cb,0,none⟩)] w fun e w'=>∃x:Int,e=.returned (.int .i64 x)/\(0<=x/\x<=6)/\dm w' cb A L c (P+2)/\CB cb w.heap.size w w':=by
 obtain⟨wL,RD⟩:∃z,z=w.alloc (.cells #[.int .i64 1,.int .i64 2,.int .i64 3,.int .i64 4,.int .i64 5,.int .i64 1,.int .i64 2,.int .i64 3,.int .i64 4,.int .i64 5,.int .i64 1,.int .i64 2,.int .i64 3,.int .i64 4,.int .i64 5,.int .i64 0,.int .i64 6] 3):=⟨_,rfl⟩
 obtain⟨gl,CJ⟩:∃z,z=w.heap.size:=⟨_,rfl⟩
 have TI:aa w wL:=by rw[RD];exact ag _ (ad _)
 have hoL:Own wL w.heap.size (.slice (some ⟨gl,0,none⟩) 17 17) [1,2,3,4,5,1,2,3,4,5,1,2,3,4,5,0,6]:=by rw[RD,CJ];exact gU w [1,2,3,4,5,1,2,3,4,5,1,2,3,4,5,0,6] (by simp[maxLen])
 have TJ:=zh h.lt;have Vy:=zh (h.since TI);have HsL:=zh TI;have HoL:=zh hoL;have HwL:=zh RD;have Hgl:=zh CJ;clear h TI hoL RD CJ
 go_enter Tryz.func114,Tryz.ntmps114
 go_wp2_with fail;rw[<- HwL.out,<- Hgl.out];refine(tQ cb A L c P w.heap.size gl 17 17 _ wL Vy.out hP HoL.out rfl TJ.out (by simp) (by simp)).mono ?_;rintro e w1 ⟨x,rfl,hx,fh,hC⟩
 have hx6:0<=x/\x<=6:=by
  simp only[List.mem_cons,List.not_mem_nil,or_false]at hx;omega
 have Hx:=zh hx6;have CP:=zh fh;have HC:Hid (CB cb w.heap.size w w1):=(CB.of HsL.out.below).trans (hC.mono HsL.out.below.size);clear hx hx6 fh hC;go_wp2;go_ret;exact⟨x,rfl,Hx.out,CP.out,HC.out⟩
theorem OO (v:Value) (a b c d:Int) (w:World) (h:aY w v [a,b,c,d]):
  Calls Tryz.prog 167 #[.int .i64 5,v] w fun e w'=>(∃x:Int,e=.returned (.int .i64 x))/\Below w.heap.size w w':=by
 obtain⟨B,off,cp,rfl,hB,d9⟩:=h.lit;have c0:=d9 0 a rfl;have c1:=d9 1 b rfl;have c2:=d9 2 c rfl;have c3:=d9 3 d rfl;clear d9 h;simp only[Nat.add_zero]at c0
 go_enter Tryz.func167,Tryz.ntmps167
 go_wp2_with fail;refine(fo _ _).mono ?_;rintro e w1 ⟨u,rfl,ho,ay⟩;obtain⟨g,cc,rfl,hg,lh,uy,d9⟩:=Own.lit (show Own w1 _ u (100::[10,2])from ho);have r0:=d9 0 100 rfl;have r1:=d9 1 10 rfl;have r2:=d9 2 2 rfl;clear d9;have d0:=(ay.cell (p:=⟨B,off,none⟩) hB).trans c0;have d1:=(ay.cell (p:=⟨B,off+1,none⟩) hB).trans c1;have d2:=(ay.cell (p:=⟨B,off+2,none⟩) hB).trans c2;have d3:=(ay.cell (p:=⟨B,off+3,none⟩) hB).trans c3;have eD:=zh ay;clear ho ay c0 c1 c2 c3;go_wp2;refine wp_loop_rounds 4 ?_
 iterate 4
  rw[rounds_succ];go_wp2
 go_ret;exact⟨⟨_,rfl⟩,eD.out⟩
theorem OP (v:Value) (a b:Int) (w:World) (h:aY w v [a,b]):
  Calls Tryz.prog 167 #[.int .i64 4,v] w fun e w'=>(∃x:Int,e=.returned (.int .i64 x))/\Below w.heap.size w w':=by
 obtain⟨B,off,cp,rfl,hB,d9⟩:=h.lit;have c0:=d9 0 a rfl;have c1:=d9 1 b rfl;clear d9 h;simp only[Nat.add_zero]at c0
 go_enter Tryz.func167,Tryz.ntmps167
 go_wp2_with fail;refine(fo _ _).mono ?_;rintro e w1 ⟨u,rfl,ho,ay⟩;obtain⟨g,cc,rfl,hg,lh,uy,d9⟩:=Own.lit (show Own w1 _ u (100::[])from ho);have r0:=d9 0 100 rfl;clear d9;have d0:=(ay.cell (p:=⟨B,off,none⟩) hB).trans c0;have d1:=(ay.cell (p:=⟨B,off+1,none⟩) hB).trans c1;have eD:=zh ay;clear ho ay c0 c1;go_wp2;refine wp_loop_rounds 2 ?_
 iterate 2
  rw[rounds_succ];go_wp2
 go_ret;exact⟨⟨_,rfl⟩,eD.out⟩
theorem RE (cb:Nat) (A:Option Addr) (L c P aU M:Nat) (w:World) (hc:dm w cb A L c P) (hP:P<=3800000000000000000) (yN:1<=aU) (nM:aU<=M) (hM:M<=38):
  Calls Tryz.prog 178 #[.pointer (some ⟨cb,0,none⟩),.int .i64 aU] w (vB cb w.heap.size A L c (P+220000000000000000) w Bd):=by
 have ja:=hc.lt;obtain⟨B,tL⟩:∃z,z=w.heap.size+1:=⟨_,rfl⟩
 obtain⟨w0,cG⟩:∃z,z=w.alloc (.cells #[.slice none 0 0,.slice none 0 0,.slice none 0 0] 27):=⟨_,rfl⟩
 have bB:aa w w0:=by rw[cG];exact ag _ (ad _)
 have il:w0.heap.size=B:=by rw[cG,tL];simp
 have gY:bx w0 w.heap.size (.slice none 0 0) (.slice none 0 0) (.slice none 0 0):=by
  rw[cG];show(w.heap.push _)[w.heap.size]?=_
  rw[Array.getElem?_push_size]
 have iF:=zh gY;have lC:=zh bB;have bK:=zh cG;have eT:=zh tL;have mX:=zh il;have GV:=zh (hc.since bB);clear gY bB cG hc tL il
 go_enter Tryz.func178,Tryz.ntmps178
 go_upto_region 1 with(fail);rw[<- bK.out];go_wp2_with fail;refine(dJ cb A L c P 8 w0 GV.out (by omega) (by omega)).mono ?_;rintro e w1 ⟨x,rfl,hx,mY,mS⟩;have lD:=zh mY
 have yO:Hid (CB cb B w0 w1):=by show CB _ _ _ _;rw[<- mX.out];exact mS
 have iE:B<=w1.heap.size:=by rw[<- mX.out];exact mS.size
 have kD:cb<B:=by have:=eT.out;omega
 have hx8:x<8:=by omega
 clear mY mS hx;rcases(show x=0\/x=1\/x=2\/x=3\/x=4\/x=5\/x=6\/x=7 by omega)with rfl | rfl | rfl | rfl | rfl | rfl | rfl | rfl
 ·skip;go_wp2_with fail;refine(xQ cb A L c (P+2) aU M w1 lD.out (by omega) yN nM (by omega)).mono ?_;rintro e w6 ⟨Fi,Fj,Fk,N6,S6,rfl,d6,mB,d7,iU⟩;obtain⟨D0,d0,rfl,-,-,-⟩:=id d6.read.1;obtain⟨D1,d1,rfl,-,-,-⟩:=id d6.read.2.1;obtain⟨D2,d2,rfl,-,-,-⟩:=id d6.read.2.2;have aW:CB cb B w0 w6:=yO.out.trans (iU.mono iE)
  have ec:=aW.aeh iF.out (by have:=eT.out;omega) (by omega)
  obtain⟨e0,e1,e2,f0,f1,f2⟩:=ec.box.cells;have aP:=d6.mono iE;rw[eT.out]at aP aW;have c_:=zh (dq lC.out aP d7 aW ja);have rB:Hid (Bd N6):=mB.1.bd (by omega) (by omega);clear aW ec aP d7 iU d6;go_wp2;refine bodyPost_ret (v:=.agg #[.slice D0 N6.ends.length d0,.slice D1 N6.ids.length d1,.slice D2 N6.aea.length d2]) (by simp[results,Tryz.results178,go_sem, *]) rfl ?_;obtain⟨r1,r2,r3⟩:=c_.out;exact⟨_,_,_,N6,S6,rfl,r1,rB.out,r2.mono (by omega),r3⟩
 ·skip;go_wp2_with fail;refine(xQ cb A L c (P+2) aU M w1 lD.out (by omega) yN nM (by omega)).mono ?_;rintro e w6 ⟨Fi,Fj,Fk,N6,S6,rfl,d6,mB,d7,iU⟩;obtain⟨D0,d0,rfl,-,-,-⟩:=id d6.read.1;obtain⟨D1,d1,rfl,-,-,-⟩:=id d6.read.2.1;obtain⟨D2,d2,rfl,-,-,-⟩:=id d6.read.2.2;have aW:CB cb B w0 w6:=yO.out.trans (iU.mono iE)
  have ec:=aW.aeh iF.out (by have:=eT.out;omega) (by omega)
  obtain⟨e0,e1,e2,f0,f1,f2⟩:=ec.box.cells;have aP:=d6.mono iE;rw[eT.out]at aP aW;have c_:=zh (dq lC.out aP d7 aW ja);have rB:Hid (Bd N6):=mB.1.bd (by omega) (by omega);clear aW ec aP d7 iU d6;go_wp2;refine bodyPost_ret (v:=.agg #[.slice D0 N6.ends.length d0,.slice D1 N6.ids.length d1,.slice D2 N6.aea.length d2]) (by simp[results,Tryz.results178,go_sem, *]) rfl ?_;obtain⟨r1,r2,r3⟩:=c_.out;exact⟨_,_,_,N6,S6,rfl,r1,rB.out,r2.mono (by omega),r3⟩
 ·skip;go_wp2_with fail;refine(pC cb A L c (P+2) aU M w1 lD.out (by omega) yN nM (by omega)).mono ?_;rintro e w6 ⟨Fi,Fj,Fk,N6,S6,rfl,d6,mB,d7,iU⟩;obtain⟨D0,d0,rfl,-,-,-⟩:=id d6.read.1;obtain⟨D1,d1,rfl,-,-,-⟩:=id d6.read.2.1;obtain⟨D2,d2,rfl,-,-,-⟩:=id d6.read.2.2;have aW:CB cb B w0 w6:=yO.out.trans (iU.mono iE)
  have ec:=aW.aeh iF.out (by have:=eT.out;omega) (by omega)
  obtain⟨e0,e1,e2,f0,f1,f2⟩:=ec.box.cells;have aP:=d6.mono iE;rw[eT.out]at aP aW;have c_:=zh (dq lC.out aP d7 aW ja);have rB:Hid (Bd N6):=mB.1.bd (by omega) (by omega);clear aW ec aP d7 iU d6;go_wp2;refine bodyPost_ret (v:=.agg #[.slice D0 N6.ends.length d0,.slice D1 N6.ids.length d1,.slice D2 N6.aea.length d2]) (by simp[results,Tryz.results178,go_sem, *]) rfl ?_;obtain⟨r1,r2,r3⟩:=c_.out;exact⟨_,_,_,N6,S6,rfl,r1,rB.out,r2.mono (by omega),r3⟩
 ·skip;go_wp2_with fail;refine(pC cb A L c (P+2) aU M w1 lD.out (by omega) yN nM (by omega)).mono ?_;rintro e w6 ⟨Fi,Fj,Fk,N6,S6,rfl,d6,mB,d7,iU⟩;obtain⟨D0,d0,rfl,-,-,-⟩:=id d6.read.1;obtain⟨D1,d1,rfl,-,-,-⟩:=id d6.read.2.1;obtain⟨D2,d2,rfl,-,-,-⟩:=id d6.read.2.2;have aW:CB cb B w0 w6:=yO.out.trans (iU.mono iE)
  have ec:=aW.aeh iF.out (by have:=eT.out;omega) (by omega)
  obtain⟨e0,e1,e2,f0,f1,f2⟩:=ec.box.cells;have aP:=d6.mono iE;rw[eT.out]at aP aW;have c_:=zh (dq lC.out aP d7 aW ja);have rB:Hid (Bd N6):=mB.1.bd (by omega) (by omega);clear aW ec aP d7 iU d6;go_wp2;refine bodyPost_ret (v:=.agg #[.slice D0 N6.ends.length d0,.slice D1 N6.ids.length d1,.slice D2 N6.aea.length d2]) (by simp[results,Tryz.results178,go_sem, *]) rfl ?_;obtain⟨r1,r2,r3⟩:=c_.out;exact⟨_,_,_,N6,S6,rfl,r1,rB.out,r2.mono (by omega),r3⟩
 ·skip;go_wp2_with fail;refine(GU cb A L c (P+2) aU M w1 lD.out (by omega) yN nM (by omega)).mono ?_;rintro e w6 ⟨Fi,Fj,Fk,N6,S6,rfl,d6,mB,d7,iU⟩;obtain⟨D0,d0,rfl,-,-,-⟩:=id d6.read.1;obtain⟨D1,d1,rfl,-,-,-⟩:=id d6.read.2.1;obtain⟨D2,d2,rfl,-,-,-⟩:=id d6.read.2.2;have aW:CB cb B w0 w6:=yO.out.trans (iU.mono iE)
  have ec:=aW.aeh iF.out (by have:=eT.out;omega) (by omega)
  obtain⟨e0,e1,e2,f0,f1,f2⟩:=ec.box.cells;have aP:=d6.mono iE;rw[eT.out]at aP aW;have c_:=zh (dq lC.out aP d7 aW ja);have rB:Hid (Bd N6):=mB.1.bd (by omega) (by omega);clear aW ec aP d7 iU d6;go_wp2;refine bodyPost_ret (v:=.agg #[.slice D0 N6.ends.length d0,.slice D1 N6.ids.length d1,.slice D2 N6.aea.length d2]) (by simp[results,Tryz.results178,go_sem, *]) rfl ?_;obtain⟨r1,r2,r3⟩:=c_.out;exact⟨_,_,_,N6,S6,rfl,r1,rB.out,r2.mono (by omega),r3⟩
 ·skip;go_wp2_with fail;refine(OI cb A L c (P+2) aU M w1 lD.out (by omega) yN nM (by omega)).mono ?_;rintro e w6 ⟨Fi,Fj,Fk,N6,S6,rfl,d6,mB,d7,iU⟩;obtain⟨D0,d0,rfl,-,-,-⟩:=id d6.read.1;obtain⟨D1,d1,rfl,-,-,-⟩:=id d6.read.2.1;obtain⟨D2,d2,rfl,-,-,-⟩:=id d6.read.2.2;have aW:CB cb B w0 w6:=yO.out.trans (iU.mono iE)
  have ec:=aW.aeh iF.out (by have:=eT.out;omega) (by omega)
  obtain⟨e0,e1,e2,f0,f1,f2⟩:=ec.box.cells;have aP:=d6.mono iE;rw[eT.out]at aP aW;have c_:=zh (dq lC.out aP d7 aW ja);have rB:Hid (Bd N6):=mB;clear aW ec aP d7 iU d6;go_wp2;refine bodyPost_ret (v:=.agg #[.slice D0 N6.ends.length d0,.slice D1 N6.ids.length d1,.slice D2 N6.aea.length d2]) (by simp[results,Tryz.results178,go_sem, *]) rfl ?_;obtain⟨r1,r2,r3⟩:=c_.out;exact⟨_,_,_,N6,S6,rfl,r1,rB.out,r2.mono (by omega),r3⟩
 ·skip;go_wp2_with fail;refine(OE cb A L c (P+2) aU M w1 lD.out (by omega) yN nM (by omega)).mono ?_;rintro e w6 ⟨Fi,Fj,Fk,N6,S6,rfl,d6,mB,d7,iU⟩;obtain⟨D0,d0,rfl,-,-,-⟩:=id d6.read.1;obtain⟨D1,d1,rfl,-,-,-⟩:=id d6.read.2.1;obtain⟨D2,d2,rfl,-,-,-⟩:=id d6.read.2.2;have aW:CB cb B w0 w6:=yO.out.trans (iU.mono iE)
  have ec:=aW.aeh iF.out (by have:=eT.out;omega) (by omega)
  obtain⟨e0,e1,e2,f0,f1,f2⟩:=ec.box.cells;have aP:=d6.mono iE;rw[eT.out]at aP aW;have c_:=zh (dq lC.out aP d7 aW ja);have rB:Hid (Bd N6):=mB.1.bd (by omega) (by omega);clear aW ec aP d7 iU d6;go_wp2;refine bodyPost_ret (v:=.agg #[.slice D0 N6.ends.length d0,.slice D1 N6.ids.length d1,.slice D2 N6.aea.length d2]) (by simp[results,Tryz.results178,go_sem, *]) rfl ?_;obtain⟨r1,r2,r3⟩:=c_.out;exact⟨_,_,_,N6,S6,rfl,r1,rB.out,r2.mono (by omega),r3⟩
 ·skip;go_wp2_with fail;refine(OE cb A L c (P+2) aU M w1 lD.out (by omega) yN nM (by omega)).mono ?_;rintro e w6 ⟨Fi,Fj,Fk,N6,S6,rfl,d6,mB,d7,iU⟩;obtain⟨D0,d0,rfl,-,-,-⟩:=id d6.read.1;obtain⟨D1,d1,rfl,-,-,-⟩:=id d6.read.2.1;obtain⟨D2,d2,rfl,-,-,-⟩:=id d6.read.2.2;have aW:CB cb B w0 w6:=yO.out.trans (iU.mono iE)
  have ec:=aW.aeh iF.out (by have:=eT.out;omega) (by omega)
  obtain⟨e0,e1,e2,f0,f1,f2⟩:=ec.box.cells;have aP:=d6.mono iE;rw[eT.out]at aP aW;have c_:=zh (dq lC.out aP d7 aW ja);have rB:Hid (Bd N6):=mB.1.bd (by omega) (by omega);clear aW ec aP d7 iU d6;go_wp2;refine bodyPost_ret (v:=.agg #[.slice D0 N6.ends.length d0,.slice D1 N6.ids.length d1,.slice D2 N6.aea.length d2]) (by simp[results,Tryz.results178,go_sem, *]) rfl ?_;obtain⟨r1,r2,r3⟩:=c_.out;exact⟨_,_,_,N6,S6,rfl,r1,rB.out,r2.mono (by omega),r3⟩
def kV (n:ak):ak:={ ends:=n.ends,ids:=[],aea:=List.replicate n.ends.length 0 }
theorem xW {n:ak} (h:al (kV n)=true):1<=n.ends.length/\n.ends.length<=40:=aE (n:=kV n) h
theorem OQ {n:ak} (h:al (kV n)=true) {k:Nat} {es:List (Int×Int)} (bW:n.ends[k]?=some es):es.length<=6/\∀e∈es,0<=e.1/\e.1<n.ends.length:=bX (n:=kV n) h bW
theorem OR {n:ak} (h:al (kV n)=true) {cur:Int} (hc:0<=cur/\cur<n.ends.length):∀x∈eh n cur,0<=x/\x<n.ends.length:=nB (n:=kV n) h hc
theorem xX (n:ak):∀(f:Nat) (st:List Int×List Int) (i:Nat),sj (kV n) f st i=sj n f st i
 | 0,_,_=>rfl
 | f+1,st,i=>by
  unfold sj;rw[xX n f];rfl
theorem AA (n:ak) (v:Nat):bS (kV n) v=bS n v:=xX n _ _ _
theorem OS {n:ak} (h:al (kV n)=true) (f:Nat) (st:List Int×List Int) (i:Nat) (hB:BI n.ends.length st):(sj n f st i).length=n.ends.length:=by
 rw[<- xX];exact kQ (n:=kV n) h f st i hB
theorem K7 (n:ak) (v:Nat) (r:Int) (k:Nat):fg (kV n) v r k=fg n v r k:=by
 unfold fg;rw[AA]
theorem G3 (n:ak) (v:Nat):ai (kV n) v=ai n v:=by
 unfold ai;rw[AA];rfl
theorem G4 {n:ak} (h:al (kV n)=true) {v:Nat} (hv:v<n.ends.length):(fg n v 40 n.ends.length)[0]?=some (ai n v:Int):=by
 have:=xl (n:=kV n) h (v:=v) hv
 rw[K7,G3]at this;exact this
theorem Ep (ve vi vn:Value) (n:ak) (v:Nat) (w:World) (h:aQ w ve vi vn n) (hn:al (kV n)=true) (hv:v<n.ends.length):
  Calls Tryz.prog 166 #[.agg #[ve,vi,vn],.int .i64 v] w fun e w'=>∃u,e=.returned u/\Own w' w.heap.size u (bS n v)/\Below w.heap.size w w':=by
 have eS:=xW hn;have Hn:=zh hn
 obtain⟨w0,A,c,A2,c2,A3,c3,rfl,rfl,rfl,eV,hm,fJ,fB,HA,bK,aT,H,dL,dR,dU⟩:=zB h;clear h
 obtain⟨cA,Ya⟩:∃x,x=c:=⟨_,rfl⟩
 subst Ya;obtain⟨R,hR⟩:∃R,R=bS n v:=⟨_,rfl⟩
 have HR:=zh hR;rw[<- hR];have bB:aa w0 w0:=ad _;clear hn hR
 go_enter Tryz.func166,Tryz.ntmps166
 go_upto_region 1 with(fail);rw[<- bK.out]
 go_wp2_with (at_make;refine jp _ rfl _ _ rfl _ _ n.ends.length rfl rfl rfl rfl (by omega) ?_;intro w1 dT ay dV)
 obtain⟨g,hg⟩:∃g,g=w0.heap.size:=⟨_,rfl⟩
 rw[<- hg]at dT dV ⊢;have Hg:=zh hg;clear hg dV;go_wp2
 go_loopw [17] (fun i wr=>∃k:Nat,k<=n.ends.length/\i=.int .i64 k/\Own wr w0.heap.size (.slice (some ⟨g,0,none⟩) n.ends.length n.ends.length) (List.replicate k (-1)++List.replicate (n.ends.length-k) 0)/\aa w0 wr) (fun i _=>n.ends.length-(intOf i).toNat)
 case atStart=>exact⟨0,Nat.zero_le _,rfl,by have:=dT;simpa[Hg.out]using this,ay⟩
 case round=>
  obtain⟨k,hk,rfl,ho,hs⟩:=hrel;have Ho:=zh ho;have Hs:=zh hs;clear dT ay ho hs bB
  by_cases hlt:k<n.ends.length
  ·obtain⟨y,hy⟩:=aM (List.replicate k (-1:Int)++List.replicate (n.ends.length-k) 0) k (by simp;omega)
   have cz:=Ho.out.cell hy;have fz:=Ho.out.free k;clear hy;go_wp2;go_roundw
   case rel=>
    refine⟨k+1,by omega,by go_num,?_,Below.setCell Hs.out (by show w0.heap.size<=g;rw[Hg.out];exact Nat.le_refl _) _⟩
    have:=Ho.out.set (k:=k) (-1)
    have e:(List.replicate k (-1:Int)++List.replicate (n.ends.length-k) 0).set k (-1)=List.replicate (k+1) (-1)++List.replicate (n.ends.length-(k+1)) 0:=by
     rw[List.set_append_right _ _ (by simp),List.length_replicate,Nat.sub_self,show n.ends.length-k=(n.ends.length-(k+1))+1 by omega,List.replicate_succ,List.set_cons_zero,List.replicate_succ',List.append_assoc]
     rfl
    rwa [e]at this
   case measure=>simp[intOf];omega
  ·obtain rfl:k=n.ends.length:=by omega
   have eX:Hid (Own wr w0.heap.size (.slice (some ⟨g,0,none⟩) n.ends.length n.ends.length) (List.replicate n.ends.length (-1))):=by
    have:=Ho.out
    rwa [Nat.sub_self,List.replicate_zero,List.append_nil]at this
   have cz:=eX.out.cell (iQ (show v<(List.replicate n.ends.length (-1:Int)).length by simpa using hv))
   have fz:=eX.out.free v
   have P_:Hid (w0.heap.size<=g):=by rw[Hg.out];exact Nat.le_refl _
   obtain⟨w3,iR⟩:∃w3,w3=wr.setCell ⟨g,v,none⟩ (.int .i64 0):=⟨_,rfl⟩
   have i8:Hid (Own w3 w0.heap.size (.slice (some ⟨g,0,none⟩) n.ends.length n.ends.length) (bG n v).1):=by rw[iR];exact eX.out.set (k:=v) 0
   have ew:Hid (aa w0 w3):=by rw[iR];exact Below.setCell Hs.out P_.out _
   obtain⟨g2,lh⟩:∃g2,g2=wr.heap.size:=⟨_,rfl⟩
   have e3:w3.heap.size=wr.heap.size:=by rw[iR];simp
   obtain⟨w4,iC⟩:∃w4,w4=w3.alloc (.cells #[.int .i64 v] 3):=⟨_,rfl⟩
   have ut:Hid (Own w4 w0.heap.size (.slice (some ⟨g,0,none⟩) n.ends.length n.ends.length) (bG n v).1):=by rw[iC];exact i8.out.since (ag _ (ad _))
   have Hu4:Hid (Own w4 w0.heap.size (.slice (some ⟨g2,0,none⟩) (bG n v).2.length 1) (bG n v).2):=by
    rw[iC,lh,<- e3]
    have:=gU w3 [(v:Int)] (by simp[maxLen])
    exact this.mono ew.out.below.size
   have mG:Hid (aa w0 w4):=by rw[iC];exact ag _ ew.out
   have zJ:g2≠g:=by have:=(World.ownsRow.lt i8.out g rfl).2;omega
   clear e3;have xc:=zh iR;have J7:=zh iC;have Bq:=zh lh;clear iR iC lh;go_upto_region 9 with(fail);rw[<- xc.out,<- Bq.out,<- J7.out];clear cz fz;go_wp2
   go_loopw [7,8] (fun u i wr=>∃(f k:Nat) (st:List Int×List Int) (gu cu:Nat),i=.int .i64 k/\u=.slice (some ⟨gu,0,none⟩) st.2.length cu/\gu≠g/\BI n.ends.length st/\sj n f st k=R/\n.ends.length+1<=f+k/\k<=st.2.length/\Own wr w0.heap.size (.slice (some ⟨g,0,none⟩) n.ends.length n.ends.length) st.1/\Own wr w0.heap.size u st.2/\aa w0 wr) (fun _ i _=>n.ends.length+1-(intOf i).toNat)
   case atStart=>exact⟨n.ends.length+1,0,bG n v,g2,1,rfl,rfl,zJ,BI.start hv,HR.out.symm,by omega,Nat.zero_le _,ut.out,Hu4.out,mG.out⟩
   case round=>
    obtain⟨f,k,st,gu,cu,rfl,rfl,LQ,Do,zQ,hf,hk,ho,Yb,hs⟩:=hrel;have SO:=zh Do;have yT:=zh zQ;have Ho:=zh ho;have Ul:=zh Yb;have Hs:=zh hs;have s_:=Do.bd;clear Do zQ ho Yb hs zJ
    by_cases hlt:k<st.2.length
    ·obtain⟨f,rfl⟩:∃f',f=f'+1:=⟨f-1,by omega⟩
     obtain⟨x,hx⟩:=aM st.2 k hlt;have Bt:=SO.out.walk x (List.mem_of_getElem? hx);obtain⟨c,rfl⟩:=Int.eq_ofNat_of_zero_le Bt.1;have hc:c<n.ends.length:=by omega
     have cx:=ae (Ul.out.cell hx);have Um:=zh Bt
     have Yc:Hid (st.2.getD k 0=(c:Int)):=by show _=_;rw[zDd,hx];rfl
     have Hx:=zh hx;obtain⟨es,bW⟩:=aM n.ends c hc;obtain⟨vj,-⟩:=OQ Hn.out bW;have kw:=zh bW;obtain⟨jH,tA⟩:∃s,s=eh n c:=⟨_,rfl⟩
     have qh:Hid (es.map (·.1)=jH):=by show _=_;rw[tA,eh,Int.toNat_natCast,zDd,bW];rfl
     have Un:Hid (∀y∈jH,0<=y/\y<n.ends.length):=by rw[tA];exact OR Hn.out Um.out
     have MW:=zh tA
     have Bl:jH.length<=6:=by rw[<- qh.out,List.length_map];exact vj
     have kG:Hid (∀W,aa wr W->Calls Tryz.prog 186 #[.agg #[.slice A n.ends.length cA,.slice A2 n.ids.length c2,.slice A3 n.aea.length c3],.int .i64 c] W fun e w'=>∃u,e=.returned u/\Own w' wr.heap.size u jH/\Below W.heap.size W w'):=fun W hW=>by
      have:=iZ _ _ _ n c es W (H.out.keep (Hs.out.after hW).below) kw.out (by omega)
      rw[qh.out]at this;exact this.mono fun e w' ⟨u,h1,h2,h3⟩=>⟨u,h1,h2.mono (aa.below hW).size,h3⟩
     have q0:=ah dL Hs.out;have q1:=ah dR Hs.out;have q2:=ah dU Hs.out;clear hx Bt bW tA;go_upto_region 12 with(fail);refine cH (w0:=wr) 8 [false,false,false,false,false,true,true,false] (by kernel_rfl) (by kernel_rfl) (ad _) ?_;simp only[eE,ea,zT]
     iterate 6 (apply aR rfl;(intro W hW;go_simp;with_reducible rfl);simp only[zA])
     intro W hW;refine Or.inl ⟨rfl,?_⟩
     go_simp
     (with_reducible refine(kG.out W hW).mono ?_)
     rintro e W' ⟨un,rfl,eY,hb⟩;refine⟨_,rfl,hW.trans hb,?_⟩
     replace hW:=hW.trans hb
     obtain⟨Bn,dn,rfl,_⟩:=id eY.ints
     (try simp only[zA])
     refine dG (v:=?_) rfl ?_ hW ?_;rotate_left;(go_simp;with_reducible rfl)
     simp only[zA];simp only[bz];have s9:=zh (eY.mono Hs.out.below.size);have Bv:=fun q hq=>(World.ownsRow.lt eY q hq).1
     have LR:(Value.slice Bn jH.length dn).ownBlock≠some g:=fun e=>by have:=Bv g e;have:=(World.ownsRow.lt Ho.out g rfl).2;omega
     have Yd:(Value.slice Bn jH.length dn).ownBlock≠some gu:=fun e=>by have:=Bv gu e;have:=(World.ownsRow.lt Ul.out gu rfl).2;omega
     have FR:=zh (Ho.out.since hW);have Uo:=zh (Ul.out.since hW);have nl:=zh (Hs.out.after hW);have Hng:=zh LR;have Hnu:=zh Yd;have SQ:Hid (∀j,∃ys,((jH.take j).foldl (ba c) st).2=st.2++ys):=fun j=>jQ _ _ _
     clear eY Bv LR Yd hW cx q0 q1 q2;go_wp2
     go_loopw [7,42] (fun u i wr=>∃(j gu cu:Nat) (dP:List Int×List Int),j<=jH.length/\i=.int .i64 j/\dP=(jH.take j).foldl (ba c) st/\u=.slice (some ⟨gu,0,none⟩) dP.2.length cu/\gu≠g/\BI n.ends.length dP/\Own wr w0.heap.size (.slice (some ⟨g,0,none⟩) n.ends.length n.ends.length) dP.1/\Own wr w0.heap.size u dP.2 /\
      Own wr w0.heap.size (.slice Bn jH.length dn) jH/\(Value.slice Bn jH.length dn).ownBlock≠some gu/\aa w0 wr) (fun _ i _=>jH.length-(intOf i).toNat)
     case atStart=>exact⟨0,gu,cu,st,Nat.zero_le _,rfl,rfl,rfl,LQ,SO.out,FR.out,Uo.out,s9.out,Hnu.out,nl.out⟩
     case round=>
      obtain⟨j,gv,cv,dP,hj,rfl,xe,rfl,mE,xf,lU,MX,MY,MM,MZ⟩:=hrel;have pg:=zh xf;have Dp:=zh lU;have Bw:=zh MX;have Bx:=zh MY;have LU:=zh MZ;have qj:=zh xe;have Uq:=zh MM;have Ye:=xf.bd;clear xe xf lU MX MY MZ MM LQ
      by_cases mH:j<jH.length
      ·obtain⟨y,hy⟩:=aM jH j mH;have M0:=Un.out y (List.mem_of_getElem? hy);obtain⟨d,rfl⟩:=Int.eq_ofNat_of_zero_le M0.1;have hd:d<n.ends.length:=by omega
       rcases Bx.out.cases with⟨-,e1⟩ | ⟨gn,cn,en,abI,abJ⟩
       ·rw[e1]at mH;simp at mH
       injection en with en1 en2 en3
       subst en1;have cy:=Bx.out.cell hy;have rN:dP.1.length=n.ends.length:=pg.out.len;have cd:=Dp.out.cell (iQ (show d<dP.1.length by omega))
       have fd:=Dp.out.free d;obtain⟨z,hz⟩:∃z,z=dP.1.getD d 0:=⟨_,rfl⟩
       rw[<- hz]at cd;have Hz:=zh hz;have Hy:=zh hy
       have oy:Hid ((jH.take (j+1)).foldl (ba c) st=ba c dP d):=by show _=_;rw[tu hy,<- qj.out]
       have LV:=zh rN;have m3:IntKind.i64.wrap ((j:Int)+1)=(j:Int)+1:=aF _ (by omega) (by omega);clear hz hy M0 rN en2 en3
       by_cases lP:z<0
       ·have d9:c<dP.1.length:=by rw[LV.out];exact hc
        obtain⟨q,hq⟩:∃q,q=dP.1.getD c 0:=⟨_,rfl⟩
        have cq:=Dp.out.cell (iQ d9);rw[<- hq]at cq
        have hqb : -1<=q/\q<dP.2.length:=by rw[hq];exact pg.out.val _ (List.mem_of_getElem? (iQ d9))
        obtain⟨ys,w_⟩:=SQ.out j
        have cw:=Bw.out.cell (Bp (show dP.2=st.2++ys by rw[qj.out];exact w_) Hx.out)
        have mh:k<dP.2.length:=an (Bp (show dP.2=st.2++ys by rw[qj.out];exact w_) Hx.out)
        have m4:IntKind.i64.wrap (q+1)=q+1:=aF _ (by omega) (by omega)
        have xg:Hid (ba c dP d=(dP.1.set d (q+1),dP.2++[(d:Int)])):=by show _=_;unfold ba;rw[Int.toNat_natCast,Int.toNat_natCast,<- Hz.out,if_pos lP,<- hq]
        have Yf:Hid (BI n.ends.length (ba c dP d)):=pg.out.step (by omega) (by omega);obtain⟨w5,rO⟩:∃w5,w5=wr.setCell ⟨g,d,none⟩ (.int .i64 (q+1)):=⟨_,rfl⟩
        have M1:Hid (Own w5 w0.heap.size (.slice (some ⟨g,0,none⟩) n.ends.length n.ends.length) (dP.1.set d (q+1))):=by rw[rO];exact Dp.out.set (k:=d) (q+1)
        have Dq:Hid (Own w5 w0.heap.size (.slice (some ⟨gv,0,none⟩) dP.2.length cv) dP.2):=by rw[rO];exact pU Bw.out (by simpa[Value.ownBlock]using mE) _
        have Dr:Hid (Own w5 w0.heap.size (.slice (some ⟨gn,0,none⟩) jH.length dn) jH):=by rw[rO];exact pU Bx.out Hng.out _
        have FS:Hid (aa w0 w5):=by rw[rO];exact Below.setCell LU.out P_.out _
        have J2:=zh rO;have IS:=zh mE
        have cJ:Hid (dP.2.length+1<=17592186044416):=by show _<=_;omega
        clear hq rO w_;go_upto_region 17 with(fail);rw[<- J2.out];clear cy cd fd cq cw m4
        go_wp2_with (at_builtin;refine lZ rfl _ _ rfl rfl (Dq.out.since (ag _ (ad _))) w5.heap.size d rfl (by simp[go_sem]) cJ.out (by have:=FS.out.below.size;simp;omega) ?_;intro g7 c7 w7 Yg IT vm _)
        change World.grownBy _ w7 (some gv)at IT
        change (some gv=some g7\/g7=_)at vm
        have J8:Hid (Own w7 w0.heap.size (.slice (some ⟨g,0,none⟩) n.ends.length n.ends.length) (dP.1.set d (q+1))):=Own.grown (M1.out.keep (am w5 _)) IT (fun x hx e=>by simp[Value.ownBlock]at hx;cases e;exact IS.out hx.symm)
        have Ur:Hid (Own w7 w0.heap.size (.slice (some ⟨gn,0,none⟩) jH.length dn) jH):=Own.grown (Dr.out.keep (am w5 _)) IT (fun x hx e=>by cases e;exact Uq.out hx)
        have Us:Hid (Own w7 w0.heap.size (.slice (some ⟨g7,0,none⟩) (dP.2.length+1) c7) (dP.2++[(d:Int)])):=Yg;have M2:=zh (World.ownsRow.lt M1.out g rfl).2;have Ut:=zh (World.ownsRow.lt Dr.out gn rfl).2
        have Yh:Hid (g7≠g):=by
         rcases vm with e | e
         ·cases e;exact IS.out
         ·simp at e;exact fun e2=>by have:=M2.out;omega
        have Uu:Hid ((Value.slice (some ⟨gn,0,none⟩) jH.length dn).ownBlock≠some g7):=by
         rcases vm with e | e
         ·cases e;exact Uq.out
         ·simp at e;exact fun e2=>by simp[Value.ownBlock]at e2;have:=Ut.out;omega
        have FT:Hid (aa w0 w7):=Below.grown (show Below w0.heap.size w0 _ from ag _ FS.out) IT (by have:=FS.out.below.size;simp;omega) (fun x hx=>by cases hx;exact(World.ownsRow.lt Dq.out gv rfl).1)
        clear Yg IT vm;go_wp2;go_roundw
        case rel=>exact⟨j+1,g7,c7,ba c dP d,by omega,by go_num,oy.out.symm,by rw[xg.out];simp,Yh.out,Yf.out,by rw[xg.out];exact J8.out,by rw[xg.out];exact Us.out,Ur.out,Uu.out,FT.out⟩
        case measure=>simp[intOf];omega
       ·have Ds:Hid (ba c dP d=dP):=by show _=_;unfold ba;rw[Int.toNat_natCast,<- Hz.out,if_neg lP]
        go_wp2;go_roundw
        case rel=>exact⟨j+1,gv,cv,dP,by omega,by go_num,by rw[oy.out,Ds.out],rfl,mE,pg.out,Dp.out,Bw.out,Bx.out,Uq.out,LU.out⟩
        case measure=>simp[intOf];omega
      ·obtain rfl:j=jH.length:=by omega
       have rc:Hid (dP=jH.foldl (ba c) st):=by show _=_;rw[qj.out,List.take_length]
       have Yi:Hid (sj n f dP (k+1)=R):=by
        show _=_
        rw[<- yT.out,sj,if_pos hlt,Yc.out,<- MW.out,<- rc.out]
       have Uv:Hid (k+1<=dP.2.length):=by
        obtain⟨ys,w_⟩:=SQ.out jH.length;show _<=_
        rw[qj.out,w_,List.length_append];omega
       have m3:IntKind.i64.wrap ((k:Int)+1)=(k:Int)+1:=aF _ (by omega) (by omega);go_wp2;go_roundw
       case rel=>exact⟨f,k+1,dP,gv,cv,by go_num,rfl,mE,pg.out,Yi.out,by omega,Uv.out,Dp.out,Bw.out,LU.out⟩
       case measure=>simp[intOf];omega
    ·have Yj:Hid (R=st.1):=by
      rw[<- yT.out]
      obtain⟨f,rfl⟩ | h0:(∃f',f=f'+1)\/f=0:=by
       rcases Nat.eq_zero_or_pos f with h | h
       ·exact .inr h
       ·exact .inl ⟨f-1,by omega⟩
      ·show sj _ _ _ _=_
       rw[sj,if_neg hlt]
      ·subst h0;exact rfl
     go_wp2;go_ret
     exact⟨_,rfl,by rw[Yj.out];exact Ho.out.mono aT.out.size,aa.after aT.out Hs.out⟩
theorem Er (ve vi vn:Value) (n:ak) (v:Nat) (r:Int) (w:World) (h:aQ w ve vi vn n) (hn:al (kV n)=true) (hv:v<n.ends.length):
  Calls Tryz.prog 210 #[.agg #[ve,vi,vn],.int .i64 v,.int .i64 r] w fun e w'=>∃u,e=.returned u/\Own w' w.heap.size u (fg n v r n.ends.length)/\Below w.heap.size w w':=by
 have eS:=xW hn;have rg:=eS.1;have rh:=eS.2;have Hn:=zh hn
 obtain⟨w0,A,c,A2,c2,A3,c3,rfl,rfl,rfl,eV,hm,fJ,fB,HA,bK,aT,H,dL,dR,dU⟩:=zB h;clear h
 have bB:aa w0 w0:=ad _;clear hn eS
 go_enter Tryz.func210,Tryz.ntmps210
 go_upto_region 1 with(fail);rw[<- bK.out];go_wp2_with fail;refine(Ep _ _ _ n v w0 H.out Hn.out hv).mono ?_;obtain⟨ds,Ab⟩:∃ds,ds=bS n v:=⟨_,rfl⟩
 rw[<- Ab];rintro e w2 ⟨u2,rfl,dl,bj⟩
 have Ac:ds.length=n.ends.length:=by rw[Ab];exact OS Hn.out _ _ _ (BI.start hv)
 obtain⟨gd,cd,rfl⟩:∃gd cd,u2=.slice (some ⟨gd,0,none⟩) n.ends.length cd:=by
  rcases dl.cases with⟨-,e1⟩ | ⟨gd,cd,rfl,iH,lh⟩
  ·have:=congrArg List.length e1;rw[List.length_nil]at this;omega
  ·exact⟨gd,cd,by rw[Ac]⟩
 have eX:=zh dl;have b_:=zh (bB.trans bj);have Yq:=zh Ab;have Na:=zh Ac;clear dl bj Ab Ac bB;go_wp2
 go_loopw [7,14] (fun u i wr=>∃k:Nat,k<=n.ends.length/\i=.int .i64 k/\Own wr w2.heap.size u (fg n v r k)/\aa w2 wr) (fun _ i _=>n.ends.length-(intOf i).toNat)
 case atStart=>exact⟨0,Nat.zero_le _,rfl,by simpa[fg]using bH _ w2.heap.size,ad _⟩
 case round=>
  obtain⟨k,hk,rfl,ho,bA⟩:=hrel;have Ho:=zh ho;have Hs:=zh bA;clear ho bA
  by_cases hlt:k<n.ends.length
  ·have m3:IntKind.i64.wrap ((k:Int)+1)=(k:Int)+1:=aF _ (by omega) (by omega)
   obtain⟨d,hd⟩:=aM ds k (by rw[Na.out];exact hlt)
   have Nb:=(eX.out.since Hs.out).cell hd
   have jm:=zh (ux (r:=r) (show(bS n v)[k]?=some d by rw[<- Yq.out];exact hd))
   have cJ:Hid ((fg n v r k).length+1<=17592186044416):=by show _<=_;have:=xk n v r k;omega
   clear hd;go_upto_region 5 with(fail);go_wp2_with fail;refine(k7 _ _ _ _).mono ?_;rintro e w' ⟨rfl,rfl⟩;cases hb:ey 0 r d
   ·rw[hb]at jm;clear Nb;go_wp2;go_roundw
    case rel=>exact⟨k+1,by omega,by first | rfl | go_num,by rw[jm.out];exact Ho.out,Hs.out⟩
    case measure=>simp[intOf];omega
   ·rw[hb]at jm;clear Nb
    go_wp2_with (at_builtin;refine dy rfl _ _ rfl rfl (Ho.out.since (ag _ (ad _))) wr.heap.size k rfl (by simp[go_sem]) cJ.out (ag _ Hs.out) ?_;intro g cc w3 eH hZ)
    have i8:=zh eH;have ew:=zh hZ;clear eH hZ;go_wp2;go_roundw
    case rel=>exact⟨k+1,by omega,by first | rfl | go_num,by rw[jm.out,if_pos trivial];exact i8.out,ew.out⟩
    case measure=>simp[intOf];omega
  ·obtain rfl:k=n.ends.length:=by omega
   clear hk hlt;go_wp2;go_ret;exact⟨_,rfl,Ho.out.mono (Nat.le_trans aT.out.size b_.out.below.size),aa.after aT.out (b_.out.after Hs.out)⟩
theorem K8 (ve vi vn:Value) (n:ak) (w:World) (h:aQ w ve vi vn n) (hn:al (kV n)=true):
  Calls Tryz.prog 164 #[.agg #[ve,vi,vn]] w fun e w'=>∃u,e=.returned u/\Own w' w.heap.size u (bn n)/\Below w.heap.size w w':=by
 have eS:=xW hn;have rg:=eS.1;have rh:=eS.2;have Hn:=zh hn
 obtain⟨w0,A,c,A2,c2,A3,c3,rfl,rfl,rfl,eV,hm,fJ,fB,HA,bK,aT,H,dL,dR,dU⟩:=zB h;clear h
 have bB:aa w0 w0:=ad _;clear hn eS;unfold bn
 go_enter Tryz.func164,Tryz.ntmps164
 go_upto_region 1 with(fail);rw[<- bK.out];go_wp2
 go_loopw [3,8] (fun u i wr=>∃k:Nat,k<=n.ends.length/\i=.int .i64 k/\Own wr w0.heap.size u ((List.range k).map fun v=>(ai n v:Int))/\aa w0 wr) (fun _ i _=>n.ends.length-(intOf i).toNat)
 case atStart=>exact⟨0,Nat.zero_le _,rfl,by simpa using bH _ w0.heap.size,bB⟩
 case round=>
  obtain⟨k,hk,rfl,ho,bA⟩:=hrel;have Ho:=zh ho;have Hs:=zh bA;clear ho bB
  by_cases hlt:k<n.ends.length
  ·have m3:IntKind.i64.wrap ((k:Int)+1)=(k:Int)+1:=aF _ (by omega) (by omega)
   have cJ:Hid (((List.range k).map fun v=>(ai n v:Int)).length+1<=17592186044416):=by show _<=_;simp;omega
   have jm:=zh (xx n k);go_wp2_with fail;refine(Er _ _ _ n k 40 wr (H.out.keep Hs.out.below) Hn.out hlt).mono ?_;rintro e w2 ⟨u2,rfl,dl,bj⟩;have hl:=G4 Hn.out hlt
   obtain⟨gd,m,cd,rfl,hm⟩:∃gd m cd,u2=.slice (some ⟨gd,0,none⟩) m cd/\0<m:=by
    rcases dl.cases with⟨-,e1⟩ | ⟨gd,cd,rfl,iH,lh⟩
    ·rw[e1]at hl;cases hl
    ·refine⟨gd,_,cd,rfl,?_⟩
     cases hq:fg n k 40 n.ends.length with
     | nil=>rw[hq]at hl;cases hl
     | cons a b=>simp
   obtain⟨y,hy⟩:∃y,y=(ai n k:Int):=⟨_,rfl⟩
   rw[<- hy]at hl jm;have Nb:=dl.cell hl;have rM:(0:Int)<m:=by omega
   have b_:=zh (Hs.out.after bj);have eX:=zh (Ho.out.since bj);have Hy:=zh hy;clear dl bj hl bA hy
   go_wp2_with (at_builtin;refine dy rfl _ _ rfl rfl (eX.out.since (ag _ (ad _))) w2.heap.size y rfl (by simp[go_sem]) cJ.out (ag _ b_.out) ?_;intro g cc w3 eH hZ)
   have i8:=zh eH;have ew:=zh hZ;clear eH hZ;go_wp2;go_roundw
   case rel=>exact⟨k+1,by omega,by first | rfl | go_num,by rw[jm.out];have:=i8.out;simpa using this,ew.out⟩
   case measure=>simp[intOf];omega
  ·obtain rfl:k=n.ends.length:=by omega
   clear hk hlt;go_wp2;go_ret;exact⟨_,rfl,Ho.out.mono aT.out.size,aa.after aT.out Hs.out⟩
theorem Es {ix:List (List (Int×Int))} {v i:Int}:cj ix v i=true↔0<=v/\v<ix.length/\0<=i/\i<((ix.getD v.toNat []).length:Int):=by
 unfold cj;rw[Bool.and_eq_true,ap,ap];omega
structure acr (n:ak) (p q:Int×Int):Prop where
 ok:al n=true
 hp:cj n.ends p.1 p.2=true
 hq:cj n.ends q.1 q.2=true
 n1:p≠q
 n2:fN n.ends p.1 p.2≠q
 n3:fN n.ends p.1 p.2≠p
 n4:fN n.ends q.1 q.2≠q
theorem m_ {n:ak}:al n=true↔(1<=n.ends.length/\n.ends.length<=40)/\vb n.ids n.ends.length=true/\js n.aea n.ends.length=true/\(∀k,k<n.ends.length->(n.ends.getD k []).length<=6) /\
  ∀v i,cj n.ends v i=true->cj n.ends (fN n.ends v i).1 (fN n.ends v i).2=true/\fN n.ends (fN n.ends v i).1 (fN n.ends v i).2=(v,i):=by
 constructor
 ·intro h;refine⟨aE h,?_,?_,?_,fun v i hp=>tq h hp⟩
  ·unfold al at h;simp only[Bool.and_eq_true]at h;exact h.1.1.2
  ·unfold al at h;simp only[Bool.and_eq_true]at h;exact h.1.2
  ·intro k hk;obtain⟨es,bW⟩:=aM n.ends k hk;rw[au bW];exact(bX h bW).1
 ·rintro⟨h1,h2,h3,h4,h5⟩;unfold al;simp only[Bool.and_eq_true,List.all_eq_true,List.mem_range,ap];refine⟨⟨⟨by omega,h2⟩,h3⟩,fun k hk=>?_⟩
  unfold gS jt
  simp only[Bool.and_eq_true,List.all_eq_true,List.mem_range,decide_eq_true_eq];refine⟨h4 k hk,fun i hi=>?_⟩
  have:=h5 (k:Int) (i:Int) (Es.2 ⟨by omega,by omega,by omega,by rw[Int.toNat_natCast];omega⟩)
  unfold fN at this;rw[Int.toNat_natCast,Int.toNat_natCast]at this
  exact⟨this.1,by unfold yB;exact decide_eq_true this.2⟩
structure ad0 (n:ak) (ls:List Int) (p q:Int×Int):Prop extends acr n p q where
 s2:p.2=q.2
 t2:(fN n.ends p.1 p.2).2=(fN n.ends q.1 q.2).2
 s1:nm ls p=nm ls q
 t1:nm ls (fN n.ends p.1 p.2)=nm ls (fN n.ends q.1 q.2)
end Go.Proofs.YtgmdpppljkmabaaGreat
